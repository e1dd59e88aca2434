/- The drawing functions of the reference: the cursor, a small transaction. Each condition stands in its theorem. -/
import Derived.Test.YtkfkbojcnbpmdaaGreatDoorDraw4
set_option linter.unusedVariables false
set_option linter.unusedSimpArgs false
namespace Go.Proofs.YtkfkbojcnbpmdaaGreatDoor
open Go.ChangeShapes Go.WideShapes Go.ChangeAt Go.RowKit

theorem World.alloc_new (w : World) (o : Obj) : (w.alloc o).heap[w.heap.size]? = some o := by
  show (w.heap.push o)[w.heap.size]? = some o
  simp
theorem newCur {w : World} {X : Ext} {v : Value} {bs : List UInt8} {x : Int} (hsz : (w.ext X).heap.size = w.heap.size) (hs : Sl w v bs.length (bytesOf bs)) (hb : ∀ b, v.ownBlock = some b → b < w.heap.size) (hl : bs.length ≤ 140737488351232) :
    Cur ((w.ext X).alloc (.cells #[v, .int .i64 0, .int .i64 x] 66)) w.heap.size v bs 0 x := by
  refine ⟨?_, (hs.ext X).alloc _, Int.le_refl _, by omega, fun e => absurd (hb _ e) (Nat.lt_irrefl _), hl⟩
  rw [← hsz]
  exact World.alloc_new _ _

theorem spec_l01New (v : Value) (bs : List UInt8) (w : World) (hs : Sl w v bs.length (bytesOf bs)) (hl : bs.length ≤ 140737488351232) (hb : ∀ b, v.ownBlock = some b → b < w.heap.size) :
    Calls Tryz.prog 17 #[v] w fun e w' => ∃ p, e = .returned (.pointer (some ⟨p, 0, none⟩)) ∧ (∃ h, Cur w' p v bs 0 h) ∧ Below w.heap.size w w' ∧ w.heap.size ≤ p := by
  have HS := Lib.hid hs
  have HB := Lib.hid hb
  obtain ⟨ao, cap, rfl, hc1, hc2, hnil, hcell⟩ := hs.shape
  have HX := Lib.hid hcell
  clear hcell hs hb hnil
  unfold maxLen at hc2
  go_enter Tryz.func17, Tryz.ntmps17
  go_wp2
  go_loopw [3, 4] (fun hv iv wr => ∃ (x : Int) (n : Nat), hv = .int .i64 x ∧ iv = .int .i64 n ∧ n ≤ bs.length ∧ n ≤ 4000 ∧ Below w.heap.size w wr ∧ wr.heap.size = w.heap.size) (fun _ k _ => 4000 - (intOf k).toNat)
  case atStart => exact ⟨_, 0, rfl, rfl, by omega, by omega, (by repeat (first | with_reducible exact Below.refl _ _ | with_reducible apply Below.ofExt | with_reducible apply Below.ofAlloc | with_reducible apply Below.drew | with_reducible apply Below.ofDrewN | with_reducible assumption | (with_reducible refine Below.setCell ?_ (by first | exact Nat.le_refl _ | (simp [go_sem]; done) | (simp [go_sem]; omega)) _))), rfl⟩
  case round =>
    obtain ⟨x, n, rfl, rfl, hn1, hn2, hbel, hsz⟩ := hrel
    obtain ⟨X, rfl⟩ := hbel.ext
    by_cases h1 : (n : Int) < bs.length
    · by_cases h2 : (n : Int) < 4000
      · obtain ⟨b, off, rfl, hcell⟩ := HX.out (by omega)
        have hk : n < bs.length := by omega
        have hcc : w.cell? ⟨b, off + n, none⟩ = some (.int .u8 (bs[n].toNat)) := hcell n _ (by simp [bytesOf, hk])
        have hbk : bs[n].toNat < 256 := bs[n].toNat_lt
        generalize bs[n].toNat = q at hcc hbk
        have hbl := World.block_lt_of_cell? w _ hcc
        clear hcell
        go_wp2
        go_roundw
        case rel => exact ⟨_, n + 1, rfl, by go_num, by omega, by omega, (by repeat (first | with_reducible exact Below.refl _ _ | with_reducible apply Below.ofExt | with_reducible apply Below.ofAlloc | with_reducible apply Below.drew | with_reducible apply Below.ofDrewN | with_reducible assumption | (with_reducible refine Below.setCell ?_ (by first | exact Nat.le_refl _ | (simp [go_sem]; done) | (simp [go_sem]; omega)) _))), by simpa using hsz⟩
        case measure => simp [intOf]; omega
      · go_wp2
        go_ret
        exact ⟨w.heap.size, rfl, ⟨x, newCur (by simpa using hsz) HS.out HB.out hl⟩, (by repeat (first | with_reducible exact Below.refl _ _ | with_reducible apply Below.ofExt | with_reducible apply Below.ofAlloc | with_reducible apply Below.drew | with_reducible apply Below.ofDrewN | with_reducible assumption | (with_reducible refine Below.setCell ?_ (by first | exact Nat.le_refl _ | (simp [go_sem]; done) | (simp [go_sem]; omega)) _))), Nat.le_refl _⟩
    · go_wp2
      go_ret
      exact ⟨w.heap.size, rfl, ⟨x, newCur (by simpa using hsz) HS.out HB.out hl⟩, (by repeat (first | with_reducible exact Below.refl _ _ | with_reducible apply Below.ofExt | with_reducible apply Below.ofAlloc | with_reducible apply Below.drew | with_reducible apply Below.ofDrewN | with_reducible assumption | (with_reducible refine Below.setCell ?_ (by first | exact Nat.le_refl _ | (simp [go_sem]; done) | (simp [go_sem]; omega)) _))), Nat.le_refl _⟩

/-- a slice as it lies in a row -/
structure Raw where
  a : Option Addr
  n : Nat
  cap : Nat
def Raw.v (r : Raw) : Value := .slice r.a r.n r.cap
/-- a transaction as it lies in a row -/
structure TxR where
  id : Int
  age : Int
  proc : Int
  began : Int
  calls : Raw
  answers : Raw
  tr : Raw
  tw : Raw
  marks : Raw
  state : Int
def TxR.cells (x : TxR) : List Value := [.int .i64 x.id, .int .i64 x.age, .int .i64 x.proc, .int .i64 x.began, x.calls.v, x.answers.v, x.tr.v, x.tw.v, x.marks.v, .int .i64 x.state]
def TxR.v (x : TxR) : Value := .agg #[.int .i64 x.id, .int .i64 x.age, .int .i64 x.proc, .int .i64 x.began, x.calls.v, x.answers.v, x.tr.v, x.tw.v, x.marks.v, .int .i64 x.state]
def rTx : RowOf TxR := ⟨TxR.cells, 10, fun _ => rfl, by intro x; simp [TxR.cells, Value.oneCell', Raw.v]⟩

end Go.Proofs.YtkfkbojcnbpmdaaGreatDoor
