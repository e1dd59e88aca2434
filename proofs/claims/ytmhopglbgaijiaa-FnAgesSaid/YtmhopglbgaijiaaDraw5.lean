/- The drawing functions of the reference: the cursor, a small transaction. Each condition stands in its theorem. -/
import Derived.Test.YtmhopglbgaijiaaDraw4
set_option linter.unusedVariables false
set_option linter.unusedSimpArgs false
namespace Go.Proofs.Ytmhopglbgaijiaa
open Go.ChangeShapes Go.WideShapes Go.ChangeAt Go.RowKit

theorem World.alloc_new (w : World) (o : Obj) : (w.alloc o).heap[w.heap.size]? = some o := by
  show (w.heap.push o)[w.heap.size]? = some o
  simp
theorem newCur {w : World} {X : Ext} {v : Value} {bs : List UInt8} {x : Int} (hsz : (w.ext X).heap.size = w.heap.size) (hs : Sl w v bs.length (bytesOf bs)) (hb : ∀ b, v.ownBlock = some b → b < w.heap.size) (hl : bs.length ≤ 140737488351232) :
    Cur ((w.ext X).alloc (.cells #[v, .int .i64 0, .int .i64 x] 72)) w.heap.size v bs 0 x := by
  refine ⟨?_, (hs.ext X).alloc _, Int.le_refl _, by omega, fun e => absurd (hb _ e) (Nat.lt_irrefl _), hl⟩
  rw [← hsz]
  exact World.alloc_new _ _

theorem spec_l01New (v : Value) (bs : List UInt8) (w : World) (hs : Sl w v bs.length (bytesOf bs)) (hl : bs.length ≤ 140737488351232) (hb : ∀ b, v.ownBlock = some b → b < w.heap.size) :
    Calls Try.prog 29 #[v] w fun e w' => ∃ p, e = .returned (.pointer (some ⟨p, 0, none⟩)) ∧ (∃ h, Cur w' p v bs 0 h) ∧ Below w.heap.size w w' ∧ w.heap.size ≤ p := by
  have HS := Lib.hid hs
  have HB := Lib.hid hb
  obtain ⟨ao, cap, rfl, hc1, hc2, hnil, hcell⟩ := hs.shape
  have HX := Lib.hid hcell
  clear hcell hs hb hnil
  unfold maxLen at hc2
  go_enter Try.func29, Try.ntmps29
  go_wp2
  go_loopw [3, 4] (fun hv iv wr => ∃ (x : Int) (n : Nat), hv = .int .i64 x ∧ iv = .int .i64 n ∧ n ≤ bs.length ∧ n ≤ 4000 ∧ Below w.heap.size w wr ∧ wr.heap.size = w.heap.size) (fun _ k _ => 4000 - (intOf k).toNat)
  case atStart => exact ⟨_, 0, rfl, rfl, by omega, by omega, (by repeat (first | with_reducible exact Below.refl _ _ | with_reducible apply Below.ofExt | with_reducible apply Below.ofAlloc | with_reducible apply Below.drew | with_reducible apply Below.ofDrewN | with_reducible assumption | (with_reducible refine Below.setCell ?_ (by first | exact Nat.le_refl _ | (simp [go_sem]; done) | (simp [go_sem]; omega)) _))), rfl⟩
  case round =>
    obtain ⟨x, n, rfl, rfl, hn1, hn2, hbel, hsz⟩ := hrel
    obtain ⟨X, rfl⟩ := hbel.ext
    by_cases h1 : (n : Int) < bs.length
    · by_cases h2 : (n : Int) < 4000
      · obtain ⟨b, off, rfl, hcell⟩ := HX.out (by omega)
        have hk : n < bs.length := by omega
        have hcc : w.cell? ⟨b, off + n, none⟩ = some (.int .u8 (bs[n].toNat)) := hcell n _ (by simp [bytesOf, hk])
        have hbk : bs[n].toNat < 256 := bs[n].toNat_lt
        generalize bs[n].toNat = q at hcc hbk
        have hbl := World.block_lt_of_cell? w _ hcc
        clear hcell
        go_wp2
        go_roundw
        case rel => exact ⟨_, n + 1, rfl, by go_num, by omega, by omega, (by repeat (first | with_reducible exact Below.refl _ _ | with_reducible apply Below.ofExt | with_reducible apply Below.ofAlloc | with_reducible apply Below.drew | with_reducible apply Below.ofDrewN | with_reducible assumption | (with_reducible refine Below.setCell ?_ (by first | exact Nat.le_refl _ | (simp [go_sem]; done) | (simp [go_sem]; omega)) _))), by simpa using hsz⟩
        case measure => simp [intOf]; omega
      · go_wp2
        go_ret
        exact ⟨w.heap.size, rfl, ⟨x, newCur (by simpa using hsz) HS.out HB.out hl⟩, (by repeat (first | with_reducible exact Below.refl _ _ | with_reducible apply Below.ofExt | with_reducible apply Below.ofAlloc | with_reducible apply Below.drew | with_reducible apply Below.ofDrewN | with_reducible assumption | (with_reducible refine Below.setCell ?_ (by first | exact Nat.le_refl _ | (simp [go_sem]; done) | (simp [go_sem]; omega)) _))), Nat.le_refl _⟩
    · go_wp2
      go_ret
      exact ⟨w.heap.size, rfl, ⟨x, newCur (by simpa using hsz) HS.out HB.out hl⟩, (by repeat (first | with_reducible exact Below.refl _ _ | with_reducible apply Below.ofExt | with_reducible apply Below.ofAlloc | with_reducible apply Below.drew | with_reducible apply Below.ofDrewN | with_reducible assumption | (with_reducible refine Below.setCell ?_ (by first | exact Nat.le_refl _ | (simp [go_sem]; done) | (simp [go_sem]; omega)) _))), Nat.le_refl _⟩

/-- a slice as it lies in a row -/
structure Raw where
  a : Option Addr
  n : Nat
  cap : Nat
def Raw.v (r : Raw) : Value := .slice r.a r.n r.cap
/-- a transaction as it lies in a row -/
structure TxR where
  id : Int
  age : Int
  proc : Int
  began : Int
  calls : Raw
  answers : Raw
  tr : Raw
  tw : Raw
  marks : Raw
  state : Int
def TxR.cells (x : TxR) : List Value := [.int .i64 x.id, .int .i64 x.age, .int .i64 x.proc, .int .i64 x.began, x.calls.v, x.answers.v, x.tr.v, x.tw.v, x.marks.v, .int .i64 x.state]
def TxR.v (x : TxR) : Value := .agg #[.int .i64 x.id, .int .i64 x.age, .int .i64 x.proc, .int .i64 x.began, x.calls.v, x.answers.v, x.tr.v, x.tw.v, x.marks.v, .int .i64 x.state]
def rTx : RowOf TxR := ⟨TxR.cells, 10, fun _ => rfl, by intro x; simp [TxR.cells, Value.oneCell', Raw.v]⟩

set_option maxRecDepth 100000 in
theorem spec_l20Small (p : Nat) (vb : Value) (bs : List UInt8) (i h : Int) (w : World) (hc : Cur w p vb bs i h) :
    Calls Try.prog 30 #[.pointer (some ⟨p, 0, none⟩)] w fun e w' => ∃ (x : TxR) (i' h' : Int), e = .returned x.v ∧ 0 ≤ x.age ∧ x.age ≤ 5 ∧ Got p w (curObj vb i' h') w' ∧ 0 ≤ i' ∧ i' ≤ bs.length := by
  have hp := hc.lt
  have HC := Lib.hid hc
  clear hc
  go_enter Try.func30, Try.ntmps30
  go_wp2_with fail
  (go_at_call 35; refine (spec_l01Below p vb bs _ _ _ _ (HC.out.alloc _) (by omega)).mono ?_; rintro e w1 ⟨x, i1, h1, rfl, ⟨hx0, hx1, _⟩, hg1, hi0, hi1⟩)
  have hc1 := (HC.out.alloc _).got hg1 hi0 hi1
  have hx2 := hx1 (by omega)
  clear hx1
  go_wp2_with fail
  (go_at_call 35; refine (spec_l01Below p vb bs _ _ _ _ hc1 (by omega)).mono ?_; rintro e w2 ⟨y, i2, h2, rfl, ⟨hy0, hy1, _⟩, hg2, hj0, hj1⟩)
  have hc2 := hc1.got hg2 hj0 hj1
  have hy2 := hy1 (by omega)
  clear hy1
  go_wp2_with fail
  (go_at_call 52; refine (spec_l01PickInt p vb bs _ _ _ [1, 1, 1, 2, 3] _ (hc2.alloc _) (RdL.lit rInt w2 [1, 1, 1, 2, 3] 5 rfl (by decide) _ rfl _) (by decide) (by decide) (by have := hc2.lt; simp [Value.ownBlock]; omega)).mono ?_; rintro e w3 ⟨z, i3, h3, rfl, hz, hg3, hk0, hk1⟩)
  have hc3 := (hc2.alloc _).got hg3 hk0 hk1
  go_wp2_with fail
  (go_at_call 32; refine (spec_l03Touch p vb bs _ _ _ hc3).mono ?_; rintro e w4 ⟨vr, vw, rs, ws, i4, h4, rfl, hr, hw, _, _, _, _, hg4, hm0, hm1⟩)
  obtain ⟨ar, cr, rfl⟩ := hr.form
  obtain ⟨aw, cw, rfl⟩ := hw.form
  have hb1 := (hg1.other (b := w.heap.size) (by simp) (by omega)).trans (World.alloc_new _ _)
  have hb2 := (hg2.other (World.lt_of_get hb1) (by omega)).trans hb1
  have hb3 := (hg3.other (b := w.heap.size) (by have := World.lt_of_get hb2; simp; omega) (by omega)).trans ((Below.heap_alloc w2 _ _ (World.lt_of_get hb2)).trans hb2)
  have hb4 := (hg4.other (World.lt_of_get hb3) (by omega)).trans hb3
  have hlt := World.lt_of_get hb4
  have hgg := (((hg1.ofAlloc hp).then hg2 hp).then (hg3.ofAlloc (by have := hg1.size; have := hg2.size; simp at *; omega)) hp).then hg4 hp
  rw [← World.setB_self hb4]
  clear hb1 hb2 hb3 hb4
  go_wp2
  refine bodyPost_ret (by simp [results, Try.results30, go_sem, hlt]; rfl) rfl ?_
  exact ⟨⟨1 + x, y, 0, 0, ⟨none, 0, 0⟩, ⟨none, 0, 0⟩, ⟨ar, _, cr⟩, ⟨aw, _, cw⟩, ⟨none, 0, 0⟩, z⟩, i4, h4, rfl, hy0, by show y ≤ 5; omega, hgg.past (Nat.le_refl _) _, hm0, hm1⟩
theorem Try.elemTxs : Elem Try.prog 34 31 10 160 := Elem.of (.agg (TxR.cells ⟨0, 0, 0, 0, ⟨none, 0, 0⟩, ⟨none, 0, 0⟩, ⟨none, 0, 0⟩, ⟨none, 0, 0⟩, ⟨none, 0, 0⟩, 0⟩).toArray) Try.underlying34 (by kernel_rfl) rfl (by decide)
set_option maxRecDepth 100000 in
theorem spec_l20List (p : Nat) (vb : Value) (bs : List UInt8) (i h : Int) (w : World) (hc : Cur w p vb bs i h) :
    Calls Try.prog 31 #[.pointer (some ⟨p, 0, none⟩)] w fun e w' => ∃ (v : Value) (xs : List TxR) (i' h' : Int), e = .returned v ∧ RdL rTx w' v xs ∧ xs.length ≤ 4 ∧ (∀ x ∈ xs, 0 ≤ x.age ∧ x.age ≤ 5) ∧ Got p w (curObj vb i' h') w' ∧ 0 ≤ i' ∧ i' ≤ bs.length := by
  have hp := hc.lt
  have HC := Lib.hid hc
  clear hc
  go_enter Try.func31, Try.ntmps31
  go_wp2
  go_loopw [3, 4] (fun v k wr => ∃ (n : Nat) (xs : List TxR) (i' h' : Int), k = .int .i64 n ∧ n ≤ 4 ∧ xs.length = n ∧ (∀ x ∈ xs, 0 ≤ x.age ∧ x.age ≤ 5) ∧ OwnL rTx 31 wr w.heap.size v xs ∧ Got p w (curObj vb i' h') wr ∧ 0 ≤ i' ∧ i' ≤ bs.length) (fun _ k _ => 4 - (intOf k).toNat)
  case atStart =>
    exact ⟨0, [], i, h, rfl, by omega, rfl, by simp, OwnL.empty rTx _ _, (Got.self HC.out.blk).alloc _, HC.out.lo, HC.out.hi⟩
  case round =>
    obtain ⟨n, xs, i1, h1, rfl, hn, rfl, hxs, ho, hg, hi0, hi1⟩ := hrel
    have hc1 := HC.out.got hg hi0 hi1
    obtain ⟨ao, co, rfl⟩ := ho.rd.form
    have hvp : (Value.slice ao xs.length co).ownBlock ≠ some p := fun e => by have := (ho.lt p e).1; omega
    have HO := Lib.hid ho
    have HP := Lib.hid hvp
    have HXS := Lib.hid hxs
    clear ho hvp hxs
    go_wp2_with fail
    (go_at_call 35; refine (spec_l01Below p vb bs _ _ _ _ hc1 (by omega)).mono ?_; rintro e w2 ⟨x, i2, h2, rfl, ⟨hx0, hx1, _⟩, hg2, hj0, hj1⟩)
    have hc2 := hc1.got hg2 hj0 hj1
    have hx2 := hx1 (by omega)
    clear hx1
    by_cases hlt : (xs.length : Int) < x
    · go_wp2_with fail
      (go_at_call 30; refine (spec_l20Small p vb bs _ _ _ hc2).mono ?_; rintro e w3 ⟨y, i3, h3, rfl, hy0, hy1, hg3, hk0, hk1⟩)
      have hc3 := hc2.got hg3 hk0 hk1
      unfold TxR.v Raw.v
      have hown3 : OwnL rTx 31 w3 w.heap.size _ xs := (HO.out.got hg2 HP.out).got hg3 HP.out
      have hgg := (hg.then hg2 hp).then hg3 hp
      have hs3 := hgg.size
      go_wp2_with (at_builtin; refine Stop.here ?_)
      refine wpList_appL rfl _ _ _ rfl Try.elemTxs ((hown3.alloc _).alloc _) rfl (RdL.oneAt rTx (w3.alloc _) ⟨xs.length + 1, y.age, y.proc, y.began, y.calls, y.answers, y.tr, y.tw, y.marks, y.state⟩ _ rfl _ (w3.heap.size + 1) (by simp)) rfl (by simp only [List.length_singleton]; omega) (by simp only [List.length_singleton]; unfold maxLen; omega) (by simp; omega) ?_
      intro v4 w4 hown4 hgr4 _
      have hg4 : Got p w _ w4 := Got.app ((hgg.alloc _).alloc _) hgr4 ((hown3.alloc _).alloc _)
      go_wp2
      go_roundw
      case rel => exact ⟨xs.length + 1, _, i3, h3, by go_num, by omega, by simp, by
        intro x hx
        rcases List.mem_append.1 hx with hx | hx
        · exact HXS.out x hx
        · rw [List.mem_singleton.1 hx]; exact ⟨hy0, hy1⟩, hown4, hg4, hk0, hk1⟩
      case measure => simp [intOf]; omega
    · go_wp2
      go_ret
      exact ⟨_, xs, i2, h2, rfl, HO.out.rd.got hg2 HP.out, by omega, HXS.out, hg.then hg2 hp, hj0, hj1⟩
end Go.Proofs.Ytmhopglbgaijiaa
