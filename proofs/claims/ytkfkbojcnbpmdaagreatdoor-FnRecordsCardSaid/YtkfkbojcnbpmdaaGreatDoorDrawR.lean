/- The drawn lists of cells and places of the records' laws. Each condition stands in its theorem. -/
import Derived.Test.YtkfkbojcnbpmdaaGreatDoorDrawD
import Derived.Test.YtkfkbojcnbpmdaaGreatDoorOrdP
set_option linter.unusedVariables false
set_option linter.unusedSimpArgs false
namespace Go.Proofs.YtkfkbojcnbpmdaaGreatDoor
open Go.ChangeShapes Go.WideShapes Go.ChangeAt Go.RowKit

theorem _root_.Go.Got.toBelowR {a w w' : World} {p : Nat} {o : Obj} (h : Got p w o w') (hb : Below a.heap.size a w) (hp : a.heap.size ≤ p) : Below a.heap.size a w' := by
  obtain ⟨X, rfl⟩ := h
  refine hb.trans ⟨rfl, rfl, rfl, by rw [World.ext_size, World.setB_size]; omega, fun k hk => ?_⟩
  have := hb.size
  rw [World.ext_get _ _ (by rw [World.setB_size]; omega), World.setB_get _ _ _ _ (by omega)]
def SeqL : List Int := [1, 2, 9, 100000, 100001, 0, -1]
theorem seqL_in : ∀ x ∈ SeqL, -1 ≤ x ∧ x ≤ 100001 := by decide
set_option maxRecDepth 100000 in
theorem spec_l21Seq (p : Nat) (vb : Value) (bs : List UInt8) (i h : Int) (w : World) (hc : Cur w p vb bs i h) :
    Calls Tryz.prog 18 #[.pointer (some ⟨p, 0, none⟩)] w fun e w' => ∃ n, e = .returned (.int .i64 n) ∧ (-1 ≤ n ∧ n ≤ 100001) ∧ Drawn p vb bs w w' := by
  have hp := hc.lt
  have HC := Lib.hid hc
  clear hc
  go_enter Tryz.func18, Tryz.ntmps18
  go_wp2_with fail
  (go_at_call 42; refine (spec_l01PickInt p vb bs _ _ _ SeqL _ (HC.out.alloc _) (RdL.lit rInt w SeqL 7 rfl (by decide) _ rfl _) (by decide) (by decide) (by simp [Value.ownBlock]; omega)).mono ?_; rintro e w3 ⟨z, i3, h3, rfl, hz, hg3, hk0, hk1⟩)
  have hzz := seqL_in z hz
  clear hz
  go_wp2
  go_ret
  exact ⟨_, rfl, hzz, i3, h3, ((Got.self HC.out.blk).alloc _).then hg3 hp, hk0, hk1⟩
/-- a drawn list of cells -/
def DrawnL (w : World) (v : Value) (w' : World) : Prop := ∃ xs, OwnL rCell 34 w' w.heap.size v xs ∧ xs.length ≤ 40 ∧ (∀ x ∈ xs, SmallC x) ∧ Below w.heap.size w w'
set_option maxRecDepth 100000 in
theorem spec_DrawRecordText (v : Value) (bs : List UInt8) (w : World) (hs : Sl w v bs.length (bytesOf bs)) (hl : bs.length ≤ 140737488351232) (hb : ∀ b, v.ownBlock = some b → b < w.heap.size) :
    Calls Tryz.prog 5 #[v] w fun e w' => ∃ n v', e = .returned (.tuple #[.int .i64 n, v']) ∧ (-1 ≤ n ∧ n ≤ 100001) ∧ DrawnL w v' w' := by
  go_enter Tryz.func5, Tryz.ntmps5
  go_wp2_with fail
  (go_at_call 17; refine (spec_l01New v bs _ hs hl hb).mono ?_; rintro e w1 ⟨p, rfl, ⟨h, hc⟩, hb1, hp⟩)
  have hpl := hc.lt
  have hz1 := hb1.size
  go_wp2_with fail
  (go_at_call 18; refine (spec_l21Seq p v bs _ _ _ hc).mono ?_; rintro e w2 ⟨n, rfl, hn, i2, h2, hg2, ha2, hb2⟩)
  have hc2 := hc.got hg2 ha2 hb2
  have hz2 := hg2.size
  go_wp2_with fail
  (go_at_call 19; refine (spec_l21List p v bs _ _ _ hc2).mono ?_; rintro e w3 ⟨v3, rfl, xs, ho, hxl, hsm, i3, h3, hg3, ha3, hb3⟩)
  have hbb := hg3.toBelowR (hg2.toBelowR hb1 (by omega)) (by omega)
  obtain ⟨ao, co, rfl⟩ := ho.rd.form
  have HO := Lib.hid (ho.base (B' := w.heap.size) (by omega))
  have HSM := Lib.hid hsm
  clear ho hsm
  go_wp2
  refine bodyPost_ret (by simp [results, Tryz.results5, go_sem]; rfl) rfl ?_
  exact ⟨_, _, rfl, hn, xs, HO.out, hxl, HSM.out, hbb⟩
theorem Tryz.elemIntD : Elem Tryz.prog 68 3 1 8 := Elem.of (.int .i64 0) Tryz.underlying68 (by kernel_rfl) rfl (by decide)
/-- drawn places -/
def DrawnPl (w : World) (v : Value) (w' : World) : Prop := ∃ xs, OwnL rInt 3 w' w.heap.size v xs ∧ xs.length = 12 ∧ (∀ x ∈ xs, 0 ≤ x ∧ x < 10000) ∧ Below w.heap.size w w'
end Go.Proofs.YtkfkbojcnbpmdaaGreatDoor
