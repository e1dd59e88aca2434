/- Whether a transaction is older than all that are named: the program's and the reference's. Each condition stands in its theorem. -/
import Derived.Test.YtmhopglbgaijiaaHas
import Derived.Test.YtmhopglbgaijiaaOlder
import Derived.Test.YtmhopglbgaijiaaCTxS
set_option linter.unusedVariables false
set_option linter.unusedSimpArgs false
namespace Go.Proofs.Ytmhopglbgaijiaa
open Go.ChangeShapes Go.WideShapes Go.ChangeAt Go.RowKit

def notYet (ids : List Int) (x : TxD) (y : TxD) : Bool := ids.any (isNum y.id) && !olderB x y
set_option maxRecDepth 100000 in
theorem impl_YoungerAll1 (cs : List Value) (d : TxD) (vi : Value) (ids : List Int) (cx : List Value) (x : TxD) (bi bx : Nat) (w : World) {e : TypeId} (hs : vTx.rd w cs d) (hi : (vSlice vInt e).rd w [vi] ids) (hx : vTx.rd w cx x)
    (hbi : bi < w.heap.size) (hbx : bx < w.heap.size) (hci : w.cell? ⟨bi, 0, none⟩ = some vi) (hcx : ∀ j u, cx[j]? = some u → w.cell? ⟨bx, j, none⟩ = some u) :
    Calls Try.prog 37 #[.agg cs.toArray, .pointer (some ⟨bi, 0, none⟩), .pointer (some ⟨bx, 0, none⟩)] w fun e w' => e = .returned (.bool (notYet ids x d)) ∧ Below w.heap.size w w' := by
  have HS := Lib.hid hs
  have HI := Lib.hid hi
  have HXX := Lib.hid hx
  obtain ⟨a0, c0, a1, c1, a2, c2, a3, c3, a4, c4, rfl⟩ := vTx_shape hs
  obtain ⟨p0, q0, p1, q1, p2, q2, p3, q3, p4, q4, rfl⟩ := vTx_shape hx
  obtain ⟨ai, ci, rfl⟩ := vSlice.form hi
  clear hs hi hx
  have u0 := hcx 0 _ rfl
  have u1 := hcx 1 _ rfl
  have u2 := hcx 2 _ rfl
  have u3 := hcx 3 _ rfl
  have u4 := hcx 4 _ rfl
  have u5 := hcx 5 _ rfl
  have u6 := hcx 6 _ rfl
  have u7 := hcx 7 _ rfl
  have u8 := hcx 8 _ rfl
  have u9 := hcx 9 _ rfl
  clear hcx
  have hm : notYet ids x d = notYet ids x d := rfl
  conv at hm => rhs; unfold notYet
  cases h1 : ids.any (isNum d.id) with
  | false =>
    rw [h1, Bool.false_and] at hm
    have HM := Lib.hid hm
    have H1 := Lib.hid h1
    clear hm h1
    rw [HM.out]
    go_enter Try.func37, Try.ntmps37
    go_wp2_with fail
    (go_at_call 38; refine (ints_Contains _ ids d.id _ (by (try simp only [← Array.append_assoc]); (repeat (first | with_reducible exact HI.out | with_reducible apply View.rdMerge | with_reducible apply View.rdExt | with_reducible apply View.rdAlloc | with_reducible apply View.rdDrew)); all_goals exact (0 : Nat))).mono ?_; rintro e w' ⟨rfl, hb⟩; obtain ⟨X, rfl⟩ := hb.ext; clear hb)
    rw [H1.out]
    go_wp2
    go_ret
    exact ⟨rfl, (by repeat (first | with_reducible exact Below.refl _ _ | with_reducible apply Below.ofExt | with_reducible apply Below.ofAlloc | with_reducible apply Below.drew | with_reducible apply Below.ofDrewN | with_reducible assumption | (with_reducible refine Below.setCell ?_ (by first | exact Nat.le_refl _ | (simp [go_sem]; done) | (simp [go_sem]; omega)) _)))⟩
  | true =>
    rw [h1, Bool.true_and] at hm
    have HM := Lib.hid hm
    have H1 := Lib.hid h1
    clear hm h1
    rw [HM.out]
    go_enter Try.func37, Try.ntmps37
    go_wp2_with fail
    (go_at_call 38; refine (ints_Contains _ ids d.id _ (by (try simp only [← Array.append_assoc]); (repeat (first | with_reducible exact HI.out | with_reducible apply View.rdMerge | with_reducible apply View.rdExt | with_reducible apply View.rdAlloc | with_reducible apply View.rdDrew)); all_goals exact (0 : Nat))).mono ?_; rintro e w' ⟨rfl, hb⟩; obtain ⟨X, rfl⟩ := hb.ext; clear hb)
    rw [H1.out]
    go_wp2_with fail
    (go_at_call 11; refine (impl_Older _ x _ d _ (by (try simp only [← Array.append_assoc]); (repeat (first | with_reducible exact HXX.out | with_reducible apply View.rdMerge | with_reducible apply View.rdExt | with_reducible apply View.rdAlloc | with_reducible apply View.rdDrew)); all_goals exact (0 : Nat)) (by (try simp only [← Array.append_assoc]); (repeat (first | with_reducible exact HS.out | with_reducible apply View.rdMerge | with_reducible apply View.rdExt | with_reducible apply View.rdAlloc | with_reducible apply View.rdDrew)); all_goals exact (0 : Nat))).mono ?_; rintro e w' ⟨rfl, hb⟩; obtain ⟨X, rfl⟩ := hb.ext; clear hb)
    go_wp2
    go_ret
    exact ⟨rfl, (by repeat (first | with_reducible exact Below.refl _ _ | with_reducible apply Below.ofExt | with_reducible apply Below.ofAlloc | with_reducible apply Below.drew | with_reducible apply Below.ofDrewN | with_reducible assumption | (with_reducible refine Below.setCell ?_ (by first | exact Nat.le_refl _ | (simp [go_sem]; done) | (simp [go_sem]; omega)) _)))⟩
end Go.Proofs.Ytmhopglbgaijiaa
