/- Equality of stores: the program's and the reference's. Each condition stands in its theorem. -/
import Derived.Test.YtdelkphahpbegaaEqCell
set_option linter.unusedVariables false
set_option linter.unusedSimpArgs false
namespace Go.Proofs.Ytdelkphahpbegaa
open Go.ChangeShapes Go.WideShapes Go.ChangeAt Go.RowKit

theorem impl_SameStore (v : Value) (xs : List CellD) (v' : Value) (ys : List CellD) (w : World) {e e' : TypeId} (hs : (vSlice vCell e).rd w [v] xs) (hs' : (vSlice vCell e').rd w [v'] ys) :
    Calls Try.prog 39 #[v, v'] w fun e w' => e = .returned (.bool (sameL eqCell xs ys)) ∧ Below w.heap.size w w' := by
  obtain ⟨a0, c0, rfl⟩ := vSlice.form hs
  obtain ⟨a1, c1, rfl⟩ := vSlice.form hs'
  go_enter Try.func39, Try.ntmps39
  go_wp2_with fail
  (go_at_call 51; refine (cells_Equal _ xs _ ys _ hs hs').mono ?_; rintro e w' ⟨rfl, hb⟩; obtain ⟨X, rfl⟩ := hb.ext; clear hb)
  go_wp2
  go_ret
  exact ⟨rfl, (by repeat (first | with_reducible exact Below.refl _ _ | with_reducible apply Below.ofExt | with_reducible apply Below.ofAlloc | with_reducible apply Below.drew | with_reducible apply Below.ofDrewN | with_reducible assumption | (with_reducible refine Below.setCell ?_ (by first | exact Nat.le_refl _ | (simp [go_sem]; done) | (simp [go_sem]; omega)) _)))⟩
end Go.Proofs.Ytdelkphahpbegaa
