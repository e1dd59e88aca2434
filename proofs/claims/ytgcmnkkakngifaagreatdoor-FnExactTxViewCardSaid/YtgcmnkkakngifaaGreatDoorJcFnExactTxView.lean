/- The code that FnExactTxView reaches, all facts of its row. Each condition stands in its theorem. -/
import Derived.Test.YtgcmnkkakngifaaGreatDoorJaFnExactTxView
import Derived.Test.YtgcmnkkakngifaaGreatDoorJbFnExactTxView
import Derived.Test.YtgcmnkkakngifaaGreatDoorRows
import Derived.ProofKit
import Derived.OpenShut
import Derived.Stop.Joined
set_option linter.unusedVariables false
namespace Go.Proofs.YtgcmnkkakngifaaGreatDoor
open Go.ChangeShapes Go.WideShapes Go.ChangeAt Go.RowKit

theorem band_FnExactTxView {a b : Bool} (h : a = true) (k : b = true) : (a && b) = true := by rw [h, k]; rfl
set_option maxRecDepth 100000 in
theorem joined_FnExactTxView : joinedFacts Tryz.prog 4 Tryz.f4 Rows.fnExactTxViewSpec Rows.fnExactTxViewRow = true := by
  unfold joinedFacts
  repeat' (first | with_reducible exact ja_FnExactTxView | with_reducible exact jb_FnExactTxView | with_reducible exact jc_FnExactTxView | with_reducible exact jd_FnExactTxView | with_reducible refine band_FnExactTxView ?_ ?_)
  all_goals kernel_rfl
end Go.Proofs.YtgcmnkkakngifaaGreatDoor
