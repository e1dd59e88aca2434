/- The code that FnExactTxRight reaches, all facts of its row. Each condition stands in its theorem. -/
import Derived.Test.YtgcmnkkakngifaaGreatDoorJaFnExactTxRight
import Derived.Test.YtgcmnkkakngifaaGreatDoorJbFnExactTxRight
import Derived.Test.YtgcmnkkakngifaaGreatDoorRows
import Derived.ProofKit
import Derived.OpenShut
import Derived.Stop.Joined
set_option linter.unusedVariables false
namespace Go.Proofs.YtgcmnkkakngifaaGreatDoor
open Go.ChangeShapes Go.WideShapes Go.ChangeAt Go.RowKit

theorem band_FnExactTxRight {a b : Bool} (h : a = true) (k : b = true) : (a && b) = true := by rw [h, k]; rfl
set_option maxRecDepth 100000 in
theorem joined_FnExactTxRight : joinedFacts Tryz.prog 3 Tryz.f3 Rows.fnExactTxRightSpec Rows.fnExactTxRightRow = true := by
  unfold joinedFacts
  repeat' (first | with_reducible exact ja_FnExactTxRight | with_reducible exact jb_FnExactTxRight | with_reducible exact jc_FnExactTxRight | with_reducible exact jd_FnExactTxRight | with_reducible refine band_FnExactTxRight ?_ ?_)
  all_goals kernel_rfl
end Go.Proofs.YtgcmnkkakngifaaGreatDoor
