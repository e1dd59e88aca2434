/- The code that FnExactStepsRestOn reaches, all facts of its row. Each condition stands in its theorem. -/
import Derived.Test.YtgcmnkkakngifaaGreatDoorJaFnExactStepsRestOn
import Derived.Test.YtgcmnkkakngifaaGreatDoorJbFnExactStepsRestOn
import Derived.Test.YtgcmnkkakngifaaGreatDoorRows
import Derived.ProofKit
import Derived.OpenShut
import Derived.Stop.Joined
set_option linter.unusedVariables false
namespace Go.Proofs.YtgcmnkkakngifaaGreatDoor
open Go.ChangeShapes Go.WideShapes Go.ChangeAt Go.RowKit

theorem band_FnExactStepsRestOn {a b : Bool} (h : a = true) (k : b = true) : (a && b) = true := by rw [h, k]; rfl
set_option maxRecDepth 100000 in
theorem joined_FnExactStepsRestOn : joinedFacts Tryz.prog 8 Tryz.f8 Rows.fnExactStepsRestOnSpec Rows.fnExactStepsRestOnRow = true := by
  unfold joinedFacts
  repeat' (first | with_reducible exact ja_FnExactStepsRestOn | with_reducible exact jb_FnExactStepsRestOn | with_reducible exact jc_FnExactStepsRestOn | with_reducible exact jd_FnExactStepsRestOn | with_reducible refine band_FnExactStepsRestOn ?_ ?_)
  all_goals kernel_rfl
end Go.Proofs.YtgcmnkkakngifaaGreatDoor
