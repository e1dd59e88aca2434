/- The code that FnExactRestsOn reaches, all facts of its row. Each condition stands in its theorem. -/
import Derived.Test.YtgcmnkkakngifaaGreatDoorJaFnExactRestsOn
import Derived.Test.YtgcmnkkakngifaaGreatDoorJbFnExactRestsOn
import Derived.Test.YtgcmnkkakngifaaGreatDoorRows
import Derived.ProofKit
import Derived.OpenShut
import Derived.Stop.Joined
set_option linter.unusedVariables false
namespace Go.Proofs.YtgcmnkkakngifaaGreatDoor
open Go.ChangeShapes Go.WideShapes Go.ChangeAt Go.RowKit

theorem band_FnExactRestsOn {a b : Bool} (h : a = true) (k : b = true) : (a && b) = true := by rw [h, k]; rfl
set_option maxRecDepth 100000 in
theorem joined_FnExactRestsOn : joinedFacts Tryz.prog 7 Tryz.f7 Rows.fnExactRestsOnSpec Rows.fnExactRestsOnRow = true := by
  unfold joinedFacts
  repeat' (first | with_reducible exact ja_FnExactRestsOn | with_reducible exact jb_FnExactRestsOn | with_reducible exact jc_FnExactRestsOn | with_reducible exact jd_FnExactRestsOn | with_reducible refine band_FnExactRestsOn ?_ ?_)
  all_goals kernel_rfl
end Go.Proofs.YtgcmnkkakngifaaGreatDoor
