/- The code that FnExactTxLaid reaches, all facts of its row. Each condition stands in its theorem. -/
import Derived.Test.YtgcmnkkakngifaaGreatDoorJaFnExactTxLaid
import Derived.Test.YtgcmnkkakngifaaGreatDoorJbFnExactTxLaid
import Derived.Test.YtgcmnkkakngifaaGreatDoorRows
import Derived.ProofKit
import Derived.OpenShut
import Derived.Stop.Joined
set_option linter.unusedVariables false
namespace Go.Proofs.YtgcmnkkakngifaaGreatDoor
open Go.ChangeShapes Go.WideShapes Go.ChangeAt Go.RowKit

theorem band_FnExactTxLaid {a b : Bool} (h : a = true) (k : b = true) : (a && b) = true := by rw [h, k]; rfl
set_option maxRecDepth 100000 in
theorem joined_FnExactTxLaid : joinedFacts Tryz.prog 5 Tryz.f5 Rows.fnExactTxLaidSpec Rows.fnExactTxLaidRow = true := by
  unfold joinedFacts
  repeat' (first | with_reducible exact ja_FnExactTxLaid | with_reducible exact jb_FnExactTxLaid | with_reducible exact jc_FnExactTxLaid | with_reducible exact jd_FnExactTxLaid | with_reducible refine band_FnExactTxLaid ?_ ?_)
  all_goals kernel_rfl
end Go.Proofs.YtgcmnkkakngifaaGreatDoor
