/- The code that FnLookers reaches, all facts of its row. Each condition stands in its theorem. -/
import Derived.Test.YtpbcehcmdoncmaaGreatDoorJaFnLookers
import Derived.Test.YtpbcehcmdoncmaaGreatDoorJbFnLookers
import Derived.Test.YtpbcehcmdoncmaaGreatDoorRows
import Derived.ProofKit
import Derived.OpenShut
import Derived.Stop.Joined
set_option linter.unusedVariables false
namespace Go.Proofs.YtpbcehcmdoncmaaGreatDoor
open Go.ChangeShapes Go.WideShapes Go.ChangeAt Go.RowKit

theorem band_FnLookers {a b : Bool} (h : a = true) (k : b = true) : (a && b) = true := by rw [h, k]; rfl
set_option maxRecDepth 100000 in
theorem joined_FnLookers : joinedFacts Tryz.prog 3 Tryz.f3 Rows.fnLookersSpec Rows.fnLookersRow = true := by
  unfold joinedFacts
  repeat' (first | with_reducible exact ja_FnLookers | with_reducible exact jb_FnLookers | with_reducible exact jc_FnLookers | with_reducible exact jd_FnLookers | with_reducible refine band_FnLookers ?_ ?_)
  all_goals kernel_rfl
end Go.Proofs.YtpbcehcmdoncmaaGreatDoor
