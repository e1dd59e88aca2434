/- The code that FnLookers reaches, first facts. Each condition stands in its theorem. -/
import Derived.Test.YtpbcehcmdoncmaaGreatDoorRows
import Derived.ProofKit
import Derived.OpenShut
import Derived.Stop.Joined
set_option linter.unusedVariables false
namespace Go.Proofs.YtpbcehcmdoncmaaGreatDoor
open Go.ChangeShapes Go.WideShapes Go.ChangeAt Go.RowKit

set_option maxRecDepth 100000 in
theorem ja_FnLookers : (Rows.fnLookersRow.inPlace == Tryz.prog.inPlace 3) = true := by kernel_rfl
set_option maxRecDepth 100000 in
theorem jb_FnLookers : (Rows.fnLookersRow.unfollowed == Tryz.prog.unfollowed 3) = true := by kernel_rfl
end Go.Proofs.YtpbcehcmdoncmaaGreatDoor
