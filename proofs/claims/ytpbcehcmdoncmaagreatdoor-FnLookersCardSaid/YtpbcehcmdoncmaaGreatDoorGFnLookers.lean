/- How FnLookers goes. Each condition stands in its theorem. -/
import Derived.Test.YtpbcehcmdoncmaaGreatDoorRows
import Derived.Test.YtpbcehcmdoncmaaGreatDoorCards
import Derived.ProofKit
import Derived.OpenShut
import Derived.Stop.Joined
import Derived.SevenTiedAt
set_option linter.unusedVariables false
namespace Go.Proofs.YtpbcehcmdoncmaaGreatDoor
open Go.ChangeShapes Go.WideShapes Go.ChangeAt Go.RowKit

set_option maxRecDepth 100000 in
theorem goes_FnLookers : false = Rows.fnLookersRow.goesBy Tryz.prog := by kernel_rfl
end Go.Proofs.YtpbcehcmdoncmaaGreatDoor
