/- How FnRestsOn goes. Each condition stands in its theorem. -/
import Derived.Test.YtpnoehpmgflibaaGreatDoorRows
import Derived.Test.YtpnoehpmgflibaaGreatDoorCards
import Derived.ProofKit
import Derived.OpenShut
import Derived.Stop.Joined
import Derived.SevenTiedAt
set_option linter.unusedVariables false
namespace Go.Proofs.YtpnoehpmgflibaaGreatDoor
open Go.ChangeShapes Go.WideShapes Go.ChangeAt Go.RowKit

set_option maxRecDepth 100000 in
theorem goes_FnRestsOn : false = Rows.fnRestsOnRow.goesBy Tryz.prog := by kernel_rfl
end Go.Proofs.YtpnoehpmgflibaaGreatDoor
