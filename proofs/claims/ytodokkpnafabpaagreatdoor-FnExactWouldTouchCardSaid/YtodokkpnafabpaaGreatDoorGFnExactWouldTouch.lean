/- How FnExactWouldTouch goes. Each condition stands in its theorem. -/
import Derived.Test.YtodokkpnafabpaaGreatDoorRows
import Derived.Test.YtodokkpnafabpaaGreatDoorCards
import Derived.ProofKit
import Derived.OpenShut
import Derived.Stop.Joined
import Derived.SevenTiedAt
set_option linter.unusedVariables false
namespace Go.Proofs.YtodokkpnafabpaaGreatDoor
open Go.ChangeShapes Go.WideShapes Go.ChangeAt Go.RowKit

set_option maxRecDepth 100000 in
theorem goes_FnExactWouldTouch : false = Rows.fnExactWouldTouchRow.goesBy Tryz.prog := by kernel_rfl
end Go.Proofs.YtodokkpnafabpaaGreatDoor
