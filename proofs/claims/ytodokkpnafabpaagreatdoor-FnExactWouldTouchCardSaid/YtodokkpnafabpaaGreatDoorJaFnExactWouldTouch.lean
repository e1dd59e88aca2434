/- The code that FnExactWouldTouch reaches, first facts. Each condition stands in its theorem. -/
import Derived.Test.YtodokkpnafabpaaGreatDoorRows
import Derived.ProofKit
import Derived.OpenShut
import Derived.Stop.Joined
set_option linter.unusedVariables false
namespace Go.Proofs.YtodokkpnafabpaaGreatDoor
open Go.ChangeShapes Go.WideShapes Go.ChangeAt Go.RowKit

set_option maxRecDepth 100000 in
theorem ja_FnExactWouldTouch : (Rows.fnExactWouldTouchRow.inPlace == Tryz.prog.inPlace 3) = true := by kernel_rfl
set_option maxRecDepth 100000 in
theorem jb_FnExactWouldTouch : (Rows.fnExactWouldTouchRow.unfollowed == Tryz.prog.unfollowed 3) = true := by kernel_rfl
end Go.Proofs.YtodokkpnafabpaaGreatDoor
