/- The code that FnExactWouldTouch reaches, further facts. Each condition stands in its theorem. -/
import Derived.Test.YtodokkpnafabpaaGreatDoorRows
import Derived.ProofKit
import Derived.OpenShut
import Derived.Stop.Joined
set_option linter.unusedVariables false
namespace Go.Proofs.YtodokkpnafabpaaGreatDoor
open Go.ChangeShapes Go.WideShapes Go.ChangeAt Go.RowKit

set_option maxRecDepth 100000 in
theorem jc_FnExactWouldTouch : (Rows.fnExactWouldTouchRow.recurses == Tryz.prog.recurses 3) = true := by kernel_rfl
set_option maxRecDepth 100000 in
theorem jd_FnExactWouldTouch : (Rows.fnExactWouldTouchRow.named == Tryz.prog.varsNamed 3) = true := by kernel_rfl
end Go.Proofs.YtodokkpnafabpaaGreatDoor
