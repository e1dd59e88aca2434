/- The code that FnExactTxLaid reaches, further facts. Each condition stands in its theorem. -/
import Derived.Test.YtgcmnkkakngifaaGreatDoorRows
import Derived.ProofKit
import Derived.OpenShut
import Derived.Stop.Joined
set_option linter.unusedVariables false
namespace Go.Proofs.YtgcmnkkakngifaaGreatDoor
open Go.ChangeShapes Go.WideShapes Go.ChangeAt Go.RowKit

set_option maxRecDepth 100000 in
theorem jc_FnExactTxLaid : (Rows.fnExactTxLaidRow.recurses == Tryz.prog.recurses 5) = true := by kernel_rfl
set_option maxRecDepth 100000 in
theorem jd_FnExactTxLaid : (Rows.fnExactTxLaidRow.named == Tryz.prog.varsNamed 5) = true := by kernel_rfl
end Go.Proofs.YtgcmnkkakngifaaGreatDoor
