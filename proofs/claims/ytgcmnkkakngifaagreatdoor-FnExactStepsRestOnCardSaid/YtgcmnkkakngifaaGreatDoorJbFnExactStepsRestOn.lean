/- The code that FnExactStepsRestOn reaches, further facts. Each condition stands in its theorem. -/
import Derived.Test.YtgcmnkkakngifaaGreatDoorRows
import Derived.ProofKit
import Derived.OpenShut
import Derived.Stop.Joined
set_option linter.unusedVariables false
namespace Go.Proofs.YtgcmnkkakngifaaGreatDoor
open Go.ChangeShapes Go.WideShapes Go.ChangeAt Go.RowKit

set_option maxRecDepth 100000 in
theorem jc_FnExactStepsRestOn : (Rows.fnExactStepsRestOnRow.recurses == Tryz.prog.recurses 8) = true := by kernel_rfl
set_option maxRecDepth 100000 in
theorem jd_FnExactStepsRestOn : (Rows.fnExactStepsRestOnRow.named == Tryz.prog.varsNamed 8) = true := by kernel_rfl
end Go.Proofs.YtgcmnkkakngifaaGreatDoor
