/- The code that FnExactRestsOn reaches, further facts. Each condition stands in its theorem. -/
import Derived.Test.YtgcmnkkakngifaaGreatDoorRows
import Derived.ProofKit
import Derived.OpenShut
import Derived.Stop.Joined
set_option linter.unusedVariables false
namespace Go.Proofs.YtgcmnkkakngifaaGreatDoor
open Go.ChangeShapes Go.WideShapes Go.ChangeAt Go.RowKit

set_option maxRecDepth 100000 in
theorem jc_FnExactRestsOn : (Rows.fnExactRestsOnRow.recurses == Tryz.prog.recurses 7) = true := by kernel_rfl
set_option maxRecDepth 100000 in
theorem jd_FnExactRestsOn : (Rows.fnExactRestsOnRow.named == Tryz.prog.varsNamed 7) = true := by kernel_rfl
end Go.Proofs.YtgcmnkkakngifaaGreatDoor
