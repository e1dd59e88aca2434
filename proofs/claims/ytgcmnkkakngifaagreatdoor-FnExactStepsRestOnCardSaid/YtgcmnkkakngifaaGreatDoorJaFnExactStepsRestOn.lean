/- The code that FnExactStepsRestOn reaches, first facts. Each condition stands in its theorem. -/
import Derived.Test.YtgcmnkkakngifaaGreatDoorRows
import Derived.ProofKit
import Derived.OpenShut
import Derived.Stop.Joined
set_option linter.unusedVariables false
namespace Go.Proofs.YtgcmnkkakngifaaGreatDoor
open Go.ChangeShapes Go.WideShapes Go.ChangeAt Go.RowKit

set_option maxRecDepth 100000 in
theorem ja_FnExactStepsRestOn : (Rows.fnExactStepsRestOnRow.inPlace == Tryz.prog.inPlace 8) = true := by kernel_rfl
set_option maxRecDepth 100000 in
theorem jb_FnExactStepsRestOn : (Rows.fnExactStepsRestOnRow.unfollowed == Tryz.prog.unfollowed 8) = true := by kernel_rfl
end Go.Proofs.YtgcmnkkakngifaaGreatDoor
