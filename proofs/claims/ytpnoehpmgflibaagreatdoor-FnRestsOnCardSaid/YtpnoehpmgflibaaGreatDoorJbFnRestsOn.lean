/- The code that FnRestsOn reaches, further facts. Each condition stands in its theorem. -/
import Derived.Test.YtpnoehpmgflibaaGreatDoorRows
import Derived.ProofKit
import Derived.OpenShut
import Derived.Stop.Joined
set_option linter.unusedVariables false
namespace Go.Proofs.YtpnoehpmgflibaaGreatDoor
open Go.ChangeShapes Go.WideShapes Go.ChangeAt Go.RowKit

set_option maxRecDepth 100000 in
theorem jc_FnRestsOn : (Rows.fnRestsOnRow.recurses == Tryz.prog.recurses 3) = true := by kernel_rfl
set_option maxRecDepth 100000 in
theorem jd_FnRestsOn : (Rows.fnRestsOnRow.named == Tryz.prog.varsNamed 3) = true := by kernel_rfl
end Go.Proofs.YtpnoehpmgflibaaGreatDoor
