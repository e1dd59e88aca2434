/- The code that FnRestsOn reaches, first facts. Each condition stands in its theorem. -/
import Derived.Test.YtpnoehpmgflibaaGreatDoorRows
import Derived.ProofKit
import Derived.OpenShut
import Derived.Stop.Joined
set_option linter.unusedVariables false
namespace Go.Proofs.YtpnoehpmgflibaaGreatDoor
open Go.ChangeShapes Go.WideShapes Go.ChangeAt Go.RowKit

set_option maxRecDepth 100000 in
theorem ja_FnRestsOn : (Rows.fnRestsOnRow.inPlace == Tryz.prog.inPlace 3) = true := by kernel_rfl
set_option maxRecDepth 100000 in
theorem jb_FnRestsOn : (Rows.fnRestsOnRow.unfollowed == Tryz.prog.unfollowed 3) = true := by kernel_rfl
end Go.Proofs.YtpnoehpmgflibaaGreatDoor
