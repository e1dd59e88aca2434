/- The code that FnApartly reaches, further facts. Each condition stands in its theorem. -/
import Derived.Test.YtpnoehpmgflibaaGreatDoorRows
import Derived.ProofKit
import Derived.OpenShut
import Derived.Stop.Joined
set_option linter.unusedVariables false
namespace Go.Proofs.YtpnoehpmgflibaaGreatDoor
open Go.ChangeShapes Go.WideShapes Go.ChangeAt Go.RowKit

set_option maxRecDepth 100000 in
theorem jc_FnApartly : (Rows.fnApartlyRow.recurses == Tryz.prog.recurses 4) = true := by kernel_rfl
set_option maxRecDepth 100000 in
theorem jd_FnApartly : (Rows.fnApartlyRow.named == Tryz.prog.varsNamed 4) = true := by kernel_rfl
end Go.Proofs.YtpnoehpmgflibaaGreatDoor
