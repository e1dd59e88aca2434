/- How FnExactRestsOn goes. Each condition stands in its theorem. -/
import Derived.Test.YtgcmnkkakngifaaGreatDoorRows
import Derived.Test.YtgcmnkkakngifaaGreatDoorCards
import Derived.ProofKit
import Derived.OpenShut
import Derived.Stop.Joined
import Derived.SevenTiedAt
set_option linter.unusedVariables false
namespace Go.Proofs.YtgcmnkkakngifaaGreatDoor
open Go.ChangeShapes Go.WideShapes Go.ChangeAt Go.RowKit

set_option maxRecDepth 100000 in
theorem goes_FnExactRestsOn : false = Rows.fnExactRestsOnRow.goesBy Tryz.prog := by kernel_rfl
end Go.Proofs.YtgcmnkkakngifaaGreatDoor
