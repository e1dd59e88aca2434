/- The code that FnExactWouldTouch reaches, all facts of its row. Each condition stands in its theorem. -/
import Derived.Test.YtodokkpnafabpaaGreatDoorJaFnExactWouldTouch
import Derived.Test.YtodokkpnafabpaaGreatDoorJbFnExactWouldTouch
import Derived.Test.YtodokkpnafabpaaGreatDoorRows
import Derived.ProofKit
import Derived.OpenShut
import Derived.Stop.Joined
set_option linter.unusedVariables false
namespace Go.Proofs.YtodokkpnafabpaaGreatDoor
open Go.ChangeShapes Go.WideShapes Go.ChangeAt Go.RowKit

theorem band_FnExactWouldTouch {a b : Bool} (h : a = true) (k : b = true) : (a && b) = true := by rw [h, k]; rfl
set_option maxRecDepth 100000 in
theorem joined_FnExactWouldTouch : joinedFacts Tryz.prog 3 Tryz.f3 Rows.fnExactWouldTouchSpec Rows.fnExactWouldTouchRow = true := by
  unfold joinedFacts
  repeat' (first | with_reducible exact ja_FnExactWouldTouch | with_reducible exact jb_FnExactWouldTouch | with_reducible exact jc_FnExactWouldTouch | with_reducible exact jd_FnExactWouldTouch | with_reducible refine band_FnExactWouldTouch ?_ ?_)
  all_goals kernel_rfl
end Go.Proofs.YtodokkpnafabpaaGreatDoor
