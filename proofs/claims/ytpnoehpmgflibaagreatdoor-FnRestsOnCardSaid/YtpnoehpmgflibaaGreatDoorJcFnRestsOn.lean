/- The code that FnRestsOn reaches, all facts of its row. Each condition stands in its theorem. -/
import Derived.Test.YtpnoehpmgflibaaGreatDoorJaFnRestsOn
import Derived.Test.YtpnoehpmgflibaaGreatDoorJbFnRestsOn
import Derived.Test.YtpnoehpmgflibaaGreatDoorRows
import Derived.ProofKit
import Derived.OpenShut
import Derived.Stop.Joined
set_option linter.unusedVariables false
namespace Go.Proofs.YtpnoehpmgflibaaGreatDoor
open Go.ChangeShapes Go.WideShapes Go.ChangeAt Go.RowKit

theorem band_FnRestsOn {a b : Bool} (h : a = true) (k : b = true) : (a && b) = true := by rw [h, k]; rfl
set_option maxRecDepth 100000 in
theorem joined_FnRestsOn : joinedFacts Tryz.prog 3 Tryz.f3 Rows.fnRestsOnSpec Rows.fnRestsOnRow = true := by
  unfold joinedFacts
  repeat' (first | with_reducible exact ja_FnRestsOn | with_reducible exact jb_FnRestsOn | with_reducible exact jc_FnRestsOn | with_reducible exact jd_FnRestsOn | with_reducible refine band_FnRestsOn ?_ ?_)
  all_goals kernel_rfl
end Go.Proofs.YtpnoehpmgflibaaGreatDoor
