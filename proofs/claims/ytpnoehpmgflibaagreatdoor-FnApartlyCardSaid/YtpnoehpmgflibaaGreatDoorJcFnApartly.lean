/- The code that FnApartly reaches, all facts of its row. Each condition stands in its theorem. -/
import Derived.Test.YtpnoehpmgflibaaGreatDoorJaFnApartly
import Derived.Test.YtpnoehpmgflibaaGreatDoorJbFnApartly
import Derived.Test.YtpnoehpmgflibaaGreatDoorRows
import Derived.ProofKit
import Derived.OpenShut
import Derived.Stop.Joined
set_option linter.unusedVariables false
namespace Go.Proofs.YtpnoehpmgflibaaGreatDoor
open Go.ChangeShapes Go.WideShapes Go.ChangeAt Go.RowKit

theorem band_FnApartly {a b : Bool} (h : a = true) (k : b = true) : (a && b) = true := by rw [h, k]; rfl
set_option maxRecDepth 100000 in
theorem joined_FnApartly : joinedFacts Tryz.prog 4 Tryz.f4 Rows.fnApartlySpec Rows.fnApartlyRow = true := by
  unfold joinedFacts
  repeat' (first | with_reducible exact ja_FnApartly | with_reducible exact jb_FnApartly | with_reducible exact jc_FnApartly | with_reducible exact jd_FnApartly | with_reducible refine band_FnApartly ?_ ?_)
  all_goals kernel_rfl
end Go.Proofs.YtpnoehpmgflibaaGreatDoor
