/- The given card of FnLookers: for every input that can be read the law returns true, and each argument reads as before; the listed variables begin as the text of the program lays them (the card ties them). No other condition. -/
import Derived.Test.YtpbcehcmdoncmaaGreatDoorPAFnLookers
import Derived.Test.YtpbcehcmdoncmaaGreatDoorJcFnLookers
import Derived.Test.YtpbcehcmdoncmaaGreatDoorGFnLookers
import Derived.Test.YtpbcehcmdoncmaaGreatDoorCards
import Derived.Test.YtpbcehcmdoncmaaGreatDoorTie
import Derived.ProofKit
import Derived.LaidMore
import Derived.OpenShut
import Derived.Stop.Joined
import Derived.Stop.LaidErr
import Derived.Lib.LaidTab
import Derived.SevenTiedAt
import Derived.Shelf.Vars
import Derived.HandedShaped
import Derived.Lay
set_option linter.unusedVariables false
namespace Go.Proofs.YtpbcehcmdoncmaaGreatDoor
open Go.ChangeShapes Go.WideShapes Go.ChangeAt Go.RowKit
open Go.ChangeMaps (open_string)

theorem row_FnLookers : Rows.FnLookersSaid :=
  OpenClaim.holds_of_wide 3 Tryz.f3 rfl rfl rfl rfl rfl rfl rfl ⟨rfl, rfl, rfl, rfl, rfl⟩ rfl rfl rfl rfl rfl (by kernel_rfl) Tryz.func3 joined_FnLookers
    (of_decide_eq_true (by kernel_rfl)) (by unfold Func.isWrapper; first | (rw [if_pos (by decide +kernel)]; kernel_rfl) | (rw [if_neg (by decide +kernel)]; exact ⟨rfl, rfl⟩))
    (fun os started H enc _ => l_FnLookers os started H enc)
theorem proved_FnLookers : Rows.FnLookersCardSaid :=
  Claim7.holds_tied_plain_at .later [] [.data, .data, .data, .sentinel, .sentinel, .sentinel] true (true, "c7f42013bf737833fe4a5b3b06bd41fff3a6eb199a79e69f2970ecd5b723b4de") true
    row_FnLookers (fun _ h => by cases h) (by kernel_rfl) (fun _ h => by cases h) fnLookers_row_tie rfl ⟨rfl, rfl⟩ (by kernel_rfl) rfl
    (fun f fn hf hfn => by
      obtain rfl : f = 3 := Option.some.inj ((show Tryz.prog.funcNamed "loop.example/g00974/laws.FnLookers" = some 3 by kernel_rfl).symm.trans hf) |>.symm
      obtain rfl : fn = Tryz.f3 := (Option.some.inj (Tryz.func3.symm.trans hfn)).symm
      exact ⟨looks_FnLookers, fun j t ht => by
        rw [Tryz.params3] at ht
        have hm : t ∈ [22] := by simpa using Array.mem_of_getElem? ht
        have hall : ([22].all fun u => !Tryz.prog.wantsStandIn u) = true := by kernel_rfl
        exact (show Tryz.prog.wantsStandIn t = false by simpa using List.all_eq_true.1 hall t hm)⟩)
    goes_FnLookers
#print axioms proved_FnLookers

end Go.Proofs.YtpbcehcmdoncmaaGreatDoor
