/- The given card of FnApartly: for every input that can be read the law returns true, and each argument reads as before; the listed variables begin as the text of the program lays them (the card ties them). No other condition. -/
import Derived.Test.YtpnoehpmgflibaaGreatDoorPAFnApartly
import Derived.Test.YtpnoehpmgflibaaGreatDoorJcFnApartly
import Derived.Test.YtpnoehpmgflibaaGreatDoorGFnApartly
import Derived.Test.YtpnoehpmgflibaaGreatDoorCards
import Derived.Test.YtpnoehpmgflibaaGreatDoorTie
import Derived.ProofKit
import Derived.LaidMore
import Derived.OpenShut
import Derived.Stop.Joined
import Derived.Stop.LaidErr
import Derived.Lib.LaidTab
import Derived.SevenTiedAt
import Derived.Shelf.Vars
import Derived.HandedShaped
import Derived.Lay
set_option linter.unusedVariables false
namespace Go.Proofs.YtpnoehpmgflibaaGreatDoor
open Go.ChangeShapes Go.WideShapes Go.ChangeAt Go.RowKit
open Go.ChangeMaps (open_string)

theorem row_FnApartly : Rows.FnApartlySaid :=
  OpenClaim.holds_of_wide 4 Tryz.f4 rfl rfl rfl rfl rfl rfl rfl ⟨rfl, rfl, rfl, rfl, rfl⟩ rfl rfl rfl rfl rfl (by kernel_rfl) Tryz.func4 joined_FnApartly
    (of_decide_eq_true (by kernel_rfl)) (by unfold Func.isWrapper; first | (rw [if_pos (by decide +kernel)]; kernel_rfl) | (rw [if_neg (by decide +kernel)]; exact ⟨rfl, rfl⟩))
    (fun os started H enc _ => l_FnApartly os started H enc)
theorem proved_FnApartly : Rows.FnApartlyCardSaid :=
  Claim7.holds_tied_plain_at .later [] [.data, .data, .data, .sentinel, .sentinel, .sentinel] true (true, "fba313df6c8ba6c409cb32ce218e1c37639ef8688f14da0ff2e0158159e43aad") true
    row_FnApartly (fun _ h => by cases h) (by kernel_rfl) (fun _ h => by cases h) fnApartly_row_tie rfl ⟨rfl, rfl⟩ (by kernel_rfl) rfl
    (fun f fn hf hfn => by
      obtain rfl : f = 4 := Option.some.inj ((show Tryz.prog.funcNamed "loop.example/g00974/laws.FnApartly" = some 4 by kernel_rfl).symm.trans hf) |>.symm
      obtain rfl : fn = Tryz.f4 := (Option.some.inj (Tryz.func4.symm.trans hfn)).symm
      exact ⟨looks_FnApartly, fun j t ht => by
        rw [Tryz.params4] at ht
        have hm : t ∈ [22] := by simpa using Array.mem_of_getElem? ht
        have hall : ([22].all fun u => !Tryz.prog.wantsStandIn u) = true := by kernel_rfl
        exact (show Tryz.prog.wantsStandIn t = false by simpa using List.all_eq_true.1 hall t hm)⟩)
    goes_FnApartly
#print axioms proved_FnApartly

end Go.Proofs.YtpnoehpmgflibaaGreatDoor
