/- The given card of FnRestsOn: for every input that can be read the law returns true, and each argument reads as before; the listed variables begin as the text of the program lays them (the card ties them). No other condition. -/
import Derived.Test.YtpnoehpmgflibaaGreatDoorPAFnRestsOn
import Derived.Test.YtpnoehpmgflibaaGreatDoorJcFnRestsOn
import Derived.Test.YtpnoehpmgflibaaGreatDoorGFnRestsOn
import Derived.Test.YtpnoehpmgflibaaGreatDoorCards
import Derived.Test.YtpnoehpmgflibaaGreatDoorTie
import Derived.ProofKit
import Derived.LaidMore
import Derived.OpenShut
import Derived.Stop.Joined
import Derived.Stop.LaidErr
import Derived.Lib.LaidTab
import Derived.SevenTiedAt
import Derived.Shelf.Vars
import Derived.HandedShaped
import Derived.Lay
set_option linter.unusedVariables false
namespace Go.Proofs.YtpnoehpmgflibaaGreatDoor
open Go.ChangeShapes Go.WideShapes Go.ChangeAt Go.RowKit
open Go.ChangeMaps (open_string)

theorem row_FnRestsOn : Rows.FnRestsOnSaid :=
  OpenClaim.holds_of_wide 3 Tryz.f3 rfl rfl rfl rfl rfl rfl rfl ⟨rfl, rfl, rfl, rfl, rfl⟩ rfl rfl rfl rfl rfl (by kernel_rfl) Tryz.func3 joined_FnRestsOn
    (of_decide_eq_true (by kernel_rfl)) (by unfold Func.isWrapper; first | (rw [if_pos (by decide +kernel)]; kernel_rfl) | (rw [if_neg (by decide +kernel)]; exact ⟨rfl, rfl⟩))
    (fun os started H enc _ => l_FnRestsOn os started H enc)
theorem proved_FnRestsOn : Rows.FnRestsOnCardSaid :=
  Claim7.holds_tied_plain_at .later [] [.data, .data, .data, .sentinel, .sentinel, .sentinel] true (true, "fba313df6c8ba6c409cb32ce218e1c37639ef8688f14da0ff2e0158159e43aad") true
    row_FnRestsOn (fun _ h => by cases h) (by kernel_rfl) (fun _ h => by cases h) fnRestsOn_row_tie rfl ⟨rfl, rfl⟩ (by kernel_rfl) rfl
    (fun f fn hf hfn => by
      obtain rfl : f = 3 := Option.some.inj ((show Tryz.prog.funcNamed "loop.example/g00974/laws.FnRestsOn" = some 3 by kernel_rfl).symm.trans hf) |>.symm
      obtain rfl : fn = Tryz.f3 := (Option.some.inj (Tryz.func3.symm.trans hfn)).symm
      exact ⟨looks_FnRestsOn, fun j t ht => by
        rw [Tryz.params3] at ht
        have hm : t ∈ [22] := by simpa using Array.mem_of_getElem? ht
        have hall : ([22].all fun u => !Tryz.prog.wantsStandIn u) = true := by kernel_rfl
        exact (show Tryz.prog.wantsStandIn t = false by simpa using List.all_eq_true.1 hall t hm)⟩)
    goes_FnRestsOn
#print axioms proved_FnRestsOn

end Go.Proofs.YtpnoehpmgflibaaGreatDoor
