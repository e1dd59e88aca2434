/- The given card of FnExactRestsOn: for every input that can be read the law returns true, and each argument reads as before; the listed variables begin as the text of the program lays them (the card ties them). No other condition. -/
import Derived.Test.YtgcmnkkakngifaaGreatDoorPAFnExactRestsOn
import Derived.Test.YtgcmnkkakngifaaGreatDoorJcFnExactRestsOn
import Derived.Test.YtgcmnkkakngifaaGreatDoorGFnExactRestsOn
import Derived.Test.YtgcmnkkakngifaaGreatDoorCards
import Derived.Test.YtgcmnkkakngifaaGreatDoorTie
import Derived.ProofKit
import Derived.LaidMore
import Derived.OpenShut
import Derived.Stop.Joined
import Derived.Stop.LaidErr
import Derived.Lib.LaidTab
import Derived.SevenTiedAt
import Derived.Shelf.Vars
import Derived.HandedShaped
import Derived.Lay
set_option linter.unusedVariables false
namespace Go.Proofs.YtgcmnkkakngifaaGreatDoor
open Go.ChangeShapes Go.WideShapes Go.ChangeAt Go.RowKit
open Go.ChangeMaps (open_string)

theorem row_FnExactRestsOn : Rows.FnExactRestsOnSaid :=
  OpenClaim.holds_of_wide 7 Tryz.f7 rfl rfl rfl rfl rfl rfl rfl ⟨rfl, rfl, rfl, rfl, rfl⟩ rfl rfl rfl rfl rfl (by kernel_rfl) Tryz.func7 joined_FnExactRestsOn
    (of_decide_eq_true (by kernel_rfl)) (by unfold Func.isWrapper; first | (rw [if_pos (by decide +kernel)]; kernel_rfl) | (rw [if_neg (by decide +kernel)]; exact ⟨rfl, rfl⟩))
    (fun os started H enc _ => l_FnExactRestsOn os started H enc)
theorem proved_FnExactRestsOn : Rows.FnExactRestsOnCardSaid :=
  Claim7.holds_tied_plain_at .later [] [.data, .data, .data, .sentinel, .sentinel, .sentinel] true (true, "108015b372a8c24b0cff5524d13f609db752e674f118082910b5df34cdf14e06") true
    row_FnExactRestsOn (fun _ h => by cases h) (by kernel_rfl) (fun _ h => by cases h) fnExactRestsOn_row_tie rfl ⟨rfl, rfl⟩ (by kernel_rfl) rfl
    (fun f fn hf hfn => by
      obtain rfl : f = 7 := Option.some.inj ((show Tryz.prog.funcNamed "loop.example/g00974/laws.FnExactRestsOn" = some 7 by kernel_rfl).symm.trans hf) |>.symm
      obtain rfl : fn = Tryz.f7 := (Option.some.inj (Tryz.func7.symm.trans hfn)).symm
      exact ⟨looks_FnExactRestsOn, fun j t ht => by
        rw [Tryz.params7] at ht
        have hm : t ∈ [22, 22, 3, 49] := by simpa using Array.mem_of_getElem? ht
        have hall : ([22, 22, 3, 49].all fun u => !Tryz.prog.wantsStandIn u) = true := by kernel_rfl
        exact (show Tryz.prog.wantsStandIn t = false by simpa using List.all_eq_true.1 hall t hm)⟩)
    goes_FnExactRestsOn
#print axioms proved_FnExactRestsOn

end Go.Proofs.YtgcmnkkakngifaaGreatDoor
