/- The given card of FnExactStepsRestOn: for every input that can be read the law returns true, and each argument reads as before; the listed variables begin as the text of the program lays them (the card ties them). No other condition. -/
import Derived.Test.YtgcmnkkakngifaaGreatDoorPAFnExactStepsRestOn
import Derived.Test.YtgcmnkkakngifaaGreatDoorJcFnExactStepsRestOn
import Derived.Test.YtgcmnkkakngifaaGreatDoorGFnExactStepsRestOn
import Derived.Test.YtgcmnkkakngifaaGreatDoorCards
import Derived.Test.YtgcmnkkakngifaaGreatDoorTie
import Derived.ProofKit
import Derived.LaidMore
import Derived.OpenShut
import Derived.Stop.Joined
import Derived.Stop.LaidErr
import Derived.Lib.LaidTab
import Derived.SevenTiedAt
import Derived.Shelf.Vars
import Derived.HandedShaped
import Derived.Lay
set_option linter.unusedVariables false
namespace Go.Proofs.YtgcmnkkakngifaaGreatDoor
open Go.ChangeShapes Go.WideShapes Go.ChangeAt Go.RowKit
open Go.ChangeMaps (open_string)

theorem row_FnExactStepsRestOn : Rows.FnExactStepsRestOnSaid :=
  OpenClaim.holds_of_wide 8 Tryz.f8 rfl rfl rfl rfl rfl rfl rfl ⟨rfl, rfl, rfl, rfl, rfl⟩ rfl rfl rfl rfl rfl (by kernel_rfl) Tryz.func8 joined_FnExactStepsRestOn
    (of_decide_eq_true (by kernel_rfl)) (by unfold Func.isWrapper; first | (rw [if_pos (by decide +kernel)]; kernel_rfl) | (rw [if_neg (by decide +kernel)]; exact ⟨rfl, rfl⟩))
    (fun os started H enc _ => l_FnExactStepsRestOn os started H enc)
theorem proved_FnExactStepsRestOn : Rows.FnExactStepsRestOnCardSaid :=
  Claim7.holds_tied_plain_at .later [] [.data, .data, .data, .sentinel, .sentinel, .sentinel] true (true, "108015b372a8c24b0cff5524d13f609db752e674f118082910b5df34cdf14e06") true
    row_FnExactStepsRestOn (fun _ h => by cases h) (by kernel_rfl) (fun _ h => by cases h) fnExactStepsRestOn_row_tie rfl ⟨rfl, rfl⟩ (by kernel_rfl) rfl
    (fun f fn hf hfn => by
      obtain rfl : f = 8 := Option.some.inj ((show Tryz.prog.funcNamed "loop.example/g00974/laws.FnExactStepsRestOn" = some 8 by kernel_rfl).symm.trans hf) |>.symm
      obtain rfl : fn = Tryz.f8 := (Option.some.inj (Tryz.func8.symm.trans hfn)).symm
      exact ⟨looks_FnExactStepsRestOn, fun j t ht => by
        rw [Tryz.params8] at ht
        have hm : t ∈ [22, 22, 59] := by simpa using Array.mem_of_getElem? ht
        have hall : ([22, 22, 59].all fun u => !Tryz.prog.wantsStandIn u) = true := by kernel_rfl
        exact (show Tryz.prog.wantsStandIn t = false by simpa using List.all_eq_true.1 hall t hm)⟩)
    goes_FnExactStepsRestOn
#print axioms proved_FnExactStepsRestOn

end Go.Proofs.YtgcmnkkakngifaaGreatDoor
