/- The given card of FnExactWouldTouch: for every input that can be read the law returns true, and each argument reads as before; the listed variables begin as the text of the program lays them (the card ties them). No other condition. -/
import Derived.Test.YtodokkpnafabpaaGreatDoorPAFnExactWouldTouch
import Derived.Test.YtodokkpnafabpaaGreatDoorJcFnExactWouldTouch
import Derived.Test.YtodokkpnafabpaaGreatDoorGFnExactWouldTouch
import Derived.Test.YtodokkpnafabpaaGreatDoorCards
import Derived.Test.YtodokkpnafabpaaGreatDoorTie
import Derived.ProofKit
import Derived.LaidMore
import Derived.OpenShut
import Derived.Stop.Joined
import Derived.Stop.LaidErr
import Derived.Lib.LaidTab
import Derived.SevenTiedAt
import Derived.Shelf.Vars
import Derived.HandedShaped
import Derived.Lay
set_option linter.unusedVariables false
namespace Go.Proofs.YtodokkpnafabpaaGreatDoor
open Go.ChangeShapes Go.WideShapes Go.ChangeAt Go.RowKit
open Go.ChangeMaps (open_string)

theorem row_FnExactWouldTouch : Rows.FnExactWouldTouchSaid :=
  OpenClaim.holds_of_wide 3 Tryz.f3 rfl rfl rfl rfl rfl rfl rfl ⟨rfl, rfl, rfl, rfl, rfl⟩ rfl rfl rfl rfl rfl (by kernel_rfl) Tryz.func3 joined_FnExactWouldTouch
    (of_decide_eq_true (by kernel_rfl)) (by unfold Func.isWrapper; first | (rw [if_pos (by decide +kernel)]; kernel_rfl) | (rw [if_neg (by decide +kernel)]; exact ⟨rfl, rfl⟩))
    (fun os started H enc _ => l_FnExactWouldTouch os started H enc)
theorem proved_FnExactWouldTouch : Rows.FnExactWouldTouchCardSaid :=
  Claim7.holds_tied_plain_at .later [] [.data, .data, .data, .sentinel, .sentinel, .sentinel] true (true, "2f8213516f5547eed7f63483e940dd45555919be9a61ffeee27e3901adf3151c") true
    row_FnExactWouldTouch (fun _ h => by cases h) (by kernel_rfl) (fun _ h => by cases h) fnExactWouldTouch_row_tie rfl ⟨rfl, rfl⟩ (by kernel_rfl) rfl
    (fun f fn hf hfn => by
      obtain rfl : f = 3 := Option.some.inj ((show Tryz.prog.funcNamed "loop.example/g00974/laws.FnExactWouldTouch" = some 3 by kernel_rfl).symm.trans hf) |>.symm
      obtain rfl : fn = Tryz.f3 := (Option.some.inj (Tryz.func3.symm.trans hfn)).symm
      exact ⟨looks_FnExactWouldTouch, fun j t ht => by
        rw [Tryz.params3] at ht
        have hm : t ∈ [22, 30, 32] := by simpa using Array.mem_of_getElem? ht
        have hall : ([22, 30, 32].all fun u => !Tryz.prog.wantsStandIn u) = true := by kernel_rfl
        exact (show Tryz.prog.wantsStandIn t = false by simpa using List.all_eq_true.1 hall t hm)⟩)
    goes_FnExactWouldTouch
#print axioms proved_FnExactWouldTouch

end Go.Proofs.YtodokkpnafabpaaGreatDoor
