/- A number brought into a range: the program's and the reference's. Each condition stands in its theorem. -/
import Derived.Test.YtefenfglkfdoaaaView
set_option linter.unusedVariables false
set_option linter.unusedSimpArgs false
namespace Go.Proofs.Ytefenfglkfdoaaa
open Go.ChangeShapes Go.WideShapes Go.ChangeAt Go.RowKit

def broughtIn (x lo hi : Int) : Int := if hi < lo then lo else if x < lo then lo else if hi < x then hi else x
theorem spec_Brought (x lo hi : Int) (w : World) :
    Calls Try.prog 99 #[.int .i64 x, .int .i64 lo, .int .i64 hi] w fun e w' => e = .returned (.int .i64 (broughtIn x lo hi)) ∧ w' = w := by
  by_cases h0 : hi < lo
  · by_cases h1 : x < hi
    · have hq : broughtIn x lo hi = lo := by unfold broughtIn; (repeat (first | rw [if_pos (by omega)] | rw [if_neg (by omega)]))
      rw [hq]
      clear hq
      go_enter Try.func99, Try.ntmps99
      go_wp2
      all_goals go_ret
      all_goals exact ⟨congrArg (fun z => Ending.returned (.int .i64 z)) (by omega), rfl⟩
    · by_cases h2 : hi < x
      · have hq : broughtIn x lo hi = lo := by unfold broughtIn; (repeat (first | rw [if_pos (by omega)] | rw [if_neg (by omega)]))
        rw [hq]
        clear hq
        go_enter Try.func99, Try.ntmps99
        go_wp2
        all_goals go_ret
        all_goals exact ⟨congrArg (fun z => Ending.returned (.int .i64 z)) (by omega), rfl⟩
      · have hq : broughtIn x lo hi = lo := by unfold broughtIn; (repeat (first | rw [if_pos (by omega)] | rw [if_neg (by omega)]))
        rw [hq]
        clear hq
        go_enter Try.func99, Try.ntmps99
        go_wp2
        all_goals go_ret
        all_goals exact ⟨congrArg (fun z => Ending.returned (.int .i64 z)) (by omega), rfl⟩
  · by_cases h1 : x < lo
    · have hq : broughtIn x lo hi = lo := by unfold broughtIn; (repeat (first | rw [if_pos (by omega)] | rw [if_neg (by omega)]))
      rw [hq]
      clear hq
      go_enter Try.func99, Try.ntmps99
      go_wp2
      all_goals go_ret
      all_goals exact ⟨congrArg (fun z => Ending.returned (.int .i64 z)) (by omega), rfl⟩
    · by_cases h2 : hi < x
      · have hq : broughtIn x lo hi = hi := by unfold broughtIn; (repeat (first | rw [if_pos (by omega)] | rw [if_neg (by omega)]))
        rw [hq]
        clear hq
        go_enter Try.func99, Try.ntmps99
        go_wp2
        all_goals go_ret
        all_goals exact ⟨congrArg (fun z => Ending.returned (.int .i64 z)) (by omega), rfl⟩
      · have hq : broughtIn x lo hi = x := by unfold broughtIn; (repeat (first | rw [if_pos (by omega)] | rw [if_neg (by omega)]))
        rw [hq]
        clear hq
        go_enter Try.func99, Try.ntmps99
        go_wp2
        all_goals go_ret
        all_goals exact ⟨congrArg (fun z => Ending.returned (.int .i64 z)) (by omega), rfl⟩
theorem impl_Brought (x lo hi : Int) (w : World) :
    Calls Try.prog 101 #[.int .i64 x, .int .i64 lo, .int .i64 hi] w fun e w' => e = .returned (.int .i64 (broughtIn x lo hi)) ∧ w' = w := by
  by_cases h0 : hi < lo
  · by_cases h1 : x < hi
    · have hq : broughtIn x lo hi = lo := by unfold broughtIn; (repeat (first | rw [if_pos (by omega)] | rw [if_neg (by omega)]))
      rw [hq]
      clear hq
      go_enter Try.func101, Try.ntmps101
      go_wp2
      all_goals go_ret
      all_goals exact ⟨congrArg (fun z => Ending.returned (.int .i64 z)) (by omega), rfl⟩
    · by_cases h2 : hi < x
      · have hq : broughtIn x lo hi = lo := by unfold broughtIn; (repeat (first | rw [if_pos (by omega)] | rw [if_neg (by omega)]))
        rw [hq]
        clear hq
        go_enter Try.func101, Try.ntmps101
        go_wp2
        all_goals go_ret
        all_goals exact ⟨congrArg (fun z => Ending.returned (.int .i64 z)) (by omega), rfl⟩
      · have hq : broughtIn x lo hi = lo := by unfold broughtIn; (repeat (first | rw [if_pos (by omega)] | rw [if_neg (by omega)]))
        rw [hq]
        clear hq
        go_enter Try.func101, Try.ntmps101
        go_wp2
        all_goals go_ret
        all_goals exact ⟨congrArg (fun z => Ending.returned (.int .i64 z)) (by omega), rfl⟩
  · by_cases h1 : x < lo
    · have hq : broughtIn x lo hi = lo := by unfold broughtIn; (repeat (first | rw [if_pos (by omega)] | rw [if_neg (by omega)]))
      rw [hq]
      clear hq
      go_enter Try.func101, Try.ntmps101
      go_wp2
      all_goals go_ret
      all_goals exact ⟨congrArg (fun z => Ending.returned (.int .i64 z)) (by omega), rfl⟩
    · by_cases h2 : hi < x
      · have hq : broughtIn x lo hi = hi := by unfold broughtIn; (repeat (first | rw [if_pos (by omega)] | rw [if_neg (by omega)]))
        rw [hq]
        clear hq
        go_enter Try.func101, Try.ntmps101
        go_wp2
        all_goals go_ret
        all_goals exact ⟨congrArg (fun z => Ending.returned (.int .i64 z)) (by omega), rfl⟩
      · have hq : broughtIn x lo hi = x := by unfold broughtIn; (repeat (first | rw [if_pos (by omega)] | rw [if_neg (by omega)]))
        rw [hq]
        clear hq
        go_enter Try.func101, Try.ntmps101
        go_wp2
        all_goals go_ret
        all_goals exact ⟨congrArg (fun z => Ending.returned (.int .i64 z)) (by omega), rfl⟩
end Go.Proofs.Ytefenfglkfdoaaa
