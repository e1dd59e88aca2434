/- Whether a number lies in a range: the program's and the reference's. Each condition stands in its theorem. -/
import Derived.Test.YtedgenmbdjadkaaGreatDoorView
import Derived.Lib.Hide
set_option linter.unusedVariables false
set_option linter.unusedSimpArgs false
namespace Go.Proofs.YtedgenmbdjadkaaGreatDoor
open Go.ChangeShapes Go.WideShapes Go.ChangeAt Go.RowKit

theorem quietE {P : Program} {f : FuncId} {args : Array Value} {w : World} {X : Ext} {n : Nat} {v : Value} (h : Calls P f args (w.ext ⟨X.bs, X.dr + n⟩) fun e w' => e = .returned v ∧ w' = w.ext ⟨X.bs, X.dr + n⟩) :
    Calls P f args (w.ext ⟨X.bs, X.dr + n⟩) fun e w'' => e = .returned v ∧ ∃ m, w'' = (w.ext X).drewN m := h.mono fun _ _ ⟨a, b⟩ => ⟨a, n, b⟩
def inB (n lo hi : Int) : Bool := decide (lo ≤ n) && decide (n ≤ hi)
theorem spec_l01In (n lo hi : Int) (w : World) :
    Calls Tryz.prog 36 #[.int .i64 n, .int .i64 lo, .int .i64 hi] w fun e w' => e = .returned (.bool (inB n lo hi)) ∧ w' = w := by
  by_cases h1 : lo ≤ n
  · by_cases h2 : n ≤ hi
    · have hq : inB n lo hi = true := by unfold inB; rw [decide_eq_true h1, decide_eq_true h2]; rfl
      rw [hq]
      clear hq
      go_enter Tryz.func36, Tryz.ntmps36
      go_wp2
      go_ret
      exact ⟨rfl, rfl⟩
    · have hq : inB n lo hi = false := by unfold inB; rw [decide_eq_true h1, decide_eq_false h2]; rfl
      rw [hq]
      clear hq
      go_enter Tryz.func36, Tryz.ntmps36
      go_wp2
      go_ret
      exact ⟨rfl, rfl⟩
  · have hq : inB n lo hi = false := by unfold inB; rw [decide_eq_false h1]; rfl
    rw [hq]
    clear hq
    go_enter Tryz.func36, Tryz.ntmps36
    go_wp2
    go_ret
    exact ⟨rfl, rfl⟩
theorem impl_within (n lo hi : Int) (w : World) :
    Calls Tryz.prog 38 #[.int .i64 n, .int .i64 lo, .int .i64 hi] w fun e w' => e = .returned (.bool (inB n lo hi)) ∧ w' = w := by
  by_cases h1 : lo ≤ n
  · by_cases h2 : n ≤ hi
    · have hq : inB n lo hi = true := by unfold inB; rw [decide_eq_true h1, decide_eq_true h2]; rfl
      rw [hq]
      clear hq
      go_enter Tryz.func38, Tryz.ntmps38
      go_wp2
      go_ret
      exact ⟨rfl, rfl⟩
    · have hq : inB n lo hi = false := by unfold inB; rw [decide_eq_true h1, decide_eq_false h2]; rfl
      rw [hq]
      clear hq
      go_enter Tryz.func38, Tryz.ntmps38
      go_wp2
      go_ret
      exact ⟨rfl, rfl⟩
  · have hq : inB n lo hi = false := by unfold inB; rw [decide_eq_false h1]; rfl
    rw [hq]
    clear hq
    go_enter Tryz.func38, Tryz.ntmps38
    go_wp2
    go_ret
    exact ⟨rfl, rfl⟩
end Go.Proofs.YtedgenmbdjadkaaGreatDoor
