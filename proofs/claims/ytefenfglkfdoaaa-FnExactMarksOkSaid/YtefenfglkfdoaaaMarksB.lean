/- Rising numbers: the program's and the reference's. Each condition stands in its theorem. -/
import Derived.Test.YtefenfglkfdoaaaIn
import Derived.Test.YtefenfglkfdoaaaFirst
import Derived.Test.YtefenfglkfdoaaaTInt
set_option linter.unusedVariables false
set_option linter.unusedSimpArgs false
namespace Go.Proofs.Ytefenfglkfdoaaa
open Go.ChangeShapes Go.WideShapes Go.ChangeAt Go.RowKit

def pairOk (m : List Int) : Nat → Bool
  | 0 => true
  | j + 1 => match m[j]?, m[j + 1]? with
    | some p, some x => decide (p ≤ x)
    | _, _ => true
theorem pairOk_at (m : List Int) (j : Nat) (h : j + 1 < m.length) : pairOk m (j + 1) = decide (m[j] ≤ m[j + 1]) := by
  simp only [pairOk, List.getElem?_eq_getElem h, List.getElem?_eq_getElem (show j < m.length by omega)]
theorem pairOk_past (m : List Int) (n : Nat) (h : m.length ≤ n) : pairOk m n = true := by
  cases n with
  | zero => rfl
  | succ j => simp only [pairOk, List.getElem?_eq_none h]; cases m[j]? <;> rfl
def sorted (m : List Int) : Bool := (List.range m.length).all (pairOk m)
theorem sorted_no (m : List Int) (j : Nat) (h : pairOk m j = false) : sorted m = false := by
  cases hs : sorted m with
  | false => rfl
  | true =>
    unfold sorted at hs
    rw [List.all_eq_true] at hs
    by_cases hl : j < m.length
    · rw [hs j (List.mem_range.2 hl)] at h; cases h
    · rw [pairOk_past m j (by omega)] at h; cases h
theorem sorted_yes (m : List Int) (h : ∀ j, 0 < j → j < m.length → pairOk m j = true) : sorted m = true := by
  unfold sorted
  rw [List.all_eq_true]
  intro j hj
  cases j with
  | zero => rfl
  | succ j => exact h _ (by omega) (List.mem_range.1 hj)
theorem cmp_isNaN (x : Int) (w : World) : Calls Try.prog 128 #[.int .i64 x] w fun e w' => e = .returned (.bool false) ∧ w' = w := by
  go_enter Try.func128, Try.ntmps128
  go_wp2
  go_ret
  exact ⟨by simp, rfl⟩
theorem cmp_Less (x y : Int) (w : World) : Calls Try.prog 120 #[.int .i64 x, .int .i64 y] w fun e w' => e = .returned (.bool (decide (x < y))) ∧ w' = w := by
  go_enter Try.func120, Try.ntmps120
  go_wp2_with fail
  (go_at_call 128; refine (cmp_isNaN _ _).mono ?_; rintro e w' ⟨rfl, rfl⟩)
  go_wp2
  go_ret
  exact ⟨rfl, rfl⟩
set_option maxRecDepth 100000 in
set_option maxHeartbeats 1000000 in
theorem ints_IsSorted (v : Value) (m : List Int) (w : World) {e : TypeId} (hs : (vSlice vInt e).rd w [v] m) :
    Calls Try.prog 81 #[v] w fun e w' => e = .returned (.bool (sorted m)) ∧ Below w.heap.size w w' := by
  obtain ⟨ao, cap, rfl, hc1, hc2, hnil, hcell, _⟩ := vInt_shape hs
  have HX := Lib.hid hcell
  clear hcell hnil hs
  unfold maxLen at hc2
  go_enter Try.func81, Try.ntmps81
  go_wp2
  go_loopw [3] (fun k wr => ∃ (i : Int), k = .int .i64 i ∧ -1 ≤ i ∧ i < m.length ∧ Below w.heap.size w wr ∧ Hid (∀ j : Nat, i < j → j < m.length → pairOk m j = true)) (fun k _ => (intOf k).toNat)
  case atStart => exact ⟨(m.length : Int) - 1, by go_num, by omega, by omega, (by repeat (first | with_reducible exact Below.refl _ _ | with_reducible apply Below.ofExt | with_reducible apply Below.ofAlloc | with_reducible apply Below.drew | with_reducible apply Below.ofDrewN | with_reducible assumption | (with_reducible refine Below.setCell ?_ (by first | exact Nat.le_refl _ | (simp [go_sem]; done) | (simp [go_sem]; omega)) _))), fun j h1 h2 => absurd h1 (by omega)⟩
  case round =>
    obtain ⟨i, rfl, hi0, hi1, hbel, HA⟩ := hrel
    obtain ⟨X, rfl⟩ := hbel.ext
    by_cases hlt : 0 < i
    case pos =>
      obtain ⟨j, rfl⟩ : ∃ j : Nat, i = ((j + 1 : Nat) : Int) := ⟨i.toNat - 1, by omega⟩
      have hk : j + 1 < m.length := by omega
      have hk0 : j < m.length := by omega
      obtain ⟨b, off, rfl, hbl, hcell⟩ := HX.out (by intro e; simp [e] at hk)
      have c1 := hcell (j + 1) hk
      have c0 := hcell j hk0
      clear hcell
      have hp := pairOk_at m j hk
      generalize m[j + 1] = x at c1 hp
      generalize m[j] = p at c0 hp
      have HP := Lib.hid hp
      clear hp
      by_cases hl : x < p
      case pos =>
        have CL : Hid (∀ W : World, Calls Try.prog 120 #[.int .i64 x, .int .i64 p] W fun e w' => e = .returned (.bool true) ∧ w' = W) := fun W => (cmp_Less x p W).mono fun e w' h => ⟨by rw [h.1, decide_eq_true hl], h.2⟩
        have HN : Hid (pairOk m (j + 1) = false) := by show _ = _; rw [HP.out]; exact decide_eq_false (by omega)
        go_wp2
        go_quiet ((go_at_call 120; (first | exact Calls.quiet_of_same (CL.out _) | exact quietE (CL.out _))))
        go_wp2
        go_ret
        exact ⟨by rw [sorted_no m (j + 1) HN.out]; rfl, (by repeat (first | with_reducible exact Below.refl _ _ | with_reducible apply Below.ofExt | with_reducible apply Below.ofAlloc | with_reducible apply Below.drew | with_reducible apply Below.ofDrewN | with_reducible assumption | (with_reducible refine Below.setCell ?_ (by first | exact Nat.le_refl _ | (simp [go_sem]; done) | (simp [go_sem]; omega)) _)))⟩
      case neg =>
        have CL : Hid (∀ W : World, Calls Try.prog 120 #[.int .i64 x, .int .i64 p] W fun e w' => e = .returned (.bool false) ∧ w' = W) := fun W => (cmp_Less x p W).mono fun e w' h => ⟨by rw [h.1, decide_eq_false hl], h.2⟩
        have HN : Hid (pairOk m (j + 1) = true) := by show _ = _; rw [HP.out]; exact decide_eq_true (by omega)
        go_wp2
        go_quiet ((go_at_call 120; (first | exact Calls.quiet_of_same (CL.out _) | exact quietE (CL.out _))))
        go_wp2
        go_roundw
        case rel =>
          refine ⟨(j : Int), by go_num, by omega, by omega, (by repeat (first | with_reducible exact Below.refl _ _ | with_reducible apply Below.ofExt | with_reducible apply Below.ofAlloc | with_reducible apply Below.drew | with_reducible apply Below.ofDrewN | with_reducible assumption | (with_reducible refine Below.setCell ?_ (by first | exact Nat.le_refl _ | (simp [go_sem]; done) | (simp [go_sem]; omega)) _))), fun q h1 h2 => ?_⟩
          by_cases hq : q = j + 1
          · subst hq; exact HN.out
          · exact HA.out q (by omega) h2
        case measure => simp [intOf] <;> omega
    case neg =>
      have HF : Hid (sorted m = true) := sorted_yes m fun j h1 h2 => HA.out j (by omega) h2
      go_wp2
      go_ret
      exact ⟨by rw [HF.out]; rfl, (by repeat (first | with_reducible exact Below.refl _ _ | with_reducible apply Below.ofExt | with_reducible apply Below.ofAlloc | with_reducible apply Below.drew | with_reducible apply Below.ofDrewN | with_reducible assumption | (with_reducible refine Below.setCell ?_ (by first | exact Nat.le_refl _ | (simp [go_sem]; done) | (simp [go_sem]; omega)) _)))⟩
end Go.Proofs.Ytefenfglkfdoaaa
