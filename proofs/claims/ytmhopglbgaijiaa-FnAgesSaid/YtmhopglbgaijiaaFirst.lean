/- The place of the first of a list: the program's and the reference's. Each condition stands in its theorem. -/
import Derived.Test.YtmhopglbgaijiaaView
set_option linter.unusedVariables false
set_option linter.unusedSimpArgs false
namespace Go.Proofs.Ytmhopglbgaijiaa
open Go.ChangeShapes Go.WideShapes Go.ChangeAt Go.RowKit

theorem any_take_step {α : Type} (p : α → Bool) (xs : List α) (n : Nat) (h : n < xs.length) : (xs.take (n + 1)).any p = ((xs.take n).any p || p xs[n]) := by
  simp only [List.take_succ_eq_append_getElem h, List.any_append, List.any_cons, List.any_nil, Bool.or_false]
theorem any_take_true {α : Type} (p : α → Bool) (xs : List α) (n : Nat) (h : (xs.take n).any p = true) : xs.any p = true := by
  rw [List.any_eq_true] at h ⊢
  obtain ⟨x, hx, hp⟩ := h
  exact ⟨x, List.mem_of_mem_take hx, hp⟩
/-- the place of the first that p holds of, or -1 -/
def firstIdx {α : Type} (p : α → Bool) (ds : List α) : Int := if ds.any p then ds.findIdx p else -1
theorem firstIdx_none {α : Type} (p : α → Bool) (ds : List α) (h : ds.any p = false) : firstIdx p ds = -1 := by unfold firstIdx; rw [h]; rfl
theorem firstIdx_found {α : Type} (p : α → Bool) (ds : List α) (n : Nat) (hn : n < ds.length) (h : (ds.take n).any p = false) (h2 : p ds[n] = true) : firstIdx p ds = n := by
  have ha : ds.any p = true := any_take_true p ds (n + 1) (by rw [any_take_step p ds n hn, h2, Bool.or_true])
  unfold firstIdx
  rw [if_pos ha]
  congr 1
  rw [List.findIdx_eq hn]
  refine ⟨h2, fun j hj => ?_⟩
  cases hp : p ds[j] with
  | false => rfl
  | true =>
    rw [List.any_eq_false] at h
    exact absurd hp (h _ (by rw [List.mem_take_iff_getElem]; exact ⟨j, by omega, rfl⟩))
theorem firstIdx_ge {α : Type} (p : α → Bool) (ds : List α) : decide (0 ≤ firstIdx p ds) = ds.any p := by
  unfold firstIdx
  cases h : ds.any p with
  | true => rw [if_pos rfl]; simp
  | false => simp
end Go.Proofs.Ytmhopglbgaijiaa
