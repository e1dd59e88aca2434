/- Two lists, element by element. No condition. -/
import Derived.Test.YtdelkphahpbegaaView
namespace Go.Proofs.Ytdelkphahpbegaa
open Go.RowKit
/-- the lists are of one length, and p holds of each pair -/
def sameL {α : Type} (p : α → α → Bool) (xs ys : List α) : Bool := decide (xs.length = ys.length) && (xs.zip ys).all fun z => p z.1 z.2
theorem all_take_step {α : Type} (p : α → Bool) (xs : List α) (n : Nat) (h : n < xs.length) : (xs.take (n + 1)).all p = ((xs.take n).all p && p xs[n]) := by
  simp only [List.take_succ_eq_append_getElem h, List.all_append, List.all_cons, List.all_nil, Bool.and_true]
theorem all_take_false {α : Type} (p : α → Bool) (xs : List α) (n : Nat) (h : (xs.take n).all p = false) : xs.all p = false := by
  cases hp : xs.all p with
  | false => rfl
  | true =>
    rw [List.all_eq_true] at hp
    have : (xs.take n).all p = true := by
      rw [List.all_eq_true]
      exact fun x hx => hp x (List.mem_of_mem_take hx)
    rw [this] at h
    cases h
theorem sameL_len {α : Type} {p : α → α → Bool} {xs ys : List α} (h : xs.length ≠ ys.length) : sameL p xs ys = false := by
  unfold sameL
  simp [h]
theorem sameL_all {α : Type} {p : α → α → Bool} {xs ys : List α} (h : xs.length = ys.length) : sameL p xs ys = (xs.zip ys).all fun z => p z.1 z.2 := by
  unfold sameL
  simp [h]
theorem zip_step {α : Type} (p : α → α → Bool) (xs ys : List α) (n : Nat) (h : n < xs.length) (h' : n < ys.length) : ((xs.zip ys).take (n + 1)).all (fun z => p z.1 z.2) = (((xs.zip ys).take n).all (fun z => p z.1 z.2) && p xs[n] ys[n]) := by
  rw [all_take_step _ _ n (by rw [List.length_zip]; omega)]
  simp
end Go.Proofs.Ytdelkphahpbegaa
