/- The spans of the reference: a text put into rising ones. Each condition stands in its theorem. -/
import Derived.Test.YtkfkbojcnbpmdaaGreatDoorRow
import Derived.Lib.Hide
set_option linter.unusedVariables false
namespace Go.Proofs.YtkfkbojcnbpmdaaGreatDoor
open Go.ChangeShapes Go.WideShapes Go.ChangeAt Go.RowKit

def ltS (a b : ByteArray) : Bool := Op.bytesLess a.toList b.toList
/-- how many at the head are below x -/
def putAt (xs : List ByteArray) (x : ByteArray) : Nat := (xs.takeWhile (ltS · x)).length
def putS (xs : List ByteArray) (x : ByteArray) : List ByteArray := if xs[putAt xs x]? = some x then xs else xs.take (putAt xs x) ++ x :: xs.drop (putAt xs x)

theorem Tryz.elemStrs : Elem Tryz.prog 57 9 1 16 := Elem.of (.string ⟨#[]⟩) Tryz.underlying57 (by kernel_rfl) rfl (by decide)

theorem takeWhile_le {α : Type} (p : α → Bool) (l : List α) : (l.takeWhile p).length ≤ l.length := by
  induction l with
  | nil => simp
  | cons a l ih => simp only [List.takeWhile_cons]; split <;> simp <;> omega

theorem putAt_lt {xs : List ByteArray} {x : ByteArray} {k : Nat} (hk : k < putAt xs x) (h : k < xs.length) : ltS xs[k] x = true := by
  have h1 : (xs.takeWhile (ltS · x))[k]'hk = xs[k] := by
    have := List.takeWhile_prefix (ltS · x) (l := xs)
    exact List.IsPrefix.getElem this hk
  have h2 : ∀ (l : List ByteArray) (k : Nat) (h : k < (l.takeWhile (ltS · x)).length), ltS (l.takeWhile (ltS · x))[k] x = true := by
    intro l
    induction l with
    | nil => intro k h; simp at h
    | cons a l ih =>
      intro k h
      simp only [List.takeWhile_cons] at h ⊢
      split at h
      · rename_i ha
        simp only [ha, if_true]
        cases k with
        | zero => exact ha
        | succ k => exact ih k (by simpa using h)
      · simp at h
  have h3 := h2 xs k hk
  rw [h1] at h3
  exact h3
theorem putAt_ge {xs : List ByteArray} {x : ByteArray} (h : putAt xs x < xs.length) : ltS xs[putAt xs x] x = false := by
  have h2 : ∀ (l : List ByteArray) (h : (l.takeWhile (ltS · x)).length < l.length), ltS l[(l.takeWhile (ltS · x)).length] x = false := by
    intro l
    induction l with
    | nil => intro h; simp at h
    | cons a l ih =>
      intro h
      by_cases ha : ltS a x = true
      · simp only [List.takeWhile_cons, ha, if_true, List.length_cons] at h ⊢
        simpa using ih (by simpa using h)
      · have ha' : ltS a x = false := by simpa using ha
        simp only [List.takeWhile_cons, ha', Bool.false_eq_true, if_false, List.length_nil]
        exact ha'
  exact h2 xs h
theorem rd_cast {α : Type} {R : RowOf α} {w : World} {v : Value} {xs ys : List α} (h : RdL R w v xs) (e : ys = xs) : RdL R w v ys := by rw [e]; exact h

end Go.Proofs.YtkfkbojcnbpmdaaGreatDoor
