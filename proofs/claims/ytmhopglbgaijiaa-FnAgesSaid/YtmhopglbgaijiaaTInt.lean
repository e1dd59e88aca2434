/- The laws' measure, copy, comparison, marks of slices of ints. Each condition stands in its theorem. -/
import Derived.Test.YtmhopglbgaijiaaMark
set_option linter.unusedVariables false
set_option linter.unusedSimpArgs false
namespace Go.Proofs.Ytmhopglbgaijiaa
open Go.ChangeShapes Go.WideShapes Go.ChangeAt Go.RowKit

def mkInt (k : Int) : Int := k
theorem vInt_shape {v : Value} {xs : List Int} {w : World} {e : TypeId} (h : (vSlice vInt e).rd w [v] xs) : ∃ ao cap, v = .slice ao xs.length cap ∧ xs.length ≤ cap ∧ cap ≤ maxLen ∧ (ao = none → cap = 0 ∧ xs = []) ∧
    (xs ≠ [] → ∃ b off, ao = some ⟨b, off, none⟩ ∧ b < w.heap.size ∧ ∀ (i : Nat) (hi : i < xs.length), w.cell? ⟨b, off + i, none⟩ = some (Value.int .i64 xs[i])) ∧ ∀ s ∈ xs, True := by
  obtain ⟨ao, cap, rfl, h1, h2, h3, h4⟩ := vSlice.shape h
  refine ⟨ao, cap, rfl, h1, h2, fun e => ⟨h3 e, List.eq_nil_of_length_eq_zero (by have := h3 e; omega)⟩, fun hne => ?_, fun s hs => ?_⟩
  · have hl : 0 < xs.length := List.length_pos_iff.2 hne
    obtain ⟨b, off, cs, rfl, hb, _, _⟩ := h4 0 hl
    refine ⟨b, off, rfl, hb, fun i hi => ?_⟩
    obtain ⟨b', off', cs', e, _, hr, hc⟩ := h4 i hi
    simp only [Option.some.injEq, Addr.mk.injEq, and_true] at e
    obtain ⟨rfl, rfl⟩ := e
    obtain ⟨rfl, _⟩ := hr
    have := hc 0 _ rfl
    simpa [vInt, vRow] using this
  · obtain ⟨i, hi, rfl⟩ := List.getElem_of_mem hs
    obtain ⟨_, _, _, _, _, hr, _⟩ := h4 i hi
    exact hr.2
theorem Try.elemIntS : Elem Try.prog 29 3 1 8 := Elem.of (.int .i64 0) Try.underlying29 (by kernel_rfl) rfl (by decide)
end Go.Proofs.Ytmhopglbgaijiaa
