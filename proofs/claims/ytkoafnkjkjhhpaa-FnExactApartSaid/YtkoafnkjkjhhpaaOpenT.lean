/- Lists of strings and access sets among a law's arguments: what their reading says of the value. No condition. -/
import Derived.Test.YtkoafnkjkjhhpaaBase
import Derived.Test.YtkoafnkjkjhhpaaTouch
import Derived.Lib.SmallJoins
import Derived.SliceStrings
namespace Go.Proofs.Ytkoafnkjkjhhpaa
open Go.ChangeShapes Go.WideShapes Go.ChangeAt Go.RowKit
open Go.Joins

theorem flat_str (xs : List ByteArray) : xs.flatMap rStr.row = xs.map Value.string := by
  induction xs with
  | nil => rfl
  | cons x xs ih => rw [List.flatMap_cons, ih]; rfl
theorem open_strsW {H : Type} {enc : TypeId × Value → H} {P : Program} {W : World} {t e : TypeId} {n : Nat} {v : Value} {y : DataW H × List MemPlace} (ht : P.underlying t = some (.slice e)) (he : P.underlying e = some .string) (hc : P.cellsOf e = 1)
    (h : DataW.trod enc P W 0 (fun _ => true) true n t [v] = some y) : ∃ xs : List ByteArray, RdW rStr W v xs ∧ ∀ s ∈ xs, s.size ≤ maxLen := by
  rcases open_strings ht he hc h with ⟨h1, _⟩ | ⟨a, len, cap, ss, h1, _, h2, h3, h4, _, h5, h6⟩
  · simp only [List.cons.injEq, and_true] at h1
    subst h1
    exact ⟨[], .inl (RdL.nil _ _), by simp⟩
  · simp only [List.cons.injEq, and_true] at h1
    subst h1
    simp only [if_true] at h4
    have hl : (ss.take len).length = len := by simp; omega
    refine ⟨ss.take len, ?_, fun s hs => h6 s (List.mem_of_mem_take hs)⟩
    obtain ⟨b, off, sp⟩ := a
    cases sp with
    | some k =>
      have hz : ss = [] := by
        cases ss with
        | nil => rfl
        | cons s ss =>
          have := h5 0 (by simp)
          simp [World.cell?, Addr.add] at this
          split at this <;> simp at this
      subst hz
      have h0 : cap = 0 := by simpa using h4.symm
      have h00 : len = 0 := by omega
      subst h0 h00
      exact .inr ⟨rfl, _, rfl⟩
    | none =>
      refine .inl (.inr ⟨b, off, cap, by rw [hl], by omega, h3, fun j u hj => ?_⟩)
      rw [flat_str] at hj
      have hjl : j < len := by
        have := (List.getElem?_eq_some_iff.1 hj).1
        simp at this
        omega
      have hz : j < ss.length := by omega
      have := h5 j hz
      have ea : (Addr.add ⟨b, off, none⟩ j) = ⟨b, off + j, none⟩ := by
        unfold Addr.add
        split
        · next h => subst h; rfl
        · rfl
      rw [ea] at this
      rw [this]
      simp only [List.getElem?_map, List.getElem?_take, hjl, if_true, List.getElem?_eq_getElem hz, Option.map_some, Option.some.injEq] at hj
      rw [← hj, List.getD_eq_getElem?_getD, List.getElem?_eq_getElem hz]
      rfl
theorem Try.cells24 : Try.prog.cellsOf 24 = 2 := by kernel_rfl
theorem Try.cells9 : Try.prog.cellsOf 9 = 1 := by kernel_rfl
set_option maxRecDepth 100000 in
theorem open_touch {H : Type} {enc : TypeId × Value → H} {W : World} {base : Nat} {v : Value} {d : DataW H} {p : List MemPlace} (hv : Value.okWide Try.prog W .any base 24 v)
    (h : DataW.Trod enc Try.prog W 0 (fun _ => true) true 24 v d p) : ∃ x : TouchD, RdTouchW W v x ∧ x.ok := by
  obtain ⟨v0, v1, y0, y1, n, rfl, rfl, rfl, h0, h1⟩ := open_agg2 Try.underlying24 (by kernel_rfl) Try.cells24 hv h
  obtain ⟨xs, hx, hxz⟩ := open_strsW Try.underlying22 Try.underlying9 Try.cells9 h0
  obtain ⟨ys, hy, hyz⟩ := open_strsW Try.underlying22 Try.underlying9 Try.cells9 h1
  exact ⟨⟨xs, ys⟩, ⟨v0, v1, rfl, hx, hy⟩, ⟨hxz, hyz⟩⟩
end Go.Proofs.Ytkoafnkjkjhhpaa
