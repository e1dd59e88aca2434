/- The records of a text that is cut: plain words. No program in sight. -/
import Derived.Test.YtedgenmbdjadkaaGreatDoorRecs
import Derived.Test.YtedgenmbdjadkaaGreatDoorTorn
set_option linter.unusedVariables false
set_option linter.unusedSimpArgs false
namespace Go.Proofs.YtedgenmbdjadkaaGreatDoor
open Go.ChangeShapes Go.WideShapes Go.ChangeAt Go.RowKit

theorem linesL_take : ∀ (m : Nat) (l : List UInt8), l.length ≤ m → ∀ n, linesL (l.take n) <+: linesL l
  | 0, l, h, n => by
    have : l = [] := List.eq_nil_of_length_eq_zero (by omega)
    subst this
    simp
  | m + 1, l, h, n => by
    by_cases hm : (10 : UInt8) ∈ l
    · obtain ⟨a, r, rfl, ha⟩ := first10 hm
      rw [linesL_app r ha]
      by_cases hn : n ≤ a.length
      · rw [List.take_append_of_le_length hn, linesL_none (fun hx => ha (List.mem_of_mem_take hx))]
        exact List.nil_prefix
      · obtain ⟨k, rfl⟩ : ∃ k, n = a.length + (k + 1) := ⟨n - a.length - 1, by omega⟩
        rw [List.take_length_add_append, List.take_succ_cons, linesL_app _ ha]
        rw [List.length_append, List.length_cons] at h
        exact (List.cons_prefix_cons).2 ⟨rfl, linesL_take m r (by omega) k⟩
    · rw [linesL_none (fun hx => hm (List.mem_of_mem_take hx))]
      exact List.nil_prefix
theorem linesB_take (s : ByteArray) (n : Nat) : linesB (s.extract 0 n) <+: linesB s := by
  unfold linesB
  have e3 : (s.extract 0 n).data.toList = s.data.toList.take n := by
    rw [ByteArray.data_extract, Array.toList_extract]
    simp [List.extract_eq_take_drop]
  rw [e3]
  exact List.IsPrefix.map _ (linesL_take _ _ (Nat.le_refl _) n)
def sizes (ls : List ByteArray) : Nat := (ls.map ByteArray.size).sum
theorem linesB_sum (s : ByteArray) : sizes (linesB s) ≤ s.size := by
  unfold sizes linesB
  rw [List.map_map]
  have h := linesL_sum _ s.data.toList (Nat.le_refl _)
  have e : (linesL s.data.toList).map (ByteArray.size ∘ strOf) = (linesL s.data.toList).map List.length := List.map_congr_left fun x _ => strOf_size x
  rw [e]
  have e2 : s.data.toList.length = s.size := by simp
  omega
theorem step_grow {fr : Int} {out : List (List CellD)} {sz : Int} {line : ByteArray} {p : List (List CellD) × Int} (h : recStep fr out sz line = some p) : out <+: p.1 ∧ p.2 = sz + line.size ∧ p.1.length ≤ out.length + 1 := by
  unfold recStep at h
  split at h
  · cases h
  · split at h
    · injection h with h
      subst h
      exact ⟨List.prefix_refl _, rfl, by simp⟩
    · split at h
      · injection h with h
        subst h
        exact ⟨List.prefix_append _ _, rfl, by simp⟩
      · cases h
theorem recs_grow (fr : Int) : ∀ (ls : List ByteArray) (out : List (List CellD)) (sz : Int), out <+: (recs fr ls out sz).1
  | [], out, sz => List.prefix_refl _
  | l :: ls, out, sz => by
    unfold recs
    cases h : recStep fr out sz l with
    | none => exact List.prefix_refl _
    | some p => exact (step_grow h).1.trans (recs_grow fr ls p.1 p.2)
theorem recs_prefix (fr : Int) (ms : List ByteArray) : ∀ (ls : List ByteArray) (out : List (List CellD)) (sz : Int), (recs fr ls out sz).1 <+: (recs fr (ls ++ ms) out sz).1
  | [], out, sz => recs_grow fr ms out sz
  | l :: ls, out, sz => by
    rw [List.cons_append]
    unfold recs
    cases h : recStep fr out sz l with
    | none => exact List.prefix_refl _
    | some p => exact recs_prefix fr ms ls p.1 p.2
theorem recs_size (fr : Int) : ∀ (ls : List ByteArray) (out : List (List CellD)) (sz : Int), (recs fr ls out sz).2 ≤ sz + sizes ls ∧ sz ≤ (recs fr ls out sz).2 ∧ (recs fr ls out sz).1.length ≤ out.length + ls.length
  | [], out, sz => by simp [recs, sizes]
  | l :: ls, out, sz => by
    unfold recs
    cases h : recStep fr out sz l with
    | none =>
      simp only [sizes, List.map_cons, List.sum_cons, List.length_cons]
      omega
    | some p =>
      obtain ⟨_, h2, h3⟩ := step_grow h
      have := recs_size fr ls p.1 p.2
      simp only [sizes, List.map_cons, List.sum_cons, List.length_cons] at this ⊢
      omega
/-- OF A JOURNAL THAT IS CUT THE RECORDS ARE THE FIRST OF THOSE THAT THERE WERE. -/
theorem cut_records (t : ByteArray) (fr : Int) {n : Nat} (hn : n ≤ t.size) : (recsI (t.extract 0 n) fr).1 <+: (recsI t fr).1 ∧ (recsI (t.extract 0 n) fr).2 ≤ n := by
  unfold recsI
  split
  · obtain ⟨ms, h⟩ := linesB_take t n
    refine ⟨?_, ?_⟩
    · rw [← h]
      exact recs_prefix fr ms _ _ _
    · have h1 := (recs_size fr (linesB (t.extract 0 n)) [] 0).1
      have h2 := linesB_sum (t.extract 0 n)
      have h3 : (t.extract 0 n).size ≤ n := by rw [ByteArray.size_extract]; omega
      omega
  · exact ⟨List.prefix_refl _, by simp⟩
/-- a text that is one record -/
theorem recs_one {cs : List CellD} {t : ByteArray} (h : recText 1 cs = t) (ht : t.size ≠ 0) : recsI t 1 = ([cs], (t.size : Int)) := by
  obtain ⟨m, hm, hm2⟩ := rec_bytes h ht
  have hl : linesB t = [t] := by
    unfold linesB
    rw [hm, linesL_app [] hm2, show linesL [] = [] from rfl]
    show [strOf (m ++ [10])] = [t]
    rw [← hm, strOf_data]
  rw [recsI_in (by decide), hl]
  unfold recs
  rw [step_add (whole_yes h ht) (by decide)]
  simp [recs]
theorem rec1_nil : (recText 1 []).size ≠ 0 := by
  have hi : inB 1 1 100000 = true := by decide
  have hb := bsum_small (Lib.itoa 1)
  have h2 := itoa_len6 hb.1 hb.2
  have h1 := itoa_len6 (n := 1) (by decide) (by decide)
  rw [recText_some hi (l := Lib.itoa 1) rfl, if_pos (by unfold recEnd; simp only [List.length_append, List.length_cons, List.length_nil]; omega), strOf_size]
  unfold recEnd
  simp
end Go.Proofs.YtedgenmbdjadkaaGreatDoor
