/- Texts split at a byte: Go's splitting in plain words. No program in sight. -/
import Derived.Test.YtedgenmbdjadkaaGreatDoorBase
import Derived.Lib.Split
import Derived.Lib.CountLaws
import Derived.Lib.SplitLaws
set_option linter.unusedVariables false
set_option linter.unusedSimpArgs false
namespace Go.Proofs.YtedgenmbdjadkaaGreatDoor
open Go.Lib

/-- the pieces between the bytes c: one at least -/
def splitL (c : UInt8) : List UInt8 → List (List UInt8)
  | [] => [[]]
  | b :: l => if b = c then [] :: splitL c l else match splitL c l with
    | [] => [[b]]
    | x :: xs => (b :: x) :: xs
theorem splitL_ne (c : UInt8) : ∀ l, splitL c l ≠ []
  | [] => by simp [splitL]
  | b :: l => by
    unfold splitL
    split
    · simp
    · split <;> simp
theorem splitL_none (c : UInt8) : ∀ l : List UInt8, c ∉ l → splitL c l = [l]
  | [], _ => rfl
  | b :: l, h => by
    have hb : b ≠ c := fun e => h (by rw [e]; simp)
    have hl : c ∉ l := fun e => h (List.mem_cons_of_mem _ e)
    unfold splitL
    rw [if_neg hb, splitL_none c l hl]
theorem splitL_app (c : UInt8) : ∀ (a l : List UInt8), c ∉ a → splitL c (a ++ c :: l) = a :: splitL c l
  | [], l, _ => by
    show splitL c (c :: l) = _
    conv => lhs; unfold splitL
    rw [if_pos rfl]
  | b :: a, l, h => by
    have hb : b ≠ c := fun e => h (by rw [e]; simp)
    have ha : c ∉ a := fun e => h (List.mem_cons_of_mem _ e)
    show splitL c (b :: (a ++ c :: l)) = _
    conv => lhs; unfold splitL
    rw [if_neg hb, splitL_app c a l ha]
theorem index_cons (c b : UInt8) (l : List UInt8) : index (b :: l) [c] = if b = c then 0 else if index l [c] = -1 then -1 else index l [c] + 1 := by
  have e : index (b :: l) [c] = if [c].isPrefixOf (b :: l) then 0 else if index l [c] == -1 then -1 else index l [c] + 1 := rfl
  rw [e]
  by_cases h : b = c
  · subst h
    rw [if_pos (by simp [List.isPrefixOf]), if_pos rfl]
  · rw [if_neg (by simp [List.isPrefixOf]; exact fun e => h e.symm), if_neg h]
    by_cases h2 : index l [c] = -1
    · rw [if_pos (by rw [h2]; rfl), if_pos h2]
    · rw [if_neg (by simpa using h2), if_neg h2]
theorem index_miss_iff (c : UInt8) : ∀ l : List UInt8, index l [c] = -1 ↔ c ∉ l
  | [] => by simp [index]
  | b :: l => by
    rw [index_cons]
    have ih := index_miss_iff c l
    have hg := index_ge l [c]
    by_cases h : b = c
    · rw [if_pos h]
      simp [h]
    · rw [if_neg h]
      by_cases h2 : index l [c] = -1
      · rw [if_pos h2]
        have := ih.1 h2
        simp only [true_iff]
        intro hm
        rcases List.mem_cons.1 hm with e | e
        · exact h e.symm
        · exact this e
      · rw [if_neg h2]
        refine ⟨fun e => by omega, fun hm => absurd (ih.2 fun hh => hm (List.mem_cons_of_mem _ hh)) h2⟩
theorem index_at (c : UInt8) : ∀ (l : List UInt8) (i : Nat), index l [c] = i → l = l.take i ++ c :: l.drop (i + 1) ∧ c ∉ l.take i
  | [], i, h => by simp [index] at h
  | b :: l, i, h => by
    rw [index_cons] at h
    by_cases hb : b = c
    · rw [if_pos hb] at h
      have : i = 0 := by omega
      subst this
      subst hb
      exact ⟨by simp, by simp⟩
    · rw [if_neg hb] at h
      by_cases h2 : index l [c] = -1
      · rw [if_pos h2] at h; omega
      · rw [if_neg h2] at h
        have hg := index_ge l [c]
        obtain ⟨j, hj⟩ : ∃ j : Nat, i = j + 1 := ⟨i - 1, by omega⟩
        subst hj
        obtain ⟨e1, e2⟩ := index_at c l j (by omega)
        refine ⟨?_, ?_⟩
        · show b :: l = b :: (l.take j ++ c :: l.drop (j + 1))
          rw [← e1]
        · intro hm
          rcases List.mem_cons.1 hm with e | e
          · exact hb e.symm
          · exact e2 e
theorem splitK_eq (c : UInt8) : ∀ (k : Nat) (l : List UInt8), count l [c] = k → splitK [c] 0 k l = splitL c l
  | k, l, hk => by
    by_cases hm : index l [c] = -1
    · have h0 := count_miss hm
      rw [hk] at h0
      subst h0
      rw [splitL_none c l ((index_miss_iff c l).1 hm)]
      rfl
    · have hg := index_ge l [c]
      obtain ⟨i, hi⟩ : ∃ i : Nat, index l [c] = i := ⟨(index l [c]).toNat, by omega⟩
      have hc := count_hit (by simp) hi
      obtain ⟨e1, e2⟩ := index_at c l i hi
      cases k with
      | zero => omega
      | succ k =>
        have ih := splitK_eq c k (l.drop (i + 1)) (by simp only [List.length_singleton] at hc; omega)
        conv => lhs; unfold splitK
        rw [if_neg (by simpa using hm), hi]
        simp only [Int.toNat_natCast, List.length_singleton, Nat.add_zero]
        rw [ih]
        conv => rhs; rw [e1]
        rw [splitL_app c _ _ e2]
theorem splitB_eq (c : UInt8) (s : ByteArray) : (splitB ⟨#[c]⟩ 0 (countB s ⟨#[c]⟩) s).map (·.data.toList) = splitL c s.data.toList := by
  rw [splitB_data]
  exact splitK_eq c _ _ rfl
theorem _root_.Go.Lib.cut_eq (c : UInt8) (l : List UInt8) : cut l [c] = if c ∈ l then (l.take (index l [c]).toNat, l.drop ((index l [c]).toNat + 1), true) else (l, [], false) := by
  unfold cut
  have hg := index_ge l [c]
  by_cases h : c ∈ l
  · have : index l [c] ≠ -1 := fun e => (index_miss_iff c l).1 e h
    rw [if_pos (by omega), if_pos h]
    rfl
  · rw [if_neg (by rw [(index_miss_iff c l).2 h]; omega), if_neg h]
theorem _root_.Go.Lib.cut_app (c : UInt8) (a l : List UInt8) (h : c ∉ a) : cut (a ++ c :: l) [c] = (a, l, true) := by
  have hi : index (a ++ c :: l) [c] = a.length := by
    induction a with
    | nil => show index (c :: l) [c] = 0; rw [index_cons, if_pos rfl]
    | cons b a ih =>
      have hb : b ≠ c := fun e => h (by rw [e]; simp)
      have := ih fun e => h (List.mem_cons_of_mem _ e)
      show index (b :: (a ++ c :: l)) [c] = _
      rw [index_cons, if_neg hb, this, if_neg (by omega)]
      simp
  rw [cut_eq, if_pos (by simp), hi]
  simp
end Go.Proofs.YtedgenmbdjadkaaGreatDoor
