/- The keys at which two stores differ: the program's and the reference's: the program's and the reference's. Each condition stands in its theorem. -/
import Derived.Test.YtmhopglbgaijiaaVals
import Derived.Test.YtmhopglbgaijiaaPut
import Derived.Sort.KeysCollected
import Derived.Sort.Walk0
set_option linter.unusedVariables false
set_option linter.unusedSimpArgs false
namespace Go.Proofs.Ytmhopglbgaijiaa
open Go.ChangeShapes Go.WideShapes Go.ChangeAt Go.RowKit

/-- the order of strings -/
def ltP (a b : ByteArray) : Prop := a.data.toList < b.data.toList
theorem ltS_iff (a b : ByteArray) : ltS a b = true ↔ ltP a b := by
  unfold ltS ltP
  rw [bytesLess_eq, bl, bl]
  exact decide_eq_true_iff
theorem ltP_irr (a : ByteArray) : ¬ ltP a a := List.lt_irrefl _
theorem ltP_trans {a b c : ByteArray} (h : ltP a b) (h' : ltP b c) : ltP a c := List.lt_trans h h'
theorem lt_or_eq (x y : List UInt8) (h : x ≤ y) : x < y ∨ x = y := by
  by_cases hl : x < y
  · exact .inl hl
  · exact .inr (List.le_antisymm h (List.not_lt.1 hl))
theorem ltP_tri {a b : ByteArray} (h : ¬ ltP a b) (hne : a ≠ b) : ltP b a := by
  unfold ltP at *
  rcases lt_or_eq _ _ (List.not_lt.1 h) with h | h
  · exact h
  · exact absurd (ByteArray.ext (Array.toList_inj.1 h)).symm hne
theorem uniqS : ∀ {xs ys : List ByteArray}, xs.Pairwise ltP → ys.Pairwise ltP → (∀ x, x ∈ xs ↔ x ∈ ys) → xs = ys
  | [], [], _, _, _ => rfl
  | [], y :: ys, _, _, h => absurd ((h y).2 (by simp)) (by simp)
  | x :: xs, [], _, _, h => absurd ((h x).1 (by simp)) (by simp)
  | x :: xs, y :: ys, h1, h2, h => by
    rw [List.pairwise_cons] at h1 h2
    have e : x = y := by
      rcases List.mem_cons.1 ((h x).1 (by simp)) with e | hx
      · exact e
      · rcases List.mem_cons.1 ((h y).2 (by simp)) with e | hy
        · exact e.symm
        · exact absurd (ltP_trans (h1.1 _ hy) (h2.1 _ hx)) (ltP_irr _)
    subst e
    congr 1
    refine uniqS h1.2 h2.2 fun z => ?_
    constructor
    · intro hz
      rcases List.mem_cons.1 ((h z).1 (by simp [hz])) with e | h'
      · subst e; exact absurd (h1.1 _ hz) (ltP_irr _)
      · exact h'
    · intro hz
      rcases List.mem_cons.1 ((h z).2 (by simp [hz])) with e | h'
      · subst e; exact absurd (h2.1 _ hz) (ltP_irr _)
      · exact h'
theorem takeWhile_all {α : Type} (p : α → Bool) : ∀ (l : List α), ∀ t ∈ l.takeWhile p, p t = true
  | [] => by simp
  | a :: l => by
    intro t ht
    rw [List.takeWhile_cons] at ht
    split at ht
    · rename_i ha
      rcases List.mem_cons.1 ht with e | h
      · rw [e]; exact ha
      · exact takeWhile_all p l t h
    · simp at ht
theorem dropWhile_head {α : Type} (p : α → Bool) : ∀ (l : List α) (d : α), (l.dropWhile p).head? = some d → p d = false
  | [] => by simp
  | a :: l => by
    intro d hd
    rw [List.dropWhile_cons] at hd
    split at hd
    · exact dropWhile_head p l d hd
    · rename_i ha
      simp only [List.head?_cons, Option.some.injEq] at hd
      subst hd
      simpa using ha
theorem putS_form (xs : List ByteArray) (y : ByteArray) : ∃ A D, xs = A ++ D ∧ (∀ t ∈ A, ltS t y = true) ∧ (∀ d, D.head? = some d → ltS d y = false) ∧ putS xs y = if D.head? = some y then xs else A ++ y :: D := by
  refine ⟨xs.takeWhile (ltS · y), xs.dropWhile (ltS · y), List.takeWhile_append_dropWhile.symm, takeWhile_all _ xs, dropWhile_head _ xs, ?_⟩
  have e : xs = xs.takeWhile (ltS · y) ++ xs.dropWhile (ltS · y) := List.takeWhile_append_dropWhile.symm
  have e1 : xs.take (putAt xs y) = xs.takeWhile (ltS · y) := by
    unfold putAt
    conv => lhs; rw [e]
    rw [List.take_left' (by rw [← e])]
  have e2 : xs.drop (putAt xs y) = xs.dropWhile (ltS · y) := by
    unfold putAt
    conv => lhs; rw [e]
    rw [List.drop_left' (by rw [← e])]
  have e3 : xs[putAt xs y]? = (xs.dropWhile (ltS · y)).head? := by rw [← e2, List.head?_drop]
  unfold putS
  rw [e1, e2, e3]
theorem mem_putS (xs : List ByteArray) (y x : ByteArray) : x ∈ putS xs y ↔ x ∈ xs ∨ x = y := by
  obtain ⟨A, D, e, _, _, hp⟩ := putS_form xs y
  rw [hp]
  split
  · rename_i h
    constructor
    · exact Or.inl
    · rintro (h' | rfl)
      · exact h'
      · rw [e]; exact List.mem_append_right _ (List.mem_of_head? h)
  · rw [e]
    simp only [List.mem_append, List.mem_cons]
    constructor
    · rintro (h | h | h)
      · exact .inl (.inl h)
      · exact .inr h
      · exact .inl (.inr h)
    · rintro ((h | h) | h)
      · exact .inl h
      · exact .inr (.inr h)
      · exact .inr (.inl h)
theorem putS_rise (xs : List ByteArray) (y : ByteArray) (h : xs.Pairwise ltP) : (putS xs y).Pairwise ltP := by
  obtain ⟨A, D, e, hA, hD, hp⟩ := putS_form xs y
  rw [hp]
  split
  · exact h
  · rename_i hne
    rw [e, List.pairwise_append] at h
    obtain ⟨h1, h2, h3⟩ := h
    refine List.pairwise_append.2 ⟨h1, List.pairwise_cons.2 ⟨?_, h2⟩, ?_⟩
    · cases D with
      | nil => simp
      | cons d D =>
        have hd : ltP y d := ltP_tri (fun hh => by have := hD d rfl; rw [(ltS_iff d y).2 hh] at this; cases this) (fun e => hne (by rw [e]; rfl))
        intro z hz
        rcases List.mem_cons.1 hz with rfl | hz
        · exact hd
        · exact ltP_trans hd ((List.pairwise_cons.1 h2).1 _ hz)
    · intro t ht z hz
      rcases List.mem_cons.1 hz with rfl | hz
      · exact (ltS_iff _ _).1 (hA t ht)
      · exact h3 t ht z hz
theorem putS_len (xs : List ByteArray) (y : ByteArray) : (putS xs y).length ≤ xs.length + 1 := by
  obtain ⟨A, D, e, _, _, hp⟩ := putS_form xs y
  rw [hp]
  split
  · omega
  · rw [e]; simp; omega
def diffStep (a b : List CellD) (acc : List ByteArray) (c : CellD) : List ByteArray := if getC c.key a = getC c.key b then acc else putS acc c.key
/-- the keys at which two stores differ, rising -/
def diffC (a b : List CellD) : List ByteArray := (a ++ b).foldl (diffStep a b) []
theorem foldl_snoc {α β : Type} (f : β → α → β) (acc : β) (xs : List α) (x : α) : (xs ++ [x]).foldl f acc = f (xs.foldl f acc) x := by rw [List.foldl_append]; rfl
theorem diffStep_rise (a b : List CellD) (acc : List ByteArray) (c : CellD) (h : acc.Pairwise ltP) : (diffStep a b acc c).Pairwise ltP := by
  unfold diffStep
  split
  · exact h
  · exact putS_rise _ _ h
theorem diffF_rise (a b : List CellD) : ∀ (zs : List CellD) (acc : List ByteArray), acc.Pairwise ltP → (zs.foldl (diffStep a b) acc).Pairwise ltP
  | [], _, h => h
  | c :: zs, acc, h => diffF_rise a b zs _ (diffStep_rise a b acc c h)
theorem diffF_mem (a b : List CellD) (x : ByteArray) : ∀ (zs : List CellD) (acc : List ByteArray), x ∈ zs.foldl (diffStep a b) acc ↔ x ∈ acc ∨ ((∃ c ∈ zs, c.key = x) ∧ getC x a ≠ getC x b)
  | [], acc => by simp
  | c :: zs, acc => by
    rw [List.foldl_cons, diffF_mem a b x zs]
    unfold diffStep
    by_cases hc : getC c.key a = getC c.key b
    · rw [if_pos hc]
      constructor
      · rintro (h | ⟨⟨d, hd, hk⟩, hne⟩)
        · exact .inl h
        · exact .inr ⟨⟨d, List.mem_cons_of_mem _ hd, hk⟩, hne⟩
      · rintro (h | ⟨⟨d, hd, hk⟩, hne⟩)
        · exact .inl h
        · rcases List.mem_cons.1 hd with rfl | hd
          · rw [hk] at hc; exact absurd hc hne
          · exact .inr ⟨⟨d, hd, hk⟩, hne⟩
    · rw [if_neg hc, mem_putS]
      constructor
      · rintro ((h | rfl) | ⟨⟨d, hd, hk⟩, hne⟩)
        · exact .inl h
        · exact .inr ⟨⟨c, List.mem_cons_self, rfl⟩, hc⟩
        · exact .inr ⟨⟨d, List.mem_cons_of_mem _ hd, hk⟩, hne⟩
      · rintro (h | ⟨⟨d, hd, hk⟩, hne⟩)
        · exact .inl (.inl h)
        · rcases List.mem_cons.1 hd with rfl | hd
          · exact .inl (.inr hk.symm)
          · exact .inr ⟨⟨d, hd, hk⟩, hne⟩
theorem diffF_len (a b : List CellD) : ∀ (zs : List CellD) (acc : List ByteArray), (zs.foldl (diffStep a b) acc).length ≤ acc.length + zs.length
  | [], _ => Nat.le_refl _
  | c :: zs, acc => by
    have h := diffF_len a b zs (diffStep a b acc c)
    have h2 : (diffStep a b acc c).length ≤ acc.length + 1 := by
      unfold diffStep
      split
      · omega
      · exact putS_len _ _
    rw [List.foldl_cons, List.length_cons]
    omega
theorem getC_ne_key {a b : List CellD} {x : ByteArray} (h : getC x a ≠ getC x b) : ∃ c ∈ a ++ b, c.key = x := by
  apply Classical.byContradiction
  intro hn
  have ha : ∀ zs : List CellD, (∀ c ∈ zs, c ∈ a ++ b) → zs.any (isKey x) = false := by
    intro zs hz
    rw [List.any_eq_false]
    intro c hc hk
    exact hn ⟨c, hz c hc, isKey_iff.1 hk⟩
  exact h (by rw [getC_none x a (ha a (fun c hc => List.mem_append_left _ hc)), getC_none x b (ha b (fun c hc => List.mem_append_right _ hc))])
theorem diffC_rise (a b : List CellD) : (diffC a b).Pairwise ltP := diffF_rise a b _ [] List.Pairwise.nil
theorem diffC_mem (a b : List CellD) (x : ByteArray) : x ∈ diffC a b ↔ getC x a ≠ getC x b := by
  unfold diffC
  rw [diffF_mem]
  constructor
  · rintro (h | h)
    · simp at h
    · exact h.2
  · exact fun h => .inr ⟨getC_ne_key h, h⟩
theorem diffC_len (a b : List CellD) : (diffC a b).length ≤ a.length + b.length := by
  have := diffF_len a b (a ++ b) []
  rw [List.length_append] at this
  simpa [diffC] using this
theorem diffC_ok (a b : List CellD) (ha : ∀ c ∈ a, c.ok) (hb : ∀ c ∈ b, c.ok) : ∀ x ∈ diffC a b, x.size ≤ maxLen := by
  intro x hx
  obtain ⟨c, hc, rfl⟩ := getC_ne_key ((diffC_mem a b x).1 hx)
  rcases List.mem_append.1 hc with h | h
  · exact (ha c h).1
  · exact (hb c h).1
theorem encStr_row (x : List UInt8) : [encStr x] = rStr.row ⟨x.toArray⟩ := rfl
theorem sorted_diff (a b : List CellD) (ss : List (List UInt8)) (hnd : ss.Nodup) (hm : ∀ x : ByteArray, x.data.toList ∈ ss ↔ getC x a ≠ getC x b) :
    (ss.mergeSort (fun x y => decide (x ≤ y))).map encStr = (diffC a b).flatMap rStr.row ∧ ss.length = (diffC a b).length := by
  have tr : ∀ a b c : List UInt8, decide (a ≤ b) = true → decide (b ≤ c) = true → decide (a ≤ c) = true := fun a b c h1 h2 => by simp only [decide_eq_true_eq] at *; exact List.le_trans h1 h2
  have to : ∀ a b : List UInt8, (decide (a ≤ b) || decide (b ≤ a)) = true := fun a b => by simp only [Bool.or_eq_true, decide_eq_true_eq]; exact List.le_total a b
  have hp := List.mergeSort_perm ss (fun x y => decide (x ≤ y))
  have hs := List.pairwise_mergeSort tr to ss
  have hnd2 := hp.symm.nodup hnd
  generalize hM : ss.mergeSort (fun x y => decide (x ≤ y)) = M at hp hs hnd2
  have e : M.map (fun x => (⟨x.toArray⟩ : ByteArray)) = diffC a b := by
    refine uniqS ?_ (diffC_rise a b) ?_
    · rw [List.pairwise_map]
      refine (List.Pairwise.and hs hnd2).imp ?_
      rintro x y ⟨h1, h2⟩
      simp only [decide_eq_true_eq] at h1
      show x < y
      rcases lt_or_eq _ _ h1 with h | h
      · exact h
      · exact absurd h h2
    · intro x
      rw [diffC_mem, ← hm x, ← hp.mem_iff, List.mem_map]
      constructor
      · rintro ⟨y, hy, rfl⟩
        exact hy
      · exact fun h => ⟨_, h, rfl⟩
  refine ⟨?_, ?_⟩
  · rw [← e, List.flatMap_map]
    clear hM hp hs hnd2 e
    induction M with
    | nil => rfl
    | cons x M ih => rw [List.map_cons, List.flatMap_cons, ih]; rfl
  · rw [← e, List.length_map, hp.length_eq]
end Go.Proofs.Ytmhopglbgaijiaa
