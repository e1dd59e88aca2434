/- Stores are told by what they hold: the changes from one store to another, applied, give the other. No program in sight. -/
import Derived.Test.YtmhopglbgaijiaaChg
import Derived.Test.YtmhopglbgaijiaaStoreOk
set_option linter.unusedVariables false
set_option linter.unusedSimpArgs false
namespace Go.Proofs.Ytmhopglbgaijiaa
open Go.ChangeShapes Go.WideShapes Go.ChangeAt Go.RowKit

def ltK (a b : CellD) : Prop := ltP a.key b.key
/-- keys rise, no value is empty -/
def Store (s : List CellD) : Prop := s.Pairwise ltK ∧ ∀ c ∈ s, c.val ≠ ⟨#[]⟩
theorem isKeyW (k : ByteArray) (c : CellD) : isKey k c = true ↔ c.key = k := isKey_iff
theorem empty_iff (v : ByteArray) : v.size = 0 ↔ v = ⟨#[]⟩ := by
  constructor
  · intro h
    apply ByteArray.ext
    exact Array.eq_empty_of_size_eq_zero h
  · rintro rfl; rfl
theorem getC_no {k : ByteArray} {s : List CellD} (h : ∀ c ∈ s, c.key ≠ k) : getC k s = ⟨#[]⟩ := by
  refine getC_none k s ?_
  rw [List.any_eq_false]
  intro c hc hk
  exact h c hc ((isKeyW k c).1 hk)
theorem getC_mem {s : List CellD} (h : s.Pairwise ltK) : ∀ c ∈ s, getC c.key s = c.val := by
  induction s with
  | nil => intro c hc; cases hc
  | cons d s ih =>
    intro c hc
    unfold getC
    rcases List.mem_cons.1 hc with rfl | hc
    · rw [List.find?_cons_of_pos ((isKeyW _ _).2 rfl)]
    · have hd := List.rel_of_pairwise_cons h hc
      rw [List.find?_cons_of_neg (by
        intro hk
        unfold ltK at hd
        rw [(isKeyW _ _).1 hk] at hd
        exact ltP_irr _ hd)]
      exact ih (List.Pairwise.of_cons h) c hc
theorem getC_ne {s : List CellD} (h : Store s) (k : ByteArray) : getC k s ≠ ⟨#[]⟩ ↔ k ∈ s.map (·.key) := by
  constructor
  · intro hne
    refine Classical.byContradiction fun hk => hne (getC_no fun c hc e => hk (List.mem_map.2 ⟨c, hc, e⟩))
  · intro hk
    obtain ⟨c, hc, rfl⟩ := List.mem_map.1 hk
    rw [getC_mem h.1 c hc]
    exact h.2 c hc
theorem store_map {s : List CellD} (h : Store s) : s = (s.map (·.key)).map fun k => ⟨k, getC k s⟩ := by
  rw [List.map_map]
  conv => lhs; rw [← List.map_id s]
  refine List.map_congr_left fun c hc => ?_
  show c = ⟨c.key, getC c.key s⟩
  rw [getC_mem h.1 c hc]
theorem store_ext {s t : List CellD} (hs : Store s) (ht : Store t) (h : ∀ k, getC k s = getC k t) : s = t := by
  have hk : s.map (·.key) = t.map (·.key) := by
    refine uniqS (List.pairwise_map.2 hs.1) (List.pairwise_map.2 ht.1) fun k => ?_
    rw [← getC_ne hs, ← getC_ne ht, h k]
  rw [store_map hs, store_map ht, hk]
  exact List.map_congr_left fun k _ => by rw [h k]
theorem lessP (a b : ByteArray) : Op.bytesLess a.toList b.toList = true ↔ ltP a b := ltS_iff a b
theorem without_mem {k : ByteArray} {s : List CellD} {c : CellD} : c ∈ without k s ↔ c ∈ s ∧ c.key ≠ k := by
  unfold without
  rw [List.mem_filter]
  constructor
  · rintro ⟨h1, h2⟩
    exact ⟨h1, fun e => by rw [(isKeyW k c).2 e] at h2; cases h2⟩
  · rintro ⟨h1, h2⟩
    refine ⟨h1, ?_⟩
    cases hk : isKey k c with
    | false => rfl
    | true => exact absurd ((isKeyW k c).1 hk) h2
theorem without_store {k : ByteArray} {s : List CellD} (h : Store s) : Store (without k s) :=
  ⟨List.Pairwise.filter _ h.1, fun c hc => h.2 c (without_mem.1 hc).1⟩
theorem insC_mem {k v : ByteArray} {s : List CellD} {c : CellD} : c ∈ insC k v s ↔ c ∈ s ∨ c = ⟨k, v⟩ := by
  unfold insC
  rw [List.mem_append, List.mem_cons]
  have e := List.takeWhile_append_dropWhile (p := fun c => !gtKey k c) (l := s)
  constructor
  · rintro (h | h | h)
    · exact .inl (by rw [← e]; exact List.mem_append.2 (.inl h))
    · exact .inr h
    · exact .inl (by rw [← e]; exact List.mem_append.2 (.inr h))
  · rintro (h | h)
    · rw [← e, List.mem_append] at h
      rcases h with h | h
      · exact .inl h
      · exact .inr (.inr h)
    · exact .inr (.inl h)
theorem gt_iff (k : ByteArray) (c : CellD) : gtKey k c = true ↔ ltP k c.key := lessP k c.key
theorem drop_gt {k : ByteArray} : ∀ {s : List CellD}, s.Pairwise ltK → ∀ c ∈ s.dropWhile (fun c => !gtKey k c), ltP k c.key
  | [], _, c, hc => by simp at hc
  | d :: s, h, c, hc => by
    rw [List.dropWhile_cons] at hc
    split at hc
    · exact drop_gt (List.Pairwise.of_cons h) c hc
    · rename_i hd
      have hg : gtKey k d = true := by simpa using hd
      rcases List.mem_cons.1 hc with rfl | hc
      · exact (gt_iff _ _).1 hg
      · exact ltP_trans ((gt_iff _ _).1 hg) (List.rel_of_pairwise_cons h hc)
theorem insC_store {k v : ByteArray} {s : List CellD} (h : Store s) (hk : ∀ c ∈ s, c.key ≠ k) (hv : v ≠ ⟨#[]⟩) : Store (insC k v s) := by
  refine ⟨?_, fun c hc => ?_⟩
  · have e := List.takeWhile_append_dropWhile (p := fun c => !gtKey k c) (l := s)
    have hs := h.1
    rw [← e, List.pairwise_append] at hs
    unfold insC
    have ht : ∀ c ∈ s.takeWhile (fun c => !gtKey k c), ltP c.key k := fun c hc => by
      have h1 := takeWhile_all (fun c => !gtKey k c) s c hc
      have hm : c ∈ s := by rw [← e]; exact List.mem_append.2 (.inl hc)
      have hne := hk c hm
      have : ¬ ltP k c.key := fun hh => by rw [(gt_iff k c).2 hh] at h1; cases h1
      exact ltP_tri this (Ne.symm hne)
    rw [List.pairwise_append]
    refine ⟨hs.1, ?_, ?_⟩
    · rw [List.pairwise_cons]
      exact ⟨fun c hc => drop_gt h.1 c hc, hs.2.1⟩
    · intro c hc d hd
      rcases List.mem_cons.1 hd with rfl | hd
      · exact ht c hc
      · exact hs.2.2 c hc d hd
  · rcases insC_mem.1 hc with hc | rfl
    · exact h.2 c hc
    · exact hv
theorem putC_store {k v : ByteArray} {s : List CellD} (h : Store s) : Store (putC k v s) := by
  unfold putC
  split
  · exact h
  · split
    · exact without_store h
    · rename_i h2
      exact insC_store (without_store h) (fun c hc => (without_mem.1 hc).2) (fun e => h2 ((empty_iff v).2 e))
theorem getC_of {s : List CellD} (h : Store s) {c : CellD} (hc : c ∈ s) {k : ByteArray} (hk : c.key = k) : getC k s = c.val := by subst hk; exact getC_mem h.1 c hc
theorem getC_put {k v : ByteArray} {s : List CellD} (h : Store s) (hk : keyOk k = true) (hv : v.size ≤ 60) (x : ByteArray) : getC x (putC k v s) = if x = k then v else getC x s := by
  have hp := putC_store (k := k) (v := v) h
  have e : putC k v s = if v.size = 0 then without k s else insC k v (without k s) := by
    unfold putC
    rw [if_neg (by rintro (h1 | h1); rw [hk] at h1; cases h1; omega)]
  by_cases hx : x = k
  · rw [if_pos hx]
    subst hx
    by_cases h0 : v.size = 0
    · rw [e, if_pos h0, getC_no fun c hc => (without_mem.1 hc).2]
      exact ((empty_iff v).1 h0).symm
    · exact getC_of hp (c := ⟨x, v⟩) (by rw [e, if_neg h0]; exact insC_mem.2 (.inr rfl)) rfl
  · rw [if_neg hx]
    have hm : ∀ c : CellD, c.key = x → (c ∈ putC k v s ↔ c ∈ s) := fun c hcx => by
      rw [e]
      split
      · rw [without_mem]
        exact ⟨fun h => h.1, fun h => ⟨h, by rw [hcx]; exact hx⟩⟩
      · rw [insC_mem, without_mem]
        refine ⟨?_, fun h => .inl ⟨h, by rw [hcx]; exact hx⟩⟩
        rintro (h | rfl)
        · exact h.1
        · exact absurd hcx.symm hx
    by_cases hex : ∃ c ∈ s, c.key = x
    · obtain ⟨c, hc, hcx⟩ := hex
      rw [getC_of hp ((hm c hcx).2 hc) hcx, getC_of h hc hcx]
    · rw [getC_no (s := s) fun c hc hcx => hex ⟨c, hc, hcx⟩, getC_no fun c hc hcx => hex ⟨c, (hm c hcx).1 hc, hcx⟩]
theorem applyC_store (f : ByteArray → ByteArray) : ∀ (ys s : List CellD), Store s → (∀ y ∈ ys, keyOk y.key = true ∧ y.val.size ≤ 60 ∧ y.val = f y.key) →
    Store (applyC s ys) ∧ ∀ x, (x ∈ ys.map (·.key) → getC x (applyC s ys) = f x) ∧ (x ∉ ys.map (·.key) → getC x (applyC s ys) = getC x s)
  | [], s, h, _ => ⟨h, fun x => ⟨fun hx => by simp at hx, fun _ => rfl⟩⟩
  | y :: ys, s, h, hy => by
    obtain ⟨h1, h2, h3⟩ := hy y (by simp)
    have ih := applyC_store f ys (putC y.key y.val s) (putC_store h) (fun z hz => hy z (by simp [hz]))
    have e : applyC s (y :: ys) = applyC (putC y.key y.val s) ys := rfl
    rw [e]
    refine ⟨ih.1, fun x => ?_⟩
    obtain ⟨i1, i2⟩ := ih.2 x
    by_cases hx : x ∈ ys.map (·.key)
    · exact ⟨fun _ => i1 hx, fun hn => absurd (by rw [List.map_cons]; exact List.mem_cons_of_mem _ hx) hn⟩
    · rw [i2 hx, getC_put h h1 h2]
      by_cases hxy : x = y.key
      · rw [if_pos hxy]
        exact ⟨fun _ => by rw [h3, hxy], fun hn => absurd (by rw [List.map_cons, hxy]; exact List.mem_cons_self) hn⟩
      · rw [if_neg hxy]
        refine ⟨fun hn => ?_, fun _ => rfl⟩
        rw [List.map_cons, List.mem_cons] at hn
        rcases hn with hh | hh
        · exact absurd hh hxy
        · exact absurd hh hx
def Good (c : CellD) : Prop := keyOk c.key = true ∧ 1 ≤ c.val.size ∧ c.val.size ≤ 60
theorem okUp_good (ds : List CellD) : ∀ n, n ≤ ds.length → okUp ds n = true → (ds.take n).Pairwise ltK ∧ ∀ c ∈ ds.take n, Good c
  | 0, _, _ => ⟨by simp, by simp⟩
  | n + 1, hn, h => by
    have hk : n < ds.length := by omega
    rw [okUp_succ, Bool.and_eq_true, stepOk_at ds n hk, Bool.and_eq_true, Bool.and_eq_true] at h
    obtain ⟨h0, h1, h2, h3⟩ := h
    obtain ⟨p, g⟩ := okUp_good ds n (by omega) h0
    rw [List.take_succ_eq_append_getElem hk]
    have hg : Good ds[n] := ⟨h1, by unfold inB at h2; simp at h2; omega, by unfold inB at h2; simp at h2; omega⟩
    refine ⟨?_, fun c hc => ?_⟩
    · rw [List.pairwise_append]
      refine ⟨p, by simp, fun c hc d hd => ?_⟩
      rw [List.mem_singleton.1 hd]
      cases n with
      | zero => simp at hc
      | succ m =>
        have hm : m < ds.length := by omega
        rw [prevLess_at ds m _ hm] at h3
        have hl : ltP ds[m].key ds[m + 1].key := (lessP _ _).1 h3
        rw [List.take_succ_eq_append_getElem hm] at p hc
        rw [List.pairwise_append] at p
        rcases List.mem_append.1 hc with hc | hc
        · exact ltP_trans (p.2.2 c hc ds[m] (by simp)) hl
        · rw [List.mem_singleton.1 hc]; exact hl
    · rcases List.mem_append.1 hc with hc | hc
      · exact g c hc
      · rw [List.mem_singleton.1 hc]; exact hg
theorem store_of_ok {ds : List CellD} (h : storeOk ds = true) : Store ds ∧ ∀ c ∈ ds, Good c := by
  unfold storeOk at h
  rw [Bool.and_eq_true] at h
  have := okUp_good ds ds.length (Nat.le_refl _) h.1
  rw [List.take_length] at this
  refine ⟨⟨this.1, fun c hc e => ?_⟩, this.2⟩
  have hg := (this.2 c hc).2.1
  rw [e] at hg
  exact absurd hg (by decide)
theorem getC_small {s : List CellD} (h : Store s) (hg : ∀ c ∈ s, Good c) (k : ByteArray) : (getC k s).size ≤ 60 := by
  by_cases hex : ∃ c ∈ s, c.key = k
  · obtain ⟨c, hc, hk⟩ := hex
    rw [getC_of h hc hk]
    exact (hg c hc).2.2
  · rw [getC_no fun c hc hk => hex ⟨c, hc, hk⟩]
    decide
theorem apply_chg {a b : List CellD} (ha : storeOk a = true) (hb : storeOk b = true) : applyC a (chgC a b) = b := by
  obtain ⟨sa, ga⟩ := store_of_ok ha
  obtain ⟨sb, gb⟩ := store_of_ok hb
  obtain ⟨h1, h2⟩ := applyC_store (fun k => getC k b) (chgC a b) a sa (fun y hy => by
    unfold chgC at hy
    obtain ⟨k, hk, rfl⟩ := List.mem_map.1 hy
    refine ⟨?_, getC_small sb gb k, rfl⟩
    obtain ⟨c, hc, hck⟩ := getC_ne_key ((diffC_mem a b k).1 hk)
    rw [← hck]
    rcases List.mem_append.1 hc with hc | hc
    · exact (ga c hc).1
    · exact (gb c hc).1)
  refine store_ext h1 sb fun k => ?_
  by_cases hk : k ∈ (chgC a b).map (·.key)
  · exact (h2 k).1 hk
  · rw [(h2 k).2 hk]
    refine Classical.byContradiction fun hne => hk ?_
    unfold chgC
    rw [List.map_map]
    exact List.mem_map.2 ⟨k, (diffC_mem a b k).2 hne, rfl⟩
theorem chg_self (a : List CellD) : (chgC a a).length = 0 := by
  unfold chgC
  rw [List.length_map, List.length_eq_zero_iff]
  refine List.eq_nil_iff_forall_not_mem.2 fun k hk => (diffC_mem a a k).1 hk rfl
theorem chg_ab : (chgC [] [⟨⟨#[97]⟩, ⟨#[98]⟩⟩]).length = 1 := by
  unfold chgC
  rw [List.length_map]
  have e : getC ⟨#[97]⟩ [] ≠ getC ⟨#[97]⟩ [⟨⟨#[97]⟩, ⟨#[98]⟩⟩] := by
    rw [getC_no (by simp), getC_of (c := ⟨⟨#[97]⟩, ⟨#[98]⟩⟩) ⟨by simp, fun c hc => by rw [List.mem_singleton.1 hc]; decide⟩ (by simp) rfl]
    decide
  have : diffC [] [⟨⟨#[97]⟩, ⟨#[98]⟩⟩] = putS [] ⟨#[97]⟩ := by
    show diffStep [] [⟨⟨#[97]⟩, ⟨#[98]⟩⟩] [] ⟨⟨#[97]⟩, ⟨#[98]⟩⟩ = _
    unfold diffStep
    rw [if_neg e]
  rw [this]
  rfl
end Go.Proofs.Ytmhopglbgaijiaa
