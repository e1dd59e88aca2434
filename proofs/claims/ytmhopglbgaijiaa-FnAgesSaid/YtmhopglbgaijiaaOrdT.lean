/- A region whose order is open, whose tail waits for the rest by a chain of edges. No condition but the stated ones. -/
import Derived.Test.YtmhopglbgaijiaaOrd
namespace Go
theorem Sx.refl (w : World) : Sx w w := ⟨⟨#[], w.drawn⟩, (World.ext_nil _ _ rfl).symm⟩
section
variable {P : Program} {ops : Array Oper} {Q : Exit → Act → World → Prop} {S : World → Prop} {n : Nat}

/-- j waits for i, in some steps -/
def reaches (ops : Array Oper) : Nat → Nat → Nat → Bool
  | 0, _, _ => false
  | f + 1, j, i => match ops[j]? with
    | none => false
    | some o => o.after.any fun e => Region.binds .any e && (e.on == i || reaches ops f e.on i)
def tailReach (ops : Array Oper) (n i : Nat) : Bool := (List.range ops.size).all fun j => decide (j < n) || reaches ops ops.size j i
/-- what is listed has its grounds listed -/
def Closed (ops : Array Oper) (listed : Array Bool) : Prop := ∀ k o, ops[k]? = some o → listed.getD k false = true → ∀ e ∈ o.after, Region.binds .any e = true → listed.getD e.on false = true
theorem reach_listed {listed : Array Bool} (hc : Closed ops listed) {i : Nat} : ∀ (f j : Nat) (o : Oper), ops[j]? = some o → (∀ e ∈ o.after, Region.binds .any e = true → listed.getD e.on false = true) → reaches ops f j i = true → listed.getD i false = true
  | 0, _, _, _, _, h => by simp [reaches] at h
  | f + 1, j, o, ho, hd, h => by
    simp only [reaches, ho] at h
    obtain ⟨e, he, hb⟩ := Array.any_eq_true'.1 h
    simp only [Bool.and_eq_true, Bool.or_eq_true, beq_iff_eq] at hb
    obtain ⟨hb1, hb2⟩ := hb
    have hl := hd e he hb1
    rcases hb2 with hb2 | hb2
    · rw [← hb2]; exact hl
    · cases ho2 : ops[e.on]? with
      | none =>
        cases f with
        | zero => simp [reaches] at hb2
        | succ f => simp [reaches, ho2] at hb2
      | some o2 => exact reach_listed hc f e.on o2 ho2 (hc e.on o2 ho2 hl) hb2
theorem closed_set {listed : Array Bool} (hc : Closed ops listed) {i : Nat} (hr : i ∈ Region.ready .any ops listed) : Closed ops (listed.setIfInBounds i true) := by
  obtain ⟨_, oi, hoi, hall⟩ := mem_ready.1 hr
  have keep : ∀ k, listed.getD k false = true → (listed.setIfInBounds i true).getD k false = true := fun k hk => getD_set_true hk
  intro k o ho hk e he hb
  by_cases hik : i = k
  · subst hik
    rw [hoi] at ho
    cases ho
    exact keep _ (hall e he hb)
  · rw [getD_set_ne false hik] at hk
    exact keep _ (hc k o ho hk e he hb)
theorem tailReach_spec {i j : Nat} {o : Oper} (h : tailReach ops n i = true) (hj : ops[j]? = some o) (hn : n ≤ j) : reaches ops ops.size j i = true := by
  have hlt : j < ops.size := (Array.getElem?_eq_some_iff.1 hj).1
  have h1 := List.all_eq_true.1 h j (List.mem_range.2 hlt)
  simp only [Bool.or_eq_true, decide_eq_true_eq] at h1
  rcases h1 with h1 | h1
  · omega
  · exact h1
theorem closed_none (ops : Array Oper) (m : Nat) : Closed ops (Array.replicate m false) := by
  intro k o _ h
  simp only [Array.getD_eq_getD_getElem?, Array.getElem?_replicate] at h
  split at h <;> simp at h
theorem wpAnyB_firstT {i : Nat} {oi : Oper} {v : Value} (hi : ops[i]? = some oi) (hs : Region.noSelect ops = true)
    (hQ : ∀ c a w, Q (.panic c) (a.put oi.dst v) w → Q (.panic c) a w) (ht : tailReach ops n i = true) :
    ∀ (fuel : Nat) (listed : Array Bool) (a : Act) (w : World), Closed ops listed →
      (∀ j oj, ops[j]? = some oj → j ≠ i → listed.getD j true = false → (∀ e ∈ oj.after, Region.binds .any e = true → e.on ≠ i) → oi.apart ops oj = true) →
      i ∈ Region.ready .any ops listed → YieldsQ P ops S oi v a → S w →
      wpAnyB P ops Q S n fuel (listed.setIfInBounds i true) (a.put oi.dst v) w → wpAnyB P ops Q S n (fuel + 1) listed a w := by
  have hsel := Region.noSelect_spec hs
  intro fuel
  induction fuel with
  | zero =>
    intro listed a w _ _ hr hy hS H
    refine ⟨fun h => (by rw [h] at hr; cases hr), fun j hj => ?_⟩
    by_cases hji : j = i
    · subst hji; exact hy.wpOp hi hS ⟨fun _ => hS, H⟩
    · have := ready_mono hj hji
      rw [H.1] at this
      cases this
  | succ fuel ih =>
    intro listed a w hcl hfree hr hy hS H
    refine ⟨fun h => (by rw [h] at hr; cases hr), fun j hj => ?_⟩
    by_cases hji : j = i
    · subst hji; exact hy.wpOp hi hS ⟨fun _ => hS, H⟩
    · have h1 := H.2 j (ready_mono hj hji)
      obtain ⟨hjun, oj, hoj, hall⟩ := mem_ready.1 hj
      have hnot : ∀ e ∈ oj.after, Region.binds .any e = true → e.on ≠ i := fun e he hb heq =>
        unlisted_not (mem_ready.1 hr).1 (heq ▸ hall e he hb)
      have hjn : j < n := by
        rcases Nat.lt_or_ge j n with h | h
        · exact h
        · exact (unlisted_not (mem_ready.1 hr).1 (reach_listed hcl _ j oj hoj hall (tailReach_spec ht hoj h))).elim
      have h2 := wpOp_putQ hoj (hfree j oj hoj hji hjun hnot) (fun cs b => hsel i oi cs b hi) (fun cs b => hsel j oj cs b hoj) hQ hy h1
      have hfree' : ∀ k ok, ops[k]? = some ok → k ≠ i → (listed.setIfInBounds j true).getD k true = false →
          (∀ e ∈ ok.after, Region.binds .any e = true → e.on ≠ i) → oi.apart ops ok = true := fun k ok hk hki hun hno => by
        refine hfree k ok hk hki ?_ hno
        by_cases hjk : j = k
        · subst hjk; exact hjun
        · rw [getD_set_ne true hjk] at hun; exact hun
      refine wpOp_mono (fun a' w' h3 => ⟨fun _ => h3.2.1 hjn, ih (listed.setIfInBounds j true) a' w' (closed_set hcl hj) hfree' (ready_mono hr (Ne.symm hji)) h3.1 (h3.2.1 hjn) ?_⟩) h2
      rw [Array.setIfInBounds_comm _ _ hji]
      exact h3.2.2

def ordOkT (ops : Array Oper) (n : Nat) : List (Nat × Bool) → Array Bool → Bool
  | [], listed => (Region.ready .any ops listed).isEmpty
  | (i, true) :: r, listed => decide (i < n) && (Region.ready .any ops listed).contains i && Region.free .any ops listed i && tailReach ops n i && ordOkT ops n r (listed.setIfInBounds i true)
  | (i, false) :: r, listed => (decide (i < n) || r.all fun x => decide (n ≤ x.1)) && (match Region.ready .any ops listed with | [j] => j == i | _ => false) && ordOkT ops n r (listed.setIfInBounds i true)

theorem wpAnyB_of_ordT {ι : Type} {F : ι → World} (hs : Region.noSelect ops = true) (hQ : ∀ c (a : Act) (d : Option Tmp) (v : Value) w, Q (.panic c) (a.put d v) w → Q (.panic c) a w) :
    ∀ (ord : List (Nat × Bool)) (listed : Array Bool) (a : Act) (w : World), Closed ops listed → ordOkT ops n ord listed = true → ((∃ x ∈ ord, x.1 < n) → Sf F w) → wpOrd P ops Q F n ord a w →
      wpAnyB P ops Q (Sf F) n ord.length listed a w
  | [], listed, a, w, _, hok, _, h => by
    simp only [ordOkT, List.isEmpty_iff] at hok
    exact ⟨hok, h⟩
  | (i, true) :: r, listed, a, w, hcl, hok, hS, h => by
    simp only [ordOkT, Bool.and_eq_true, decide_eq_true_eq] at hok
    obtain ⟨⟨⟨⟨hin, hr⟩, hf⟩, ht⟩, hok⟩ := hok
    have hw := hS ⟨(i, true), by simp, hin⟩
    simp only [wpOrd] at h
    cases ho : ops[i]? with
    | none => simp [ho] at h
    | some o =>
      simp only [ho] at h
      have again := fun a' h' => wpAnyB_of_ordT hs hQ r (listed.setIfInBounds i true) a' w (closed_set hcl (by simpa using hr)) hok (fun _ => hw) h'
      by_cases hwt : Region.wanted o (yielded ops a.tmps) = true
      · simp only [hwt, if_true] at h
        obtain ⟨v, hv, hk⟩ := h
        exact wpAnyB_firstT ho hs (fun c a w => hQ c a _ _ w) ht _ listed a w hcl (Region.free_spec ho hf) (by simpa using hr)
          (Or.inl ⟨hwt, fun w' hw' => by obtain ⟨X, rfl⟩ := hw'; exact hv X⟩) hw (again _ hk)
      · have hwt' : Region.wanted o (yielded ops a.tmps) = false := by simpa using hwt
        simp only [hwt', Bool.false_eq_true, if_false] at h
        exact wpAnyB_firstT ho hs (fun c a w => hQ c a _ _ w) ht _ listed a w hcl (Region.free_spec ho hf) (by simpa using hr)
          (Or.inr ⟨hwt', rfl⟩) hw (again _ h)
  | (i, false) :: r, listed, a, w, hcl, hok, hS, h => by
    simp only [ordOkT, Bool.and_eq_true, Bool.or_eq_true, decide_eq_true_eq] at hok
    obtain ⟨⟨hin, hr⟩, hok⟩ := hok
    have hr' : Region.ready .any ops listed = [i] := by
      split at hr
      · rename_i j hj; rw [hj]; simp at hr; rw [hr]
      · cases hr
    refine ⟨fun h0 => (by rw [h0] at hr'; cases hr'), fun j hj => ?_⟩
    rw [hr', List.mem_singleton] at hj
    subst hj
    simp only [wpOrd] at h
    cases ho : ops[j]? with
    | none => simp [ho] at h
    | some o =>
      simp only [ho] at h
      unfold wpOp
      simp only [ho]
      have again := fun (a' : Act) (w' : World) (hw' : (∃ x ∈ r, x.1 < n) → Sf F w') h' => wpAnyB_of_ordT (F := F) hs hQ r (listed.setIfInBounds j true) a' w' (closed_set hcl (by rw [hr']; simp)) hok hw' h'
      have later : (∃ x ∈ r, x.1 < n) → j < n := fun ⟨x, hx, hxn⟩ => by
        rcases hin with h1 | h1
        · exact h1
        · have := List.all_eq_true.1 h1 x hx
          simp only [decide_eq_true_eq] at this
          omega
      by_cases hwt : Region.wanted o (yielded ops a.tmps) = true
      · simp only [hwt, if_true] at h ⊢
        exact Or.inl (Oper.wp_mono (fun a' w' h' => ⟨h'.1, again a' w' (fun hx => h'.1 (later hx)) h'.2⟩) h)
      · have hwt' : Region.wanted o (yielded ops a.tmps) = false := by simpa using hwt
        simp only [hwt', Bool.false_eq_true, if_false] at h ⊢
        exact ⟨fun hj => hS ⟨(j, false), by simp, hj⟩, again _ _ (fun hx => hS ⟨(j, false), by simp, later hx⟩) h⟩

theorem wp_region_ordTF {ι : Type} (F : ι → World) {id : Nat} {l : List Oper} {a : Act} {w : World} (ord : List (Nat × Bool)) (n : Nat) (hm : P.follows .mixedOrders = true)
    (hok : (ordOkT l.toArray n ord (Array.replicate l.toArray.size false) && Region.noSelect l.toArray && ord.length == l.toArray.size) = true)
    (h0 : Sf F w.drew) (h : wpOrd P l.toArray (NoPan Q) F n ord a w.drew) : (Code.region id l.toArray true).wp P Q a w := by
  simp only [Bool.and_eq_true, beq_iff_eq] at hok
  have h1 : (Code.region id l.toArray true).wp P (NoPan Q) a w := by
    refine wp_region_any hm ?_
    rw [← hok.2]
    exact wpAny_of_B _ _ _ _ (wpAnyB_of_ordT hok.1.2 (fun _ _ _ _ _ h => h) ord _ a _ (closed_none _ _) (hok.2 ▸ hok.1.1) (fun _ => h0) h)
  exact Code.wp_mono (fun e a w h => by cases e <;> first | exact h | exact h.elim) h1

theorem wp_region_ordT {id : Nat} {l : List Oper} {a : Act} {w : World} (ord : List (Nat × Bool)) (n : Nat) (hm : P.follows .mixedOrders = true)
    (hok : (ordOkT l.toArray n ord (Array.replicate l.toArray.size false) && Region.noSelect l.toArray && ord.length == l.toArray.size) = true)
    (h : wpOrd P l.toArray (NoPan Q) (fun X => w.ext X) n ord a w.drew) : (Code.region id l.toArray true).wp P Q a w := wp_region_ordTF (fun X => w.ext X) ord n hm hok (Sx.drew w) h

end
end Go
