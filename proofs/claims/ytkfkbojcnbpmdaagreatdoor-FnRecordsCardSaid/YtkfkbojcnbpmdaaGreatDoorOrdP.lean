/- A region whose order is open, where an operation on slots alone may stand among the tail. No condition but the stated ones. -/
import Derived.Test.YtkfkbojcnbpmdaaGreatDoorOrdT
namespace Go
section
variable {P : Program} {ops : Array Oper} {Q : Exit → Act → World → Prop} {S : World → Prop} {n : Nat}
/-- it works on slots alone -/
def slotOp (o : Oper) : Bool := match o.op with
  | .extract _ _ => true
  | .move _ => true
  | _ => false
theorem slot_run {o : Oper} (h : slotOp o = true) {a : Act} {v : Value} {w : World} (hr : RetQ P w v ((execOp a.eval o).run P w)) (w' : World) : RetQ P w' v ((execOp a.eval o).run P w') := by
  unfold slotOp at h
  split at h
  · rename_i t k e
    unfold execOp at hr ⊢
    rw [e] at hr ⊢
    dsimp only at hr ⊢
    unfold Instr.extract at hr ⊢
    generalize a.eval t = u at hr ⊢
    cases u <;> first | exact hr.elim | skip
    simp only [Sem.run_bind] at hr ⊢
    split at hr <;> rename_i e2 <;> first | exact hr.elim | exact ⟨hr.1, rfl⟩
  · rename_i t e
    unfold execOp at hr ⊢
    rw [e] at hr ⊢
    exact ⟨hr.1, rfl⟩
  · cases h
theorem wpAnyB_firstP {i : Nat} {oi : Oper} {v : Value} (hi : ops[i]? = some oi) (hs : Region.noSelect ops = true)
    (hQ : ∀ c a w, Q (.panic c) (a.put oi.dst v) w → Q (.panic c) a w) (hn : n ≤ i) :
    ∀ (fuel : Nat) (listed : Array Bool) (a : Act) (w : World),
      (∀ j oj, ops[j]? = some oj → j ≠ i → listed.getD j true = false → (∀ e ∈ oj.after, Region.binds .any e = true → e.on ≠ i) → oi.apart ops oj = true) →
      i ∈ Region.ready .any ops listed → YieldsQ P ops (fun _ => True) oi v a →
      wpAnyB P ops Q S n fuel (listed.setIfInBounds i true) (a.put oi.dst v) w → wpAnyB P ops Q S n (fuel + 1) listed a w := by
  have hsel := Region.noSelect_spec hs
  intro fuel
  induction fuel with
  | zero =>
    intro listed a w _ hr hy H
    refine ⟨fun h => (by rw [h] at hr; cases hr), fun j hj => ?_⟩
    by_cases hji : j = i
    · subst hji; exact hy.wpOp hi trivial ⟨fun h => absurd h (by omega), H⟩
    · have := ready_mono hj hji
      rw [H.1] at this
      cases this
  | succ fuel ih =>
    intro listed a w hfree hr hy H
    refine ⟨fun h => (by rw [h] at hr; cases hr), fun j hj => ?_⟩
    by_cases hji : j = i
    · subst hji; exact hy.wpOp hi trivial ⟨fun h => absurd h (by omega), H⟩
    · have h1 := H.2 j (ready_mono hj hji)
      obtain ⟨hjun, oj, hoj, hall⟩ := mem_ready.1 hj
      have hnot : ∀ e ∈ oj.after, Region.binds .any e = true → e.on ≠ i := fun e he hb heq =>
        unlisted_not (mem_ready.1 hr).1 (heq ▸ hall e he hb)
      have h2 := wpOp_putQ hoj (hfree j oj hoj hji hjun hnot) (fun cs b => hsel i oi cs b hi) (fun cs b => hsel j oj cs b hoj) hQ hy h1
      have hfree' : ∀ k ok, ops[k]? = some ok → k ≠ i → (listed.setIfInBounds j true).getD k true = false →
          (∀ e ∈ ok.after, Region.binds .any e = true → e.on ≠ i) → oi.apart ops ok = true := fun k ok hk hki hun hno => by
        refine hfree k ok hk hki ?_ hno
        by_cases hjk : j = k
        · subst hjk; exact hjun
        · rw [getD_set_ne true hjk] at hun; exact hun
      refine wpOp_mono (fun a' w' h3 => ⟨fun h => h3.2.1 h, ih (listed.setIfInBounds j true) a' w' hfree' (ready_mono hr (Ne.symm hji)) h3.1 ?_⟩) h2
      rw [Array.setIfInBounds_comm _ _ hji]
      exact h3.2.2
def slotAt (ops : Array Oper) (i : Nat) : Bool := match ops[i]? with
  | some o => slotOp o
  | none => false
def ordOkP (ops : Array Oper) (n : Nat) : List (Nat × Bool) → Array Bool → Bool
  | [], listed => (Region.ready .any ops listed).isEmpty
  | (i, true) :: r, listed => ((decide (i < n) && tailReach ops n i) || (decide (n ≤ i) && slotAt ops i)) && (Region.ready .any ops listed).contains i && Region.free .any ops listed i && ordOkP ops n r (listed.setIfInBounds i true)
  | (i, false) :: r, listed => (decide (i < n) || r.all fun x => decide (n ≤ x.1)) && (match Region.ready .any ops listed with | [j] => j == i | _ => false) && ordOkP ops n r (listed.setIfInBounds i true)

theorem wpAnyB_of_ordP {ι : Type} {F : ι → World} (x0 : ι) (hs : Region.noSelect ops = true) (hQ : ∀ c (a : Act) (d : Option Tmp) (v : Value) w, Q (.panic c) (a.put d v) w → Q (.panic c) a w) :
    ∀ (ord : List (Nat × Bool)) (listed : Array Bool) (a : Act) (w : World), Closed ops listed → ordOkP ops n ord listed = true → ((∃ x ∈ ord, x.1 < n) → Sf F w) → wpOrd P ops Q F n ord a w →
      wpAnyB P ops Q (Sf F) n ord.length listed a w
  | [], listed, a, w, _, hok, _, h => by
    simp only [ordOkP, List.isEmpty_iff] at hok
    exact ⟨hok, h⟩
  | (i, true) :: r, listed, a, w, hcl, hok, hS, h => by
    simp only [ordOkP, Bool.and_eq_true, Bool.or_eq_true, decide_eq_true_eq] at hok
    obtain ⟨⟨⟨hin, hr⟩, hf⟩, hok⟩ := hok
    simp only [wpOrd] at h
    cases ho : ops[i]? with
    | none => simp [ho] at h
    | some o =>
      simp only [ho] at h
      have again := fun a' h' => wpAnyB_of_ordP x0 hs hQ r (listed.setIfInBounds i true) a' w (closed_set hcl (by simpa using hr)) hok (fun ⟨x, hx, hxn⟩ => hS ⟨x, List.mem_cons_of_mem _ hx, hxn⟩) h'
      rcases hin with ⟨hin, ht⟩ | ⟨hin, hsl⟩
      · have hw := hS ⟨(i, true), by simp, hin⟩
        by_cases hwt : Region.wanted o (yielded ops a.tmps) = true
        · simp only [hwt, if_true] at h
          obtain ⟨v, hv, hk⟩ := h
          exact wpAnyB_firstT ho hs (fun c a w => hQ c a _ _ w) ht _ listed a w hcl (Region.free_spec ho hf) (by simpa using hr)
            (Or.inl ⟨hwt, fun w' hw' => by obtain ⟨X, rfl⟩ := hw'; exact hv X⟩) hw (again _ hk)
        · have hwt' : Region.wanted o (yielded ops a.tmps) = false := by simpa using hwt
          simp only [hwt', Bool.false_eq_true, if_false] at h
          exact wpAnyB_firstT ho hs (fun c a w => hQ c a _ _ w) ht _ listed a w hcl (Region.free_spec ho hf) (by simpa using hr)
            (Or.inr ⟨hwt', rfl⟩) hw (again _ h)
      · simp only [slotAt, ho] at hsl
        by_cases hwt : Region.wanted o (yielded ops a.tmps) = true
        · simp only [hwt, if_true] at h
          obtain ⟨v, hv, hk⟩ := h
          exact wpAnyB_firstP ho hs (fun c a w => hQ c a _ _ w) hin _ listed a w (Region.free_spec ho hf) (by simpa using hr)
            (Or.inl ⟨hwt, fun w' _ => slot_run hsl (hv x0) w'⟩) (again _ hk)
        · have hwt' : Region.wanted o (yielded ops a.tmps) = false := by simpa using hwt
          simp only [hwt', Bool.false_eq_true, if_false] at h
          exact wpAnyB_firstP ho hs (fun c a w => hQ c a _ _ w) hin _ listed a w (Region.free_spec ho hf) (by simpa using hr)
            (Or.inr ⟨hwt', rfl⟩) (again _ h)
  | (i, false) :: r, listed, a, w, hcl, hok, hS, h => by
    simp only [ordOkP, Bool.and_eq_true, Bool.or_eq_true, decide_eq_true_eq] at hok
    obtain ⟨⟨hin, hr⟩, hok⟩ := hok
    have hr' : Region.ready .any ops listed = [i] := by
      split at hr
      · rename_i j hj; rw [hj]; simp at hr; rw [hr]
      · cases hr
    refine ⟨fun h0 => (by rw [h0] at hr'; cases hr'), fun j hj => ?_⟩
    rw [hr', List.mem_singleton] at hj
    subst hj
    simp only [wpOrd] at h
    cases ho : ops[j]? with
    | none => simp [ho] at h
    | some o =>
      simp only [ho] at h
      unfold wpOp
      simp only [ho]
      have again := fun (a' : Act) (w' : World) (hw' : (∃ x ∈ r, x.1 < n) → Sf F w') h' => wpAnyB_of_ordP (F := F) x0 hs hQ r (listed.setIfInBounds j true) a' w' (closed_set hcl (by rw [hr']; simp)) hok hw' h'
      have later : (∃ x ∈ r, x.1 < n) → j < n := fun ⟨x, hx, hxn⟩ => by
        rcases hin with h1 | h1
        · exact h1
        · have := List.all_eq_true.1 h1 x hx
          simp only [decide_eq_true_eq] at this
          omega
      by_cases hwt : Region.wanted o (yielded ops a.tmps) = true
      · simp only [hwt, if_true] at h ⊢
        exact Or.inl (Oper.wp_mono (fun a' w' h' => ⟨h'.1, again a' w' (fun hx => h'.1 (later hx)) h'.2⟩) h)
      · have hwt' : Region.wanted o (yielded ops a.tmps) = false := by simpa using hwt
        simp only [hwt', Bool.false_eq_true, if_false] at h ⊢
        exact ⟨fun hj => hS ⟨(j, false), by simp, hj⟩, again _ _ (fun hx => hS ⟨(j, false), by simp, later hx⟩) h⟩

theorem wp_region_ordPF {ι : Type} (F : ι → World) {id : Nat} {l : List Oper} {a : Act} {w : World} (ord : List (Nat × Bool)) (n : Nat) (hm : P.follows .mixedOrders = true)
    (hok : (ordOkP l.toArray n ord (Array.replicate l.toArray.size false) && Region.noSelect l.toArray && ord.length == l.toArray.size) = true)
    (h0 : Sf F w.drew) (h : wpOrd P l.toArray (NoPan Q) F n ord a w.drew) : (Code.region id l.toArray true).wp P Q a w := by
  simp only [Bool.and_eq_true, beq_iff_eq] at hok
  have h1 : (Code.region id l.toArray true).wp P (NoPan Q) a w := by
    refine wp_region_any hm ?_
    rw [← hok.2]
    have h00 := h0
    obtain ⟨x0, _⟩ := h00
    exact wpAny_of_B _ _ _ _ (wpAnyB_of_ordP x0 hok.1.2 (fun _ _ _ _ _ h => h) ord _ a _ (closed_none _ _) (hok.2 ▸ hok.1.1) (fun _ => h0) h)
  exact Code.wp_mono (fun e a w h => by cases e <;> first | exact h | exact h.elim) h1
theorem wp_region_ordP {id : Nat} {l : List Oper} {a : Act} {w : World} (ord : List (Nat × Bool)) (n : Nat) (hm : P.follows .mixedOrders = true)
    (hok : (ordOkP l.toArray n ord (Array.replicate l.toArray.size false) && Region.noSelect l.toArray && ord.length == l.toArray.size) = true)
    (h : wpOrd P l.toArray (NoPan Q) (fun X => w.ext X) n ord a w.drew) : (Code.region id l.toArray true).wp P Q a w := wp_region_ordPF (fun X => w.ext X) ord n hm hok (Sx.drew w) h
end
end Go
