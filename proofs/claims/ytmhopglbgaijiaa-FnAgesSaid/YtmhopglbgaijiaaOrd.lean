/- A region whose order is open, walked once: what only reads is taken first, the calls come in their one order, the stores at the end. No condition but the stated ones. -/
import Derived.Test.YtmhopglbgaijiaaExt
import Derived.OrdersHeld
namespace Go

/-- the worlds that come of w by growth alone -/
def Sx (w0 : World) (w : World) : Prop := ∃ X, w = w0.ext X
theorem Sx.drew (w : World) : Sx w w.drew := ⟨⟨#[], w.drawn + 1⟩, by show World.drew w = World.ext w _; unfold World.drew World.ext; simp only [Array.append_empty]⟩
theorem Sx.ext {w0 w : World} (h : Sx w0 w) (X : Ext) : Sx w0 (w.ext X) := by
  obtain ⟨Y, rfl⟩ := h
  exact ⟨⟨Y.bs ++ X.bs, X.dr⟩, by unfold World.ext; simp only [Array.append_assoc]⟩
theorem Sx.alloc {w0 w : World} (h : Sx w0 w) (o : Obj) : Sx w0 (w.alloc o) := by
  obtain ⟨Y, rfl⟩ := h
  exact ⟨⟨Y.bs.push o, Y.dr⟩, by unfold World.ext World.alloc; simp only [Array.append_push]⟩
theorem Sx.merge (w : World) (Y : Ext) (bs : Array Obj) (d : Nat) : Sx (w.ext Y) (w.ext ⟨Y.bs ++ bs, d⟩) := ⟨⟨bs, d⟩, by rw [World.ext_ext]⟩
theorem Sx.more {w0 w : World} {xs bs : Array Obj} {d : Nat} (h : Sx w0 (w.ext ⟨xs, 0⟩)) : Sx w0 (w.ext ⟨xs ++ bs, d⟩) := by
  have := h.ext ⟨bs, d⟩
  rwa [World.ext_ext] at this
theorem Sx.same (w : World) (xs : Array Obj) (d0 d1 : Nat) : Sx (w.ext ⟨xs, d0⟩) (w.ext ⟨xs, d1⟩) := ⟨⟨#[], d1⟩, by rw [World.ext_ext]; simp⟩
theorem Sx.draw {w0 w : World} (h : Sx w0 w) : Sx w0 w.drew := by
  obtain ⟨Y, rfl⟩ := h
  exact ⟨⟨Y.bs, Y.dr + 1⟩, rfl⟩

section
variable {P : Program} {ops : Array Oper} {Q : Exit → Act → World → Prop} {S : World → Prop} {n : Nat}

/-- what an operation leaves: its value, and the world as it was; a call that only reads among them -/
def RetQ (P : Program) (w : World) (v : Value) : Result Next → Prop
  | .ok (.value u) w' => u = v ∧ w' = w
  | .ok (.enter f args) w' => w' = w ∧ Calls P f args w fun e w'' => e = .returned v ∧ w'' = w
  | _ => False
theorem RetQ_enter (P : Program) (w w' : World) (v : Value) (f : FuncId) (args : Array Value) : RetQ P w v (.ok (.enter f args) w') = (w' = w ∧ Calls P f args w fun e w'' => e = .returned v ∧ w'' = w) := rfl
theorem RetQ_value (P : Program) (w w' : World) (v u : Value) : RetQ P w v (.ok (.value u) w') = (u = v ∧ w' = w) := rfl
attribute [go_sem] RetQ_enter RetQ_value
/-- in every world of S the operation leaves v and the world as it was -/
def YieldsQ (P : Program) (ops : Array Oper) (S : World → Prop) (o : Oper) (v : Value) (a : Act) : Prop :=
  (Region.wanted o (yielded ops a.tmps) = true ∧ ∀ w, S w → RetQ P w v ((execOp a.eval o).run P w)) ∨
  (Region.wanted o (yielded ops a.tmps) = false ∧ v = undef)
theorem YieldsQ.wpOp {i : Nat} {o : Oper} {v : Value} {a : Act} (hi : ops[i]? = some o) (hy : YieldsQ P ops S o v a)
    {K : Act → World → Prop} {w : World} (hS : S w) (h : K (a.put o.dst v) w) : wpOp P ops Q i K a w := by
  unfold Go.wpOp
  simp only [hi]
  rcases hy with ⟨hw, hv⟩ | ⟨hw, rfl⟩
  · simp only [hw, if_true]
    refine .inl ?_
    have hv := hv w hS
    unfold Oper.wp
    generalize (execOp a.eval o).run P w = r at hv
    cases r with
    | ok n w' =>
      cases n with
      | value u => simp only [RetQ] at hv; obtain ⟨rfl, rfl⟩ := hv; exact h
      | enter f args =>
        simp only [RetQ] at hv
        obtain ⟨rfl, hv⟩ := hv
        refine Calls.mono hv fun e w'' he => ?_
        obtain ⟨rfl, rfl⟩ := he
        exact h
      | _ => exact hv.elim
    | halt x w' => exact hv.elim
  · simp only [hw, Bool.false_eq_true, if_false]; exact h
theorem YieldsQ.of_same {o : Oper} {v : Value} {a a' : Act} (hy : YieldsQ P ops S o v a) (he : execOp a'.eval o = execOp a.eval o)
    (hw : Region.wanted o (yielded ops a'.tmps) = Region.wanted o (yielded ops a.tmps)) : YieldsQ P ops S o v a' := by
  unfold YieldsQ at *
  rw [he, hw]
  exact hy
theorem wpOp_putQ {j : Nat} {oi oj : Oper} {v : Value} (hj : ops[j]? = some oj) (hap : oi.apart ops oj = true)
    (hsi : ∀ cs b, oi.op ≠ .select cs b) (hsj : ∀ cs b, oj.op ≠ .select cs b)
    (hQ : ∀ c a w, Q (.panic c) (a.put oi.dst v) w → Q (.panic c) a w) {K : Act → World → Prop} {a : Act} {w : World}
    (hy : YieldsQ P ops S oi v a) (h : wpOp P ops Q j K (a.put oi.dst v) w) :
    wpOp P ops Q j (fun a' w' => YieldsQ P ops S oi v a' ∧ K (a'.put oi.dst v) w') a w := by
  obtain ⟨h1, h2, h3⟩ := Oper.apart_spec hap
  have keep : ∀ (a : Act), YieldsQ P ops S oi v a → ∀ u, YieldsQ P ops S oi v (a.put oj.dst u) := fun a hy u =>
    hy.of_same (execOp_put oi hsi a oj.dst u h3) (wanted_put oi a oj.dst u h3)
  have keepD : ∀ d, YieldsQ P ops S oi v { a with defers := d :: a.defers } := fun d => hy.of_same rfl rfl
  unfold wpOp at *
  simp only [hj] at *
  rw [wanted_put oj a oi.dst v h1] at h
  split
  · rename_i hw
    simp only [hw, if_true] at h
    rcases h with h | ⟨hasks, hlets⟩
    case inr => exact .inr ⟨by unfold Oper.asks at *; rw [execOp_put oj hsj a oi.dst v h1] at hasks; exact hasks, hlets⟩
    refine .inl ?_
    unfold Oper.wp at *
    rw [execOp_put oj hsj a oi.dst v h1] at h
    generalize (execOp a.eval oj).run P w = r at *
    cases r with
    | ok n w' =>
      cases n <;> simp only [Oper.upon] at h ⊢
      case value u => exact ⟨keep a hy u, by rw [← Act.put_comm a v u h2]; exact h⟩
      case skip => exact ⟨keep a hy _, by rw [← Act.put_comm a v undef h2]; exact h⟩
      case defer d =>
        refine ⟨keep _ (keepD d) _, ?_⟩
        rw [← Act.put_comm _ v undef h2, ← Act.put_defers]
        exact h
      case enter f args =>
        refine Calls.mono h fun e w'' he => ?_
        cases e with
        | returned u => exact ⟨keep a hy u, by rw [← Act.put_comm a v u h2]; exact he⟩
        | panicked c => exact hQ _ _ _ he
        | outgrown => exact he
      case row row args => exact Rows.mono h fun u w'' he => ⟨keep a hy u, by rw [← Act.put_comm a v u h2]; exact he⟩
    | halt x w' =>
      cases x <;> simp only [Oper.upon] at h ⊢
      case panic u => exact hQ _ _ _ h
  · rename_i hw
    simp only [hw] at h
    exact ⟨keep a hy _, by rw [← Act.put_comm a v undef h2]; exact h⟩

/-- whatever order is picked, and S holds behind each operation below n -/
def wpAnyB (P : Program) (ops : Array Oper) (Q : Exit → Act → World → Prop) (S : World → Prop) (n : Nat) : Nat → Array Bool → Act → World → Prop
  | 0, listed, a, w => Region.ready .any ops listed = [] ∧ Q .normal a w
  | fuel + 1, listed, a, w =>
    (Region.ready .any ops listed = [] → Q .normal a w) ∧
    ∀ i ∈ Region.ready .any ops listed, wpOp P ops Q i (fun a' w' => (i < n → S w') ∧ wpAnyB P ops Q S n fuel (listed.setIfInBounds i true) a' w') a w

theorem wpAny_of_B : ∀ (fuel : Nat) (listed : Array Bool) (a : Act) (w : World), wpAnyB P ops Q S n fuel listed a w → wpAny P .any ops Q fuel listed a w
  | 0, _, _, _, h => h
  | fuel + 1, _, _, _, h => ⟨h.1, fun i hi => wpOp_mono (fun a' w' h' => wpAny_of_B fuel _ a' w' h'.2) (h.2 i hi)⟩

/-- all from n on wait for i -/
def tailWaits (ops : Array Oper) (n i : Nat) : Bool :=
  (List.range ops.size).all fun j => decide (j < n) || match ops[j]? with
    | some o => o.after.any fun e => Region.binds .any e && e.on == i
    | none => true

theorem tailWaits_spec {i j : Nat} {o : Oper} (h : tailWaits ops n i = true) (hj : ops[j]? = some o) (hn : n ≤ j) : ∃ e ∈ o.after, Region.binds .any e = true ∧ e.on = i := by
  have hlt : j < ops.size := (Array.getElem?_eq_some_iff.1 hj).1
  have h1 := List.all_eq_true.1 h j (List.mem_range.2 hlt)
  simp only [hj, Bool.or_eq_true, decide_eq_true_eq] at h1
  rcases h1 with h1 | h1
  · omega
  · obtain ⟨e, he, hb⟩ := Array.any_eq_true'.1 h1
    simp only [Bool.and_eq_true, beq_iff_eq] at hb
    exact ⟨e, he, hb.1, hb.2⟩

theorem unlisted_not {listed : Array Bool} {i : Nat} (h0 : listed.getD i true = false) (h1 : listed.getD i false = true) : False := by
  rcases Nat.lt_or_ge i listed.size with h' | h'
  · simp [h'] at h0 h1; rw [h0] at h1; cases h1
  · simp [Array.getElem?_eq_none h'] at h1

theorem wpAnyB_first {i : Nat} {oi : Oper} {v : Value} (hi : ops[i]? = some oi) (hs : Region.noSelect ops = true)
    (hQ : ∀ c a w, Q (.panic c) (a.put oi.dst v) w → Q (.panic c) a w) (ht : tailWaits ops n i = true) :
    ∀ (fuel : Nat) (listed : Array Bool) (a : Act) (w : World),
      (∀ j oj, ops[j]? = some oj → j ≠ i → listed.getD j true = false → (∀ e ∈ oj.after, Region.binds .any e = true → e.on ≠ i) → oi.apart ops oj = true) →
      i ∈ Region.ready .any ops listed → YieldsQ P ops S oi v a → S w →
      wpAnyB P ops Q S n fuel (listed.setIfInBounds i true) (a.put oi.dst v) w → wpAnyB P ops Q S n (fuel + 1) listed a w := by
  have hsel := Region.noSelect_spec hs
  intro fuel
  induction fuel with
  | zero =>
    intro listed a w _ hr hy hS H
    refine ⟨fun h => (by rw [h] at hr; cases hr), fun j hj => ?_⟩
    by_cases hji : j = i
    · subst hji; exact hy.wpOp hi hS ⟨fun _ => hS, H⟩
    · have := ready_mono hj hji
      rw [H.1] at this
      cases this
  | succ fuel ih =>
    intro listed a w hfree hr hy hS H
    refine ⟨fun h => (by rw [h] at hr; cases hr), fun j hj => ?_⟩
    by_cases hji : j = i
    · subst hji; exact hy.wpOp hi hS ⟨fun _ => hS, H⟩
    · have h1 := H.2 j (ready_mono hj hji)
      obtain ⟨hjun, oj, hoj, hall⟩ := mem_ready.1 hj
      have hnot : ∀ e ∈ oj.after, Region.binds .any e = true → e.on ≠ i := fun e he hb heq =>
        unlisted_not (mem_ready.1 hr).1 (heq ▸ hall e he hb)
      have hjn : j < n := by
        rcases Nat.lt_or_ge j n with h | h
        · exact h
        · obtain ⟨e, he, hb, hon⟩ := tailWaits_spec ht hoj h
          exact absurd hon (hnot e he hb)
      have h2 := wpOp_putQ hoj (hfree j oj hoj hji hjun hnot) (fun cs b => hsel i oi cs b hi) (fun cs b => hsel j oj cs b hoj) hQ hy h1
      have hfree' : ∀ k ok, ops[k]? = some ok → k ≠ i → (listed.setIfInBounds j true).getD k true = false →
          (∀ e ∈ ok.after, Region.binds .any e = true → e.on ≠ i) → oi.apart ops ok = true := fun k ok hk hki hun hno => by
        refine hfree k ok hk hki ?_ hno
        by_cases hjk : j = k
        · subst hjk; exact hjun
        · rw [getD_set_ne true hjk] at hun; exact hun
      refine wpOp_mono (fun a' w' h3 => ⟨fun _ => h3.2.1 hjn, ih (listed.setIfInBounds j true) a' w' hfree' (ready_mono hr (Ne.symm hji)) h3.1 (h3.2.1 hjn) ?_⟩) h2
      rw [Array.setIfInBounds_comm _ _ hji]
      exact h3.2.2

/-- the worlds of a class, each named -/
def Sf {ι : Type} (F : ι → World) (w : World) : Prop := ∃ x, w = F x
/-- one value in every world of the class, the world as it was -/
def Oper.quietV {ι : Type} (P : Program) (o : Oper) (a : Act) (F : ι → World) (next : Act → Prop) : Prop :=
  ∃ v, (∀ x, (execOp a.eval o).run P (F x) = .ok (.value v) (F x)) ∧ next (a.put o.dst v)
attribute [go_sem] Oper.quietV
/-- the same, a call that only reads among them -/
def Oper.quietX {ι : Type} (P : Program) (o : Oper) (a : Act) (F : ι → World) (next : Act → Prop) : Prop :=
  ∃ v, (∀ x, RetQ P (F x) v ((execOp a.eval o).run P (F x))) ∧ next (a.put o.dst v)
attribute [go_sem] Oper.quietX

/-- the one walk: (i, true): taken first; (i, false): comes up alone -/
def wpOrd {ι : Type} (P : Program) (ops : Array Oper) (Q : Exit → Act → World → Prop) (F : ι → World) (n : Nat) : List (Nat × Bool) → Act → World → Prop
  | [], a, w => Q .normal a w
  | (i, true) :: r, a, w => match ops[i]? with
    | none => False
    | some o => if Region.wanted o (yielded ops a.tmps) then o.quietX P a F (fun a' => wpOrd P ops Q F n r a' w) else wpOrd P ops Q F n r (a.put o.dst undef) w
  | (i, false) :: r, a, w => match ops[i]? with
    | none => False
    | some o => if Region.wanted o (yielded ops a.tmps) then o.wp P a w (fun a' w' => (i < n → Sf F w') ∧ wpOrd P ops Q F n r a' w') Q else wpOrd P ops Q F n r (a.put o.dst undef) w

def ordOk (ops : Array Oper) (n : Nat) : List (Nat × Bool) → Array Bool → Bool
  | [], listed => (Region.ready .any ops listed).isEmpty
  | (i, true) :: r, listed => decide (i < n) && (Region.ready .any ops listed).contains i && Region.free .any ops listed i && tailWaits ops n i && ordOk ops n r (listed.setIfInBounds i true)
  | (i, false) :: r, listed => (decide (i < n) || r.all fun x => decide (n ≤ x.1)) && (match Region.ready .any ops listed with | [j] => j == i | _ => false) && ordOk ops n r (listed.setIfInBounds i true)

theorem wpAnyB_of_ord {ι : Type} {F : ι → World} (hs : Region.noSelect ops = true) (hQ : ∀ c (a : Act) (d : Option Tmp) (v : Value) w, Q (.panic c) (a.put d v) w → Q (.panic c) a w) :
    ∀ (ord : List (Nat × Bool)) (listed : Array Bool) (a : Act) (w : World), ordOk ops n ord listed = true → ((∃ x ∈ ord, x.1 < n) → Sf F w) → wpOrd P ops Q F n ord a w →
      wpAnyB P ops Q (Sf F) n ord.length listed a w
  | [], listed, a, w, hok, _, h => by
    simp only [ordOk, List.isEmpty_iff] at hok
    exact ⟨hok, h⟩
  | (i, true) :: r, listed, a, w, hok, hS, h => by
    simp only [ordOk, Bool.and_eq_true, decide_eq_true_eq] at hok
    obtain ⟨⟨⟨⟨hin, hr⟩, hf⟩, ht⟩, hok⟩ := hok
    have hw := hS ⟨(i, true), by simp, hin⟩
    simp only [wpOrd] at h
    cases ho : ops[i]? with
    | none => simp [ho] at h
    | some o =>
      simp only [ho] at h
      have again := fun a' h' => wpAnyB_of_ord hs hQ r (listed.setIfInBounds i true) a' w hok (fun _ => hw) h'
      by_cases hwt : Region.wanted o (yielded ops a.tmps) = true
      · simp only [hwt, if_true] at h
        obtain ⟨v, hv, hk⟩ := h
        exact wpAnyB_first ho hs (fun c a w => hQ c a _ _ w) ht _ listed a w (Region.free_spec ho hf) (by simpa using hr)
          (Or.inl ⟨hwt, fun w' hw' => by obtain ⟨X, rfl⟩ := hw'; exact hv X⟩) hw (again _ hk)
      · have hwt' : Region.wanted o (yielded ops a.tmps) = false := by simpa using hwt
        simp only [hwt', Bool.false_eq_true, if_false] at h
        exact wpAnyB_first ho hs (fun c a w => hQ c a _ _ w) ht _ listed a w (Region.free_spec ho hf) (by simpa using hr)
          (Or.inr ⟨hwt', rfl⟩) hw (again _ h)
  | (i, false) :: r, listed, a, w, hok, hS, h => by
    simp only [ordOk, Bool.and_eq_true, Bool.or_eq_true, decide_eq_true_eq] at hok
    obtain ⟨⟨hin, hr⟩, hok⟩ := hok
    have hr' : Region.ready .any ops listed = [i] := by
      split at hr
      · rename_i j hj; rw [hj]; simp at hr; rw [hr]
      · cases hr
    refine ⟨fun h0 => (by rw [h0] at hr'; cases hr'), fun j hj => ?_⟩
    rw [hr', List.mem_singleton] at hj
    subst hj
    simp only [wpOrd] at h
    cases ho : ops[j]? with
    | none => simp [ho] at h
    | some o =>
      simp only [ho] at h
      unfold wpOp
      simp only [ho]
      have again := fun (a' : Act) (w' : World) (hw' : (∃ x ∈ r, x.1 < n) → Sf F w') h' => wpAnyB_of_ord (F := F) hs hQ r (listed.setIfInBounds j true) a' w' hok hw' h'
      have later : (∃ x ∈ r, x.1 < n) → j < n := fun ⟨x, hx, hxn⟩ => by
        rcases hin with h1 | h1
        · exact h1
        · have := List.all_eq_true.1 h1 x hx
          simp only [decide_eq_true_eq] at this
          omega
      by_cases hwt : Region.wanted o (yielded ops a.tmps) = true
      · simp only [hwt, if_true] at h ⊢
        exact Or.inl (Oper.wp_mono (fun a' w' h' => ⟨h'.1, again a' w' (fun hx => h'.1 (later hx)) h'.2⟩) h)
      · have hwt' : Region.wanted o (yielded ops a.tmps) = false := by simpa using hwt
        simp only [hwt', Bool.false_eq_true, if_false] at h ⊢
        exact ⟨fun hj => hS ⟨(j, false), by simp, hj⟩, again _ _ (fun hx => hS ⟨(j, false), by simp, later hx⟩) h⟩

/-- no way out by panic -/
def NoPan (Q : Exit → Act → World → Prop) : Exit → Act → World → Prop
  | .panic _, _, _ => False
  | e, a, w => Q e a w

theorem wp_region_ordF {ι : Type} (F : ι → World) {id : Nat} {l : List Oper} {a : Act} {w : World} (ord : List (Nat × Bool)) (n : Nat) (hm : P.follows .mixedOrders = true)
    (hok : (ordOk l.toArray n ord (Array.replicate l.toArray.size false) && Region.noSelect l.toArray && ord.length == l.toArray.size) = true)
    (h0 : Sf F w.drew) (h : wpOrd P l.toArray (NoPan Q) F n ord a w.drew) : (Code.region id l.toArray true).wp P Q a w := by
  simp only [Bool.and_eq_true, beq_iff_eq] at hok
  have h1 : (Code.region id l.toArray true).wp P (NoPan Q) a w := by
    refine wp_region_any hm ?_
    rw [← hok.2]
    exact wpAny_of_B _ _ _ _ (wpAnyB_of_ord hok.1.2 (fun _ _ _ _ _ h => h) ord _ a _ (hok.2 ▸ hok.1.1) (fun _ => h0) h)
  exact Code.wp_mono (fun e a w h => by cases e <;> first | exact h | exact h.elim) h1

theorem wp_region_ord {id : Nat} {l : List Oper} {a : Act} {w : World} (ord : List (Nat × Bool)) (n : Nat) (hm : P.follows .mixedOrders = true)
    (hok : (ordOk l.toArray n ord (Array.replicate l.toArray.size false) && Region.noSelect l.toArray && ord.length == l.toArray.size) = true)
    (h : wpOrd P l.toArray (NoPan Q) (fun X => w.ext X) n ord a w.drew) : (Code.region id l.toArray true).wp P Q a w := wp_region_ordF (fun X => w.ext X) ord n hm hok (Sx.drew w) h

section
variable {ι : Type} {F : ι → World} {r : List (Nat × Bool)} {a : Act} {w : World} {o : Oper} {i : Nat}
theorem wpOrd_at_block {ι : Type} {P : Program} {ops : Array Oper} {Q : Exit → Act → World → Prop} {F : ι → World} {n : Nat} {r : List (Nat × Bool)} {a : Act} {w : World} {p : Nat} {o : Obj} (h : w.heap[p]? = some o) (H : wpOrd P ops Q F n r a (w.setB p o)) : wpOrd P ops Q F n r a w := by
  rw [World.setB_self h] at H
  exact H
theorem wpOrd_nil (h : Q .normal a w) : wpOrd P ops (NoPan Q) F n [] a w := h
/-- an operation that only reads -/
theorem wpOrd_quiet (ho : ops[i]? = some o)
    (h : ∀ K : Act → Prop, (∀ a, wpOrd P ops Q F n r a w → K a) → if Region.wanted o (yielded ops a.tmps) then o.quietV P a F K else K (a.put o.dst undef)) :
    wpOrd P ops Q F n ((i, true) :: r) a w := by
  simp only [wpOrd, ho]
  have := h _ (fun _ h => h)
  by_cases hwt : Region.wanted o (yielded ops a.tmps) = true
  · simp only [hwt, if_true] at this ⊢
    obtain ⟨v, h1, h2⟩ := this
    exact ⟨v, fun x => by rw [h1 x]; exact ⟨rfl, rfl⟩, h2⟩
  · simp only [hwt, Bool.false_eq_true, if_false] at this ⊢
    exact this
/-- a call that only reads -/
theorem wpOrd_look (ho : ops[i]? = some o)
    (h : ∀ K : Act → Prop, (∀ a, wpOrd P ops Q F n r a w → K a) → if Region.wanted o (yielded ops a.tmps) then o.quietX P a F K else K (a.put o.dst undef)) :
    wpOrd P ops Q F n ((i, true) :: r) a w := by
  simp only [wpOrd, ho]
  exact h _ (fun _ h => h)
/-- a call, an allocation -/
theorem wpOrd_grow (ho : ops[i]? = some o)
    (h : ∀ K : Act → World → Prop, (∀ a w, Sf F w → wpOrd P ops Q F n r a w → K a w) → if Region.wanted o (yielded ops a.tmps) then o.wp P a w K Q else K (a.put o.dst undef) w) : wpOrd P ops Q F n ((i, false) :: r) a w := by
  simp only [wpOrd, ho]
  have := h (fun a w => Sf F w ∧ wpOrd P ops Q F n r a w) (fun _ _ h1 h2 => ⟨h1, h2⟩)
  by_cases hwt : Region.wanted o (yielded ops a.tmps) = true
  · simp only [hwt, if_true] at this ⊢
    exact Oper.wp_mono (fun a' w' h' => ⟨fun _ => h'.1, h'.2⟩) this
  · simp only [hwt, Bool.false_eq_true, if_false] at this ⊢
    exact this.2
/-- an operation of the tail -/
theorem wpOrd_tail (ho : ops[i]? = some o) (hi : decide (n ≤ i) = true)
    (h : ∀ K : Act → World → Prop, (∀ a w, wpOrd P ops Q F n r a w → K a w) → if Region.wanted o (yielded ops a.tmps) then o.wp P a w K Q else K (a.put o.dst undef) w) :
    wpOrd P ops Q F n ((i, false) :: r) a w := by
  simp only [wpOrd, ho]
  simp only [decide_eq_true_eq] at hi
  have := h (fun a w => wpOrd P ops Q F n r a w) (fun _ _ h1 => h1)
  by_cases hwt : Region.wanted o (yielded ops a.tmps) = true
  · simp only [hwt, if_true] at this ⊢
    exact Oper.wp_mono (fun a' w' h' => ⟨fun h0 => by omega, h'⟩) this
  · simp only [hwt, Bool.false_eq_true, if_false] at this ⊢
    exact this
end
end
/-- block p anew, and growth -/
def Got (p : Nat) (w : World) (o : Obj) (w' : World) : Prop := ∃ X, w' = (w.setB p o).ext X
theorem Got.mk (p : Nat) (w : World) (o : Obj) : Got p w o (w.setB p o) := ⟨⟨#[], w.drawn⟩, by unfold World.ext World.setB; simp⟩
theorem Got.ext {p : Nat} {w w' : World} {o : Obj} (h : Got p w o w') (X : Ext) : Got p w o (w'.ext X) := by
  obtain ⟨Y, rfl⟩ := h
  exact ⟨_, World.ext_ext _ Y X⟩
theorem Got.drew {p : Nat} {w w' : World} {o : Obj} (h : Got p w o w') : Got p w o w'.drew := by
  obtain ⟨Y, rfl⟩ := h
  exact ⟨_, World.drew_ext _ Y⟩
theorem Got.alloc {p : Nat} {w w' : World} {o : Obj} (h : Got p w o w') (x : Obj) : Got p w o (w'.alloc x) := by
  obtain ⟨Y, rfl⟩ := h
  exact ⟨⟨Y.bs.push x, Y.dr⟩, by unfold World.ext World.alloc; simp only [Array.append_push]⟩
end Go
