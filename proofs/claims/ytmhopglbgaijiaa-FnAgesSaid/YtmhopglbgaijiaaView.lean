/- Go values as they lie in cells, and the plain data that they read as: numbers, texts, structs, slices; what a call owns. No condition but the stated ones. -/
import Derived.Test.YtmhopglbgaijiaaRow
import Derived.Deep.QuietTactic
import Derived.BigQuiet
namespace Go
open Go.RowKit

@[go_sem] theorem World.drewN_ext (w : World) (X : Ext) (n : Nat) : (w.ext X).drewN n = w.ext ⟨X.bs, X.dr + n⟩ := rfl
theorem RowKit.Below.ofDrewN {a w : World} (h : Below a.heap.size a w) (n : Nat) : Below a.heap.size a (w.drewN n) := ⟨h.os, h.tape, h.output, h.size, h.block⟩
/-- the blocks of w are as they were in w' -/
def Grew (w w' : World) : Prop := ∀ b, b < w.heap.size → w'.heap[b]? = w.heap[b]?
theorem Grew.refl (w : World) : Grew w w := fun _ _ => rfl
theorem Grew.ext (w : World) (X : Ext) : Grew w (w.ext X) := fun _ h => w.ext_get X h
theorem Grew.alloc (w : World) (o : Obj) : Grew w (w.alloc o) := fun _ h => by
  show (w.heap.push o)[_]? = w.heap[_]?
  rw [Array.getElem?_push, if_neg (Nat.ne_of_lt h)]
theorem Grew.drew (w : World) : Grew w w.drew := fun _ _ => rfl
theorem Grew.below {w w' : World} (h : Below w.heap.size w w') : Grew w w' := fun b hb => h.block b hb
theorem Grew.cell {w w' : World} (g : Grew w w') {a : Addr} {v : Value} (h : w.cell? a = some v) : w'.cell? a = some v :=
  (World.cell?_of_block (g a.block (World.block_lt_of_cell? w a h))).trans h

structure View (α : Type) where
  k : Nat
  rd : World → List Value → α → Prop
  own : World → List Nat → List Value → α → Prop
  len : ∀ {w cs d}, rd w cs d → cs.length = k
  one : ∀ {w cs d}, rd w cs d → ∀ u ∈ cs, u.oneCell' = true
  grow : ∀ {w w' cs d}, rd w cs d → Grew w w' → rd w' cs d
  toRd : ∀ {w fp cs d}, own w fp cs d → rd w cs d
  frame : ∀ {w w' fp cs d}, own w fp cs d → (∀ b ∈ fp, w'.heap[b]? = w.heap[b]?) → own w' fp cs d
  lt : ∀ {w fp cs d}, own w fp cs d → ∀ b ∈ fp, b < w.heap.size

section
variable {α β : Type} {V : View α} {w w' : World} {cs : List Value} {fp : List Nat} {d : α}
theorem View.rdExt (h : V.rd w cs d) (X : Ext) : V.rd (w.ext X) cs d := V.grow h (Grew.ext w X)
theorem View.rdAlloc (h : V.rd w cs d) (o : Obj) : V.rd (w.alloc o) cs d := V.grow h (Grew.alloc w o)
theorem View.rdDrew (h : V.rd w cs d) : V.rd w.drew cs d := V.grow h (Grew.drew w)
theorem View.rdDrewN (h : V.rd w cs d) (n : Nat) : V.rd (w.drewN n) cs d := V.grow h (fun _ _ => rfl)
theorem View.rdBelow (h : V.rd w cs d) (hb : Below w.heap.size w w') : V.rd w' cs d := V.grow h (Grew.below hb)
theorem View.rdMerge {xs bs : Array Obj} {d0 dr : Nat} (h : V.rd (w.ext ⟨xs, d0⟩) cs d) : V.rd (w.ext ⟨xs ++ bs, dr⟩) cs d := by
  have := View.rdExt h ⟨bs, dr⟩
  rwa [World.ext_ext] at this
theorem View.ownGrow (h : V.own w fp cs d) (g : Grew w w') : V.own w' fp cs d := V.frame h fun b hb => g b (V.lt h b hb)
theorem View.ownExt (h : V.own w fp cs d) (X : Ext) : V.own (w.ext X) fp cs d := View.ownGrow h (Grew.ext w X)
theorem View.ownAlloc (h : V.own w fp cs d) (o : Obj) : V.own (w.alloc o) fp cs d := View.ownGrow h (Grew.alloc w o)
theorem View.ownMerge {xs bs : Array Obj} {d0 dr : Nat} (h : V.own (w.ext ⟨xs, d0⟩) fp cs d) : V.own (w.ext ⟨xs ++ bs, dr⟩) fp cs d := by
  have := View.ownExt h ⟨bs, dr⟩
  rwa [World.ext_ext] at this
end

/-- rows of cells, one for each element -/
def Rows' {α : Type} (rd : List Value → α → Prop) (css : List (List Value)) (ds : List α) : Prop :=
  css.length = ds.length ∧ ∀ i (hi : i < ds.length) (hc : i < css.length), rd css[i] ds[i]

theorem flatten_len {k : Nat} {css : List (List Value)} (h : ∀ i (hc : i < css.length), (css[i]).length = k) : css.flatten.length = css.length * k := by
  induction css with
  | nil => simp
  | cons c r ih =>
    rw [List.flatten_cons, List.length_append, ih (fun i hc => by have := h (i + 1) (by simpa using hc); rwa [List.getElem_cons_succ] at this), List.length_cons, Nat.add_mul]
    have := h 0 (by simp)
    simp at this
    omega
theorem flatten_get {k : Nat} {css : List (List Value)} (h : ∀ i (hc : i < css.length), (css[i]).length = k) (i : Nat) (hi : i < css.length) (j : Nat) (u : Value) (hu : css[i][j]? = some u) : css.flatten[i * k + j]? = some u := by
  induction css generalizing i with
  | nil => simp at hi
  | cons c r ih =>
    have h0 : c.length = k := h 0 (by simp)
    cases i with
    | zero =>
      have hj : j < c.length := by
        have := (List.getElem?_eq_some_iff.1 hu).1
        simpa using this
      rw [List.flatten_cons, List.getElem?_append_left (by omega)]
      simpa using hu
    | succ i =>
      rw [List.flatten_cons, List.getElem?_append_right (by rw [h0, Nat.add_mul]; omega), h0, show (i + 1) * k + j - k = i * k + j by rw [Nat.add_mul]; omega]
      exact ih (fun i hc => by have := h (i + 1) (by simpa using hc); rwa [List.getElem_cons_succ] at this) i (by simpa using hi) (by simpa using hu)

def vSlice {α : Type} (V : View α) (e : TypeId) : View (List α) where
  k := 1
  rd w cs ds := ∃ (ao : Option Addr) (cap : Nat) (css : List (List Value)), cs = [.slice ao ds.length cap] ∧ ds.length ≤ cap ∧ cap ≤ maxLen ∧ (ao = none → cap = 0) ∧ css.length = ds.length ∧
    (∀ i (hi : i < ds.length) (hc : i < css.length), V.rd w css[i] ds[i]) ∧
    (ds ≠ [] → ∃ b off, ao = some ⟨b, off, none⟩ ∧ b < w.heap.size ∧ ∀ j u, css.flatten[j]? = some u → w.cell? ⟨b, off + j, none⟩ = some u)
  own w fp cs ds := (cs = [.slice none 0 0] ∧ ds = [] ∧ fp = []) ∨ ∃ (b cap : Nat) (blk : Array Value) (css : List (List Value)) (fps : List (List Nat)), cs = [.slice (some ⟨b, 0, none⟩) ds.length cap] ∧ w.heap[b]? = some (.cells blk e (0, 0)) ∧
    ds.length ≤ cap ∧ cap ≤ maxLen ∧ blk.size = cap * V.k ∧ blk.toList.take (ds.length * V.k) = css.flatten ∧ fp = b :: fps.flatten ∧ css.length = ds.length ∧ fps.length = ds.length ∧
    ∀ i (hi : i < ds.length) (hc : i < css.length) (hf : i < fps.length), V.own w fps[i] css[i] ds[i]
  len := by rintro w cs ds ⟨ao, cap, css, rfl, _⟩; rfl
  one := by rintro w cs ds ⟨ao, cap, css, rfl, _⟩ u hu; simp at hu; subst hu; rfl
  grow := by
    rintro w w' cs ds ⟨ao, cap, css, rfl, h1, h2, h3, h4, h5, h6⟩ g
    refine ⟨ao, cap, css, rfl, h1, h2, h3, h4, fun i hi hc => V.grow (h5 i hi hc) g, fun hne => ?_⟩
    obtain ⟨b, off, e, hb, hcell⟩ := h6 hne
    refine ⟨b, off, e, ?_, fun j u hj => g.cell (hcell j u hj)⟩
    have := g b hb
    rw [Array.getElem?_eq_getElem hb] at this
    exact (Array.getElem?_eq_some_iff.1 this).1
  toRd := by
    rintro w fp cs ds (⟨rfl, rfl, rfl⟩ | ⟨b, cap, blk, css, fps, rfl, hb, h1, h2, h3, h4, rfl, h5, h6, h7⟩)
    · exact ⟨none, 0, [], rfl, Nat.le_refl _, Nat.zero_le _, fun _ => rfl, rfl, fun i hi => absurd hi (by simp), fun h => absurd rfl h⟩
    · refine ⟨_, cap, css, rfl, h1, h2, (fun h => by cases h), h5, fun i hi hc => V.toRd (h7 i hi hc (by omega)), fun _ => ⟨b, 0, rfl, World.lt_of_get hb, fun j u hj => ?_⟩⟩
      rw [World.cell?_of_get hb, ← h4] at *
      rw [List.getElem?_take] at hj
      split at hj
      · rw [Nat.zero_add]
        simpa using hj
      · cases hj
  frame := by
    rintro w w' fp cs ds (⟨rfl, rfl, rfl⟩ | ⟨b, cap, blk, css, fps, rfl, hb, h1, h2, h3, h4, rfl, h5, h6, h7⟩) g
    · exact .inl ⟨rfl, rfl, rfl⟩
    · refine .inr ⟨b, cap, blk, css, fps, rfl, (g b (by simp)).trans hb, h1, h2, h3, h4, rfl, h5, h6, fun i hi hc hf => V.frame (h7 i hi hc hf) fun c hcb => g c ?_⟩
      exact List.mem_cons_of_mem _ (List.mem_flatten.2 ⟨_, List.getElem_mem hf, hcb⟩)
  lt := by
    rintro w fp cs ds (⟨rfl, rfl, rfl⟩ | ⟨b, cap, blk, css, fps, rfl, hb, h1, h2, h3, h4, rfl, h5, h6, h7⟩) c hc
    · cases hc
    · rcases List.mem_cons.1 hc with rfl | hc
      · exact World.lt_of_get hb
      · obtain ⟨l, hl, hcl⟩ := List.mem_flatten.1 hc
        obtain ⟨i, hi, rfl⟩ := List.getElem_of_mem hl
        exact V.lt (h7 i (by omega) (by omega) hi) c hcl

section
variable {α : Type} {V : View α} {e : TypeId} {w : World} {v : Value} {ds : List α}
/-- the shape of a slice that reads as ds, and its elements' cells -/
theorem vSlice.shape (h : (vSlice V e).rd w [v] ds) : ∃ ao cap, v = .slice ao ds.length cap ∧ ds.length ≤ cap ∧ cap ≤ maxLen ∧ (ao = none → cap = 0) ∧
    (∀ i (hi : i < ds.length), ∃ b off cs, ao = some ⟨b, off, none⟩ ∧ b < w.heap.size ∧ V.rd w cs ds[i] ∧ ∀ j u, cs[j]? = some u → w.cell? ⟨b, off + i * V.k + j, none⟩ = some u) := by
  obtain ⟨ao, cap, css, hv, h1, h2, h3, h4, h5, h6⟩ := h
  simp only [List.cons.injEq, and_true] at hv
  refine ⟨ao, cap, hv, h1, h2, h3, fun i hi => ?_⟩
  obtain ⟨b, off, ea, hb, hcell⟩ := h6 (by intro hz; subst hz; simp at hi)
  refine ⟨b, off, css[i], ea, hb, h5 i hi (by omega), fun j u hj => ?_⟩
  rw [Nat.add_assoc]
  exact hcell _ u (flatten_get (fun i hc => V.len (h5 i (by omega) hc)) i (by omega) j u hj)
end
end Go
namespace Go
open Go.RowKit
/-- a struct of one-cell fields that hold no address -/
def vRow {α : Type} (row : α → List Value) (k : Nat) (ok : α → Prop) (hk : ∀ d, (row d).length = k) (h1 : ∀ d, ∀ u ∈ row d, u.oneCell' = true) : View α where
  k := k
  rd _ cs d := cs = row d ∧ ok d
  own _ fp cs d := fp = [] ∧ cs = row d ∧ ok d
  len h := by rw [h.1]; exact hk _
  one h := by rw [h.1]; exact h1 _
  grow h _ := h
  toRd h := h.2
  frame h _ := h
  lt h := by rw [h.1]; simp
def vInt : View Int := vRow (fun n => [.int .i64 n]) 1 (fun _ => True) (fun _ => rfl) (by simp [Value.oneCell'])
def vBool : View Bool := vRow (fun n => [.bool n]) 1 (fun _ => True) (fun _ => rfl) (by simp [Value.oneCell'])
def vStr : View ByteArray := vRow (fun n => [.string n]) 1 (fun s => s.size ≤ 9223372036854775807) (fun _ => rfl) (by simp [Value.oneCell'])
end Go
namespace Go.Proofs.Ytmhopglbgaijiaa
open Go.RowKit
/-- what 'left' is behind a measure of wt -/
def leftOf (left : Int) (wt : Nat) : Int := if (wt : Int) ≤ left then left - wt else -1
theorem leftOf_pos {left : Int} {a : Nat} (h : ((a : Nat) : Int) ≤ left) : leftOf left a = left - a := by
  unfold leftOf
  rw [if_pos h]
theorem leftOf_none {left : Int} {a : Nat} (h : ¬ ((a : Nat) : Int) ≤ left) : leftOf left a = -1 := by
  unfold leftOf
  rw [if_neg h]
theorem leftOf_add {left : Int} {a b : Nat} (h : ((a : Nat) : Int) ≤ left) : leftOf (leftOf left a) b = leftOf left (a + b) := by
  unfold leftOf
  rw [if_pos h]
  by_cases h2 : (b : Int) ≤ left - a
  · rw [if_pos h2, if_pos (by omega)]; omega
  · rw [if_neg h2, if_neg (by omega)]
theorem leftOf_neg {left : Int} {a b : Nat} (h : ¬ ((a : Nat) : Int) ≤ left) : leftOf left (a + b) = -1 := by
  unfold leftOf
  rw [if_neg (by omega)]
def wtS {α : Type} (wt : α → Nat) (ds : List α) : Nat := ds.length + (ds.map wt).sum
end Go.Proofs.Ytmhopglbgaijiaa
namespace Go
open Go.RowKit
/-- what a call has just made -/
structure Fresh {α : Type} (V : View α) (w w' : World) (fp : List Nat) (cs : List Value) (d : α) : Prop where
  own : V.own w' fp cs d
  nodup : fp.Nodup
  lo : ∀ b ∈ fp, w.heap.size ≤ b
theorem vSlice.ownRow {α : Type} {row : α → List Value} {k : Nat} {ok : α → Prop} {hk : ∀ d, (row d).length = k} {h1 : ∀ d, ∀ u ∈ row d, u.oneCell' = true} {e : TypeId} {w : World} {b cap n : Nat} {blk : Array Value} {ds : List α}
    (h : w.heap[b]? = some (.cells blk e (0, 0))) (hl : n = ds.length) (hn : n ≤ cap) (hm : cap ≤ maxLen) (hs : blk.size = cap * k) (ht : blk.toList.take (n * k) = ds.flatMap row) (hok : ∀ d ∈ ds, ok d) :
    (vSlice (vRow row k ok hk h1) e).own w [b] [.slice (some ⟨b, 0, none⟩) n cap] ds := by
  subst hl
  refine .inr ⟨b, cap, blk, ds.map row, ds.map fun _ => [], rfl, h, hn, hm, hs, ?_, ?_, by simp, by simp, ?_⟩
  · rw [← List.flatMap_def]; exact ht
  · have : (ds.map fun _ => ([] : List Nat)).flatten = [] := by
      rw [List.flatten_eq_nil_iff]
      intro l hl
      obtain ⟨_, _, rfl⟩ := List.mem_map.1 hl
      rfl
    rw [this]
  · intro i hi hc hf
    refine ⟨by simp, by simp, hok _ (List.getElem_mem hi)⟩
theorem vSlice.freshRow {α : Type} {row : α → List Value} {k : Nat} {ok : α → Prop} {hk : ∀ d, (row d).length = k} {h1 : ∀ d, ∀ u ∈ row d, u.oneCell' = true} {e : TypeId} {w : World} {X : Ext} {n : Nat} {blk : Array Value} {ds : List α}
    (hl : n = ds.length) (hm : n ≤ 9223372036854775807) (hs : blk.size = n * k) (ht : blk.toList.take (n * k) = ds.flatMap row) (hok : ∀ d ∈ ds, ok d) :
    Fresh (vSlice (vRow row k ok hk h1) e) w ((w.alloc (.cells blk e)).ext X) [w.heap.size] [.slice (some ⟨w.heap.size, 0, none⟩) n n] ds := by
  refine ⟨View.ownExt (vSlice.ownRow (blk := blk) ?_ hl (Nat.le_refl _) (by unfold maxLen; omega) hs ht hok) X, by simp, by simp⟩
  show (w.heap.push (.cells blk e))[w.heap.size]? = _
  simp
end Go
namespace Go
open Go.RowKit
theorem take_set1' {cs : Array Value} {n m p : Nat} {L : List Value} {v : Value} (h : cs.toList.take n = L) (hm : m = n) (hp : p = n + 1) (hn : n < cs.size) : (cs.setIfInBounds m v).toList.take p = L ++ [v] := by
  subst hm hp
  exact take_set1 h hn
/-- a call's own new value -/
def Made {α : Type} (V : View α) (w : World) (d : α) : Ending → World → Prop := fun e w' => ∃ v' fp, e = .returned v' ∧ Fresh V w w' fp [v'] d ∧ Below w.heap.size w w'
/-- a call's own new struct -/
def MadeA {α : Type} (V : View α) (w : World) (d : α) : Ending → World → Prop := fun e w' => ∃ (cs : List Value) (fp : List Nat), e = .returned (.agg cs.toArray) ∧ Fresh V w w' fp cs d ∧ Below w.heap.size w w'
end Go
namespace Go
open Go.RowKit
theorem vSlice.form {α : Type} {V : View α} {e : TypeId} {w : World} {v : Value} {ds : List α} (h : (vSlice V e).rd w [v] ds) : ∃ ao cap, v = .slice ao ds.length cap := by
  obtain ⟨ao, cap, rfl, _⟩ := vSlice.shape h
  exact ⟨ao, cap, rfl⟩
/-- places of one list, in a range -/
structure Sp (lo hi : Nat) (fp : List Nat) : Prop where
  nodup : fp.Nodup
  lo : ∀ b ∈ fp, lo ≤ b
  hi : ∀ b ∈ fp, b < hi
theorem Sp.nil (lo hi : Nat) : Sp lo hi [] := ⟨List.nodup_nil, by simp, by simp⟩
theorem Sp.append {lo mid mid' hi : Nat} {f g : List Nat} (h : Sp lo mid f) (h' : Sp mid' hi g) (h0 : lo ≤ mid') (h1 : mid ≤ mid') (h2 : mid ≤ hi) : Sp lo hi (f ++ g) := by
  refine ⟨List.nodup_append.2 ⟨h.nodup, h'.nodup, fun a ha b hb e => ?_⟩, fun b hb => ?_, fun b hb => ?_⟩
  · have := h.hi a ha
    have := h'.lo b hb
    omega
  · rcases List.mem_append.1 hb with hb | hb
    · exact h.lo b hb
    · exact Nat.le_trans h0 (h'.lo b hb)
  · rcases List.mem_append.1 hb with hb | hb
    · exact Nat.lt_of_lt_of_le (h.hi b hb) h2
    · exact h'.hi b hb
theorem Sp.mono {lo hi lo' hi' : Nat} {f : List Nat} (h : Sp lo hi f) (h0 : lo' ≤ lo) (h1 : hi ≤ hi') : Sp lo' hi' f :=
  ⟨h.nodup, fun b hb => Nat.le_trans h0 (h.lo b hb), fun b hb => Nat.lt_of_lt_of_le (h.hi b hb) h1⟩
theorem Fresh.sp {α : Type} {V : View α} {w w' : World} {fp : List Nat} {cs : List Value} {d : α} (h : Fresh V w w' fp cs d) : Sp w.heap.size w'.heap.size fp := ⟨h.nodup, h.lo, V.lt h.own⟩
/-- A begins B -/
def Pre (A B : Array Obj) : Prop := ∃ R, B = A ++ R
theorem Pre.refl (A : Array Obj) : Pre A A := ⟨#[], by simp⟩
theorem Pre.app {A B : Array Obj} (h : Pre A B) (R : Array Obj) : Pre A (B ++ R) := by
  obtain ⟨S, rfl⟩ := h
  exact ⟨S ++ R, by rw [Array.append_assoc]⟩
theorem World.ext_get_ge (w : World) (X : Ext) {k : Nat} (h : w.heap.size ≤ k) : (w.ext X).heap[k]? = X.bs[k - w.heap.size]? := by
  show (w.heap ++ X.bs)[k]? = _
  rw [Array.getElem?_append_right h]
/-- two worlds agree on the blocks from n on that the first has -/
theorem tail_agree {a b : World} {A B : Array Obj} {d d' : Nat} (hs : a.heap.size = b.heap.size) (hp : Pre A B) {k : Nat} (h1 : a.heap.size ≤ k) (h2 : k < (a.ext ⟨A, d⟩).heap.size) : (b.ext ⟨B, d'⟩).heap[k]? = (a.ext ⟨A, d⟩).heap[k]? := by
  obtain ⟨R, rfl⟩ := hp
  rw [World.ext_get_ge _ _ h1, World.ext_get_ge _ _ (by omega)]
  rw [World.ext_size] at h2
  simp only at h2 ⊢
  rw [Array.getElem?_append_left (by omega), hs]
theorem View.ownTail {α : Type} {V : View α} {a b : World} {A B : Array Obj} {d d' : Nat} {fp : List Nat} {cs : List Value} {x : α} (h : V.own (a.ext ⟨A, d⟩) fp cs x) (lo : ∀ k ∈ fp, a.heap.size ≤ k) (hs : a.heap.size = b.heap.size) (hp : Pre A B) :
    V.own (b.ext ⟨B, d'⟩) fp cs x :=
  V.frame h fun k hk => tail_agree hs hp (lo k hk) (V.lt h k hk)
theorem World.block_ext0 (w : World) (o : Obj) (X : Ext) : ((w.alloc o).ext X).heap[w.heap.size]? = some o := by
  rw [World.ext_get _ _ (by simp)]
  show (w.heap.push o)[w.heap.size]? = _
  simp
/-- the rows of a slice that a call owns -/
structure RowsOwn {α : Type} (V : View α) (w : World) (css : List (List Value)) (fps : List (List Nat)) (ds : List α) : Prop where
  cl : css.length = ds.length
  fl : fps.length = ds.length
  el : ∀ i (hi : i < ds.length) (hc : i < css.length) (hf : i < fps.length), V.own w fps[i] css[i] ds[i]
theorem RowsOwn.nil {α : Type} (V : View α) (w : World) : RowsOwn V w [] [] [] := ⟨rfl, rfl, fun i hi => absurd hi (by simp)⟩
theorem RowsOwn.snoc {α : Type} {V : View α} {w : World} {css : List (List Value)} {fps : List (List Nat)} {ds : List α} (h : RowsOwn V w css fps ds) {f : List Nat} {c : List Value} {d : α} (h' : V.own w f c d) : RowsOwn V w (css ++ [c]) (fps ++ [f]) (ds ++ [d]) := by
  obtain ⟨cl, fl, el⟩ := h
  refine ⟨by simp [cl], by simp [fl], fun i hi hc hf => ?_⟩
  simp only [List.length_append, List.length_singleton] at hi
  by_cases e : i < ds.length
  · rw [List.getElem_append_left (by omega), List.getElem_append_left (by omega), List.getElem_append_left e]
    exact el i e _ _
  · have : i = ds.length := by omega
    subst this
    rw [List.getElem_append_right (by omega), List.getElem_append_right (by omega), List.getElem_append_right (by omega)]
    simpa using h'
theorem RowsOwn.frame {α : Type} {V : View α} {w w' : World} {css : List (List Value)} {fps : List (List Nat)} {ds : List α} (h : RowsOwn V w css fps ds) (g : ∀ b ∈ fps.flatten, w'.heap[b]? = w.heap[b]?) : RowsOwn V w' css fps ds :=
  ⟨h.cl, h.fl, fun i hi hc hf => V.frame (h.el i hi hc hf) fun b hb => g b (List.mem_flatten.2 ⟨_, List.getElem_mem hf, hb⟩)⟩
theorem RowsOwn.lt {α : Type} {V : View α} {w : World} {css : List (List Value)} {fps : List (List Nat)} {ds : List α} (h : RowsOwn V w css fps ds) : ∀ b ∈ fps.flatten, b < w.heap.size := by
  intro b hb
  obtain ⟨l, hl, hbl⟩ := List.mem_flatten.1 hb
  obtain ⟨i, hi, rfl⟩ := List.getElem_of_mem hl
  exact V.lt (h.el i (by have := h.fl; omega) (by have := h.fl; have := h.cl; omega) hi) b hbl
theorem RowsOwn.tail {α : Type} {V : View α} {a b : World} {A B : Array Obj} {d d' : Nat} {css : List (List Value)} {fps : List (List Nat)} {ds : List α} (h : RowsOwn V (a.ext ⟨A, d⟩) css fps ds) (lo : ∀ k ∈ fps.flatten, a.heap.size ≤ k) (hs : a.heap.size = b.heap.size) (hp : Pre A B) :
    RowsOwn V (b.ext ⟨B, d'⟩) css fps ds := h.frame fun k hk => tail_agree hs hp (lo k hk) (h.lt k hk)
theorem vSlice.ownRows {α : Type} {V : View α} {e : TypeId} {w : World} {b cap n : Nat} {blk : Array Value} {ds : List α} {css : List (List Value)} {fps : List (List Nat)}
    (h : w.heap[b]? = some (.cells blk e (0, 0))) (hl : n = ds.length) (hn : n ≤ cap) (hm : cap ≤ maxLen) (hs : blk.size = cap * V.k) (ht : blk.toList.take (n * V.k) = css.flatten) (hr : RowsOwn V w css fps ds) :
    (vSlice V e).own w (b :: fps.flatten) [.slice (some ⟨b, 0, none⟩) n cap] ds := by
  subst hl
  exact .inr ⟨b, cap, blk, css, fps, rfl, h, hn, hm, hs, ht, rfl, hr.cl, hr.fl, hr.el⟩
end Go
