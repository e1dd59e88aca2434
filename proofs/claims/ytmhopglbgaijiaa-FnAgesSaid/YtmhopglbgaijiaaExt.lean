/- Worlds that have only grown, written as a term: 'w.ext X'. What a call leaves that changes no old block. -/
import Derived.Test.YtmhopglbgaijiaaBase
namespace Go
open Go.RowKit

/-- what a call may add: new blocks, and the count of draws -/
structure Ext where
  bs : Array Obj
  dr : Nat
instance : Inhabited Ext := ⟨⟨#[], 0⟩⟩

def World.ext (w : World) (X : Ext) : World := { w with heap := w.heap ++ X.bs, drawn := X.dr }

/- sums of the walk: a block stands below every later heap size; two blocks differ -/
@[go_sem] theorem sum_lt0 (a  : Nat) : (a < a + 1) = True := eq_true (by omega)
@[go_sem] theorem sum_ne0 (a  : Nat) : (a = a + 1) = False := eq_false (by omega)
@[go_sem] theorem sum_en0 (a  : Nat) : (a + 1 = a) = False := eq_false (by omega)
@[go_sem] theorem sum_lt1 (a x0 : Nat) : (a < a + 1 + x0) = True := eq_true (by omega)
@[go_sem] theorem sum_ne1 (a x0 : Nat) : (a = a + 1 + x0) = False := eq_false (by omega)
@[go_sem] theorem sum_en1 (a x0 : Nat) : (a + 1 + x0 = a) = False := eq_false (by omega)
@[go_sem] theorem sum_le1 (a x0 : Nat) : (a ≤ a + x0) = True := eq_true (by omega)
@[go_sem] theorem sum_lt2 (a x0 x1 : Nat) : (a < a + 1 + x0 + x1) = True := eq_true (by omega)
@[go_sem] theorem sum_ne2 (a x0 x1 : Nat) : (a = a + 1 + x0 + x1) = False := eq_false (by omega)
@[go_sem] theorem sum_en2 (a x0 x1 : Nat) : (a + 1 + x0 + x1 = a) = False := eq_false (by omega)
@[go_sem] theorem sum_le2 (a x0 x1 : Nat) : (a ≤ a + x0 + x1) = True := eq_true (by omega)
@[go_sem] theorem sum_lt3 (a x0 x1 x2 : Nat) : (a < a + 1 + x0 + x1 + x2) = True := eq_true (by omega)
@[go_sem] theorem sum_ne3 (a x0 x1 x2 : Nat) : (a = a + 1 + x0 + x1 + x2) = False := eq_false (by omega)
@[go_sem] theorem sum_en3 (a x0 x1 x2 : Nat) : (a + 1 + x0 + x1 + x2 = a) = False := eq_false (by omega)
@[go_sem] theorem sum_le3 (a x0 x1 x2 : Nat) : (a ≤ a + x0 + x1 + x2) = True := eq_true (by omega)
@[go_sem] theorem sum_lt4 (a x0 x1 x2 x3 : Nat) : (a < a + 1 + x0 + x1 + x2 + x3) = True := eq_true (by omega)
@[go_sem] theorem sum_ne4 (a x0 x1 x2 x3 : Nat) : (a = a + 1 + x0 + x1 + x2 + x3) = False := eq_false (by omega)
@[go_sem] theorem sum_en4 (a x0 x1 x2 x3 : Nat) : (a + 1 + x0 + x1 + x2 + x3 = a) = False := eq_false (by omega)
@[go_sem] theorem sum_le4 (a x0 x1 x2 x3 : Nat) : (a ≤ a + x0 + x1 + x2 + x3) = True := eq_true (by omega)
@[go_sem] theorem sum_lt5 (a x0 x1 x2 x3 x4 : Nat) : (a < a + 1 + x0 + x1 + x2 + x3 + x4) = True := eq_true (by omega)
@[go_sem] theorem sum_ne5 (a x0 x1 x2 x3 x4 : Nat) : (a = a + 1 + x0 + x1 + x2 + x3 + x4) = False := eq_false (by omega)
@[go_sem] theorem sum_en5 (a x0 x1 x2 x3 x4 : Nat) : (a + 1 + x0 + x1 + x2 + x3 + x4 = a) = False := eq_false (by omega)
@[go_sem] theorem sum_le5 (a x0 x1 x2 x3 x4 : Nat) : (a ≤ a + x0 + x1 + x2 + x3 + x4) = True := eq_true (by omega)
@[go_sem] theorem sum_lt6 (a x0 x1 x2 x3 x4 x5 : Nat) : (a < a + 1 + x0 + x1 + x2 + x3 + x4 + x5) = True := eq_true (by omega)
@[go_sem] theorem sum_ne6 (a x0 x1 x2 x3 x4 x5 : Nat) : (a = a + 1 + x0 + x1 + x2 + x3 + x4 + x5) = False := eq_false (by omega)
@[go_sem] theorem sum_en6 (a x0 x1 x2 x3 x4 x5 : Nat) : (a + 1 + x0 + x1 + x2 + x3 + x4 + x5 = a) = False := eq_false (by omega)
@[go_sem] theorem sum_le6 (a x0 x1 x2 x3 x4 x5 : Nat) : (a ≤ a + x0 + x1 + x2 + x3 + x4 + x5) = True := eq_true (by omega)
@[go_sem] theorem sum_lt7 (a x0 x1 x2 x3 x4 x5 x6 : Nat) : (a < a + 1 + x0 + x1 + x2 + x3 + x4 + x5 + x6) = True := eq_true (by omega)
@[go_sem] theorem sum_ne7 (a x0 x1 x2 x3 x4 x5 x6 : Nat) : (a = a + 1 + x0 + x1 + x2 + x3 + x4 + x5 + x6) = False := eq_false (by omega)
@[go_sem] theorem sum_en7 (a x0 x1 x2 x3 x4 x5 x6 : Nat) : (a + 1 + x0 + x1 + x2 + x3 + x4 + x5 + x6 = a) = False := eq_false (by omega)
@[go_sem] theorem sum_le7 (a x0 x1 x2 x3 x4 x5 x6 : Nat) : (a ≤ a + x0 + x1 + x2 + x3 + x4 + x5 + x6) = True := eq_true (by omega)
@[go_sem] theorem sum_lt8 (a x0 x1 x2 x3 x4 x5 x6 x7 : Nat) : (a < a + 1 + x0 + x1 + x2 + x3 + x4 + x5 + x6 + x7) = True := eq_true (by omega)
@[go_sem] theorem sum_ne8 (a x0 x1 x2 x3 x4 x5 x6 x7 : Nat) : (a = a + 1 + x0 + x1 + x2 + x3 + x4 + x5 + x6 + x7) = False := eq_false (by omega)
@[go_sem] theorem sum_en8 (a x0 x1 x2 x3 x4 x5 x6 x7 : Nat) : (a + 1 + x0 + x1 + x2 + x3 + x4 + x5 + x6 + x7 = a) = False := eq_false (by omega)
@[go_sem] theorem sum_le8 (a x0 x1 x2 x3 x4 x5 x6 x7 : Nat) : (a ≤ a + x0 + x1 + x2 + x3 + x4 + x5 + x6 + x7) = True := eq_true (by omega)
@[go_sem] theorem sum_lt9 (a x0 x1 x2 x3 x4 x5 x6 x7 x8 : Nat) : (a < a + 1 + x0 + x1 + x2 + x3 + x4 + x5 + x6 + x7 + x8) = True := eq_true (by omega)
@[go_sem] theorem sum_ne9 (a x0 x1 x2 x3 x4 x5 x6 x7 x8 : Nat) : (a = a + 1 + x0 + x1 + x2 + x3 + x4 + x5 + x6 + x7 + x8) = False := eq_false (by omega)
@[go_sem] theorem sum_en9 (a x0 x1 x2 x3 x4 x5 x6 x7 x8 : Nat) : (a + 1 + x0 + x1 + x2 + x3 + x4 + x5 + x6 + x7 + x8 = a) = False := eq_false (by omega)
@[go_sem] theorem sum_le9 (a x0 x1 x2 x3 x4 x5 x6 x7 x8 : Nat) : (a ≤ a + x0 + x1 + x2 + x3 + x4 + x5 + x6 + x7 + x8) = True := eq_true (by omega)
@[go_sem] theorem sum_lt10 (a x0 x1 x2 x3 x4 x5 x6 x7 x8 x9 : Nat) : (a < a + 1 + x0 + x1 + x2 + x3 + x4 + x5 + x6 + x7 + x8 + x9) = True := eq_true (by omega)
@[go_sem] theorem sum_ne10 (a x0 x1 x2 x3 x4 x5 x6 x7 x8 x9 : Nat) : (a = a + 1 + x0 + x1 + x2 + x3 + x4 + x5 + x6 + x7 + x8 + x9) = False := eq_false (by omega)
@[go_sem] theorem sum_en10 (a x0 x1 x2 x3 x4 x5 x6 x7 x8 x9 : Nat) : (a + 1 + x0 + x1 + x2 + x3 + x4 + x5 + x6 + x7 + x8 + x9 = a) = False := eq_false (by omega)
@[go_sem] theorem sum_le10 (a x0 x1 x2 x3 x4 x5 x6 x7 x8 x9 : Nat) : (a ≤ a + x0 + x1 + x2 + x3 + x4 + x5 + x6 + x7 + x8 + x9) = True := eq_true (by omega)
@[go_sem] theorem sum_lt11 (a x0 x1 x2 x3 x4 x5 x6 x7 x8 x9 x10 : Nat) : (a < a + 1 + x0 + x1 + x2 + x3 + x4 + x5 + x6 + x7 + x8 + x9 + x10) = True := eq_true (by omega)
@[go_sem] theorem sum_ne11 (a x0 x1 x2 x3 x4 x5 x6 x7 x8 x9 x10 : Nat) : (a = a + 1 + x0 + x1 + x2 + x3 + x4 + x5 + x6 + x7 + x8 + x9 + x10) = False := eq_false (by omega)
@[go_sem] theorem sum_en11 (a x0 x1 x2 x3 x4 x5 x6 x7 x8 x9 x10 : Nat) : (a + 1 + x0 + x1 + x2 + x3 + x4 + x5 + x6 + x7 + x8 + x9 + x10 = a) = False := eq_false (by omega)
@[go_sem] theorem sum_le11 (a x0 x1 x2 x3 x4 x5 x6 x7 x8 x9 x10 : Nat) : (a ≤ a + x0 + x1 + x2 + x3 + x4 + x5 + x6 + x7 + x8 + x9 + x10) = True := eq_true (by omega)
@[go_sem] theorem sum_lt12 (a x0 x1 x2 x3 x4 x5 x6 x7 x8 x9 x10 x11 : Nat) : (a < a + 1 + x0 + x1 + x2 + x3 + x4 + x5 + x6 + x7 + x8 + x9 + x10 + x11) = True := eq_true (by omega)
@[go_sem] theorem sum_ne12 (a x0 x1 x2 x3 x4 x5 x6 x7 x8 x9 x10 x11 : Nat) : (a = a + 1 + x0 + x1 + x2 + x3 + x4 + x5 + x6 + x7 + x8 + x9 + x10 + x11) = False := eq_false (by omega)
@[go_sem] theorem sum_en12 (a x0 x1 x2 x3 x4 x5 x6 x7 x8 x9 x10 x11 : Nat) : (a + 1 + x0 + x1 + x2 + x3 + x4 + x5 + x6 + x7 + x8 + x9 + x10 + x11 = a) = False := eq_false (by omega)
@[go_sem] theorem sum_le12 (a x0 x1 x2 x3 x4 x5 x6 x7 x8 x9 x10 x11 : Nat) : (a ≤ a + x0 + x1 + x2 + x3 + x4 + x5 + x6 + x7 + x8 + x9 + x10 + x11) = True := eq_true (by omega)

@[go_sem] theorem World.ext_size (w : World) (X : Ext) : (w.ext X).heap.size = w.heap.size + X.bs.size := by
  show (w.heap ++ X.bs).size = _
  simp
theorem World.ext_nil (w : World) (d : Nat) (h : d = w.drawn) : w.ext ⟨#[], d⟩ = w := by subst h; unfold World.ext; simp
theorem World.ext_size_le (w : World) (X : Ext) : w.heap.size ≤ (w.ext X).heap.size := by rw [World.ext_size]; omega

theorem World.ext_get (w : World) (X : Ext) {b : Nat} (h : b < w.heap.size) : (w.ext X).heap[b]? = w.heap[b]? := by
  show (w.heap ++ X.bs)[b]? = _
  rw [Array.getElem?_append_left h]

@[go_sem] theorem World.cell?_ext (w : World) (X : Ext) (b o : Nat) (h : b < w.heap.size) : (w.ext X).cell? ⟨b, o, none⟩ = w.cell? ⟨b, o, none⟩ :=
  World.cell?_of_block (w := w) (w.ext_get X h)
@[go_sem] theorem World.frozen?_ext (w : World) (X : Ext) (b o : Nat) (h : b < w.heap.size) : (w.ext X).frozen? ⟨b, o, none⟩ = w.frozen? ⟨b, o, none⟩ :=
  World.frozen?_of_block (w := w) (w.ext_get X h)
@[go_sem] theorem World.drew_ext (w : World) (X : Ext) : (w.ext X).drew = w.ext ⟨X.bs, X.dr + 1⟩ := rfl
@[go_sem] theorem World.ext_drew (w : World) (X : Ext) : w.drew.ext X = w.ext X := rfl
@[go_sem] theorem World.ext_ext (w : World) (X Y : Ext) : (w.ext X).ext Y = w.ext ⟨X.bs ++ Y.bs, Y.dr⟩ := by unfold World.ext; simp only [Array.append_assoc]
@[go_sem] theorem World.setCell_ext (w : World) (X : Ext) (b o : Nat) (v : Value) (h : b < w.heap.size) : (w.ext X).setCell ⟨b, o, none⟩ v = (w.setCell ⟨b, o, none⟩ v).ext X := by
  have e : ∀ f : Obj → Obj, (w.heap ++ X.bs).modify b f = w.heap.modify b f ++ X.bs := by
    intro f
    apply Array.ext_getElem?
    intro i
    rw [Array.getElem?_modify]
    rcases Nat.lt_or_ge i w.heap.size with hi | hi
    · rw [Array.getElem?_append_left hi, Array.getElem?_append_left (by simpa using hi), Array.getElem?_modify]
    · rw [Array.getElem?_append_right hi, Array.getElem?_append_right (by simpa using hi), if_neg (by omega)]
      simp
  simp only [World.setCell, World.ext, e]

/-- block p anew -/
def World.setB (w : World) (p : Nat) (o : Obj) : World := { w with heap := w.heap.setIfInBounds p o }
@[go_sem] theorem World.setB_size (w : World) (p : Nat) (o : Obj) : (w.setB p o).heap.size = w.heap.size := by simp [World.setB]
theorem World.setB_get (w : World) (p : Nat) (o : Obj) (b : Nat) (h : b ≠ p) : (w.setB p o).heap[b]? = w.heap[b]? := by
  show (w.heap.setIfInBounds p o)[b]? = _
  rw [Array.getElem?_setIfInBounds_ne (Ne.symm h)]
theorem World.setB_at (w : World) (p : Nat) (o : Obj) (h : p < w.heap.size) : (w.setB p o).heap[p]? = some o := by
  show (w.heap.setIfInBounds p o)[p]? = _
  simp [h]
@[go_sem] theorem World.setB_ext (w : World) (X : Ext) (p : Nat) (o : Obj) (h : p < w.heap.size) : (w.ext X).setB p o = (w.setB p o).ext X := by
  unfold World.ext World.setB
  simp only [Array.setIfInBounds_append_left h]
@[go_sem] theorem World.setB_alloc_at (w : World) (p : Nat) (o o' : Obj) (h : p = w.heap.size) : (w.alloc o).setB p o' = w.alloc o' := by
  subst h
  have e : (w.heap.push o).setIfInBounds w.heap.size o' = w.heap.push o' := by
    apply Array.ext_getElem?
    intro i
    rw [Array.getElem?_setIfInBounds, Array.getElem?_push, Array.getElem?_push]
    by_cases h : w.heap.size = i
    · subst h; simp
    · rw [if_neg h]; simp [Ne.symm h]
  show ({ w with heap := (w.heap.push o).setIfInBounds w.heap.size o' } : World) = { w with heap := w.heap.push o' }
  rw [e]
@[go_sem] theorem World.setB_alloc_past (w : World) (p : Nat) (o o' : Obj) (h : p < w.heap.size) : (w.alloc o).setB p o' = (w.setB p o').alloc o := by
  have e : (w.heap.push o).setIfInBounds p o' = (w.heap.setIfInBounds p o').push o := by
    apply Array.ext_getElem?
    intro i
    rw [Array.getElem?_setIfInBounds, Array.getElem?_push, Array.getElem?_push, Array.getElem?_setIfInBounds, Array.size_setIfInBounds]
    by_cases h1 : p = i
    · subst h1; simp [Nat.ne_of_lt h, h, Nat.lt_succ_of_lt h]
    · rw [if_neg h1, if_neg h1]
  show ({ w with heap := (w.heap.push o).setIfInBounds p o' } : World) = { w with heap := (w.heap.setIfInBounds p o').push o }
  rw [e]
@[go_sem] theorem World.setB_setB (w : World) (p : Nat) (o o' : Obj) : (w.setB p o).setB p o' = w.setB p o' := by
  unfold World.setB
  simp
@[go_sem] theorem World.setB_drew (w : World) (p : Nat) (o : Obj) : w.drew.setB p o = (w.setB p o).drew := rfl
@[go_sem] theorem World.cell?_setB_ne (w : World) (p : Nat) (o : Obj) (b i : Nat) (h : b ≠ p) : (w.setB p o).cell? ⟨b, i, none⟩ = w.cell? ⟨b, i, none⟩ :=
  World.cell?_of_block (w := w) (w.setB_get p o b h)
@[go_sem] theorem World.frozen?_setB_ne (w : World) (p : Nat) (o : Obj) (b i : Nat) (h : b ≠ p) : (w.setB p o).frozen? ⟨b, i, none⟩ = w.frozen? ⟨b, i, none⟩ :=
  World.frozen?_of_block (w := w) (w.setB_get p o b h)

@[go_sem] theorem World.cell?_setB_at (w : World) (p i : Nat) (cs : Array Value) (t : TypeId) (f : Nat × Nat) (h : p < w.heap.size) : (w.setB p (.cells cs t f)).cell? ⟨p, i, none⟩ = cs[i]? := by
  simp [World.cell?, World.setB_at w p _ h]
@[go_sem] theorem World.frozen?_setB_at (w : World) (p i : Nat) (cs : Array Value) (t : TypeId) (h : p < w.heap.size) : (w.setB p (.cells cs t (0, 0))).frozen? ⟨p, i, none⟩ = false := by
  simp [World.frozen?, World.setB_at w p _ h]
@[go_sem] theorem World.setCell_setB_at (w : World) (p i : Nat) (v : Value) (cs : Array Value) (t : TypeId) (f : Nat × Nat) (h : p < w.heap.size) :
    (w.setB p (.cells cs t f)).setCell ⟨p, i, none⟩ v = w.setB p (.cells (cs.setIfInBounds i v) t f) := by
  have e : (w.heap.setIfInBounds p (.cells cs t f)).modify p (fun | .cells c e fr => .cells (c.setIfInBounds i v) e fr | o => o) = w.heap.setIfInBounds p (.cells (cs.setIfInBounds i v) t f) := by
    apply Array.ext_getElem?
    intro k
    rw [Array.getElem?_modify, Array.getElem?_setIfInBounds, Array.getElem?_setIfInBounds]
    by_cases h1 : p = k
    · subst h1; simp [h]
    · simp [h1]
  unfold World.setCell World.setB
  dsimp only
  rw [← e]
  rfl
@[go_sem] theorem World.setCell_setB_ne (w : World) (p b i : Nat) (v : Value) (o : Obj) (h : b ≠ p) :
    (w.setB p o).setCell ⟨b, i, none⟩ v = (w.setCell ⟨b, i, none⟩ v).setB p o := by
  have e : ∀ f : Obj → Obj, (w.heap.setIfInBounds p o).modify b f = (w.heap.modify b f).setIfInBounds p o := fun f => by
    apply Array.ext_getElem?
    intro k
    rw [Array.getElem?_modify, Array.getElem?_setIfInBounds, Array.getElem?_setIfInBounds, Array.getElem?_modify, Array.size_modify]
    by_cases h1 : p = k
    · subst h1; simp [h]
    · simp [h1]
  unfold World.setCell World.setB
  dsimp only
  rw [← e]
theorem World.setB_self {w : World} {p : Nat} {o : Obj} (h : w.heap[p]? = some o) : w.setB p o = w := by
  have e : w.heap.setIfInBounds p o = w.heap := by
    apply Array.ext_getElem?
    intro k
    rw [Array.getElem?_setIfInBounds]
    by_cases h1 : p = k
    · subst h1
      have := (Array.getElem?_eq_some_iff.1 h).1
      rw [if_pos rfl, if_pos this, h]
    · rw [if_neg h1]
  unfold World.setB
  rw [e]
theorem World.at_block {P : Program} {f : FuncId} {args : Array Value} {w : World} {p : Nat} {o : Obj} {R : Ending → World → Prop} (h : w.heap[p]? = some o) (H : Calls P f args (w.setB p o) R) : Calls P f args w R := by
  rw [World.setB_self h] at H
  exact H
theorem Code.at_block {P : Program} {c : Code} {Q : Exit → Act → World → Prop} {a : Act} {w : World} {p : Nat} {o : Obj} (h : w.heap[p]? = some o) (H : c.wp P Q a (w.setB p o)) : c.wp P Q a w := by
  rw [World.setB_self h] at H
  exact H
theorem World.lt_of_get {w : World} {p : Nat} {o : Obj} (h : w.heap[p]? = some o) : p < w.heap.size := (Array.getElem?_eq_some_iff.1 h).1

theorem RowKit.Below.ext {w w' : World} (h : Below w.heap.size w w') : ∃ X, w' = w.ext X := by
  refine ⟨⟨w'.heap.extract w.heap.size w'.heap.size, w'.drawn⟩, ?_⟩
  have hh : w'.heap = w.heap ++ w'.heap.extract w.heap.size w'.heap.size := by
    apply Array.ext_getElem?
    intro i
    rcases Nat.lt_or_ge i w.heap.size with hi | hi
    · rw [Array.getElem?_append_left hi, h.block i hi]
    · rw [Array.getElem?_append_right hi, Array.getElem?_extract]
      have := h.size
      by_cases h2 : i < w'.heap.size
      · rw [if_pos (by omega)]
        congr 1
        omega
      · rw [if_neg (by omega)]
        simp; omega
  obtain ⟨h1, h2, h3, h4, h5⟩ := h
  cases w'; cases w
  simp only [World.ext] at *
  subst h1 h2 h3
  congr

namespace RowKit
theorem Below.ofExt {a w : World} (h : Below a.heap.size a w) (X : Ext) : Below a.heap.size a (w.ext X) :=
  h.trans ⟨rfl, rfl, rfl, w.ext_size_le X, fun _ hk => w.ext_get X (Nat.lt_of_lt_of_le hk h.size)⟩
theorem Below.ofAlloc {a w : World} (h : Below a.heap.size a w) (o : Obj) : Below a.heap.size a (w.alloc o) := h.alloc h.size o
theorem Below.then {a w w' : World} (h : Below a.heap.size a w) (h' : Below w.heap.size w w') : Below a.heap.size a w' := h.trans (h'.mono h.size)
end RowKit
end Go
namespace Go.Proofs.Ytmhopglbgaijiaa
theorem ret_int {k : IntKind} {a b : Int} (h : a = b) : Ending.returned (.int k a) = .returned (.int k b) := by rw [h]
theorem ret_bool {a b : Bool} (h : a = b) : Ending.returned (.bool a) = .returned (.bool b) := by rw [h]
theorem ret_str {a b : ByteArray} (h : a = b) : Ending.returned (.string a) = .returned (.string b) := by rw [h]
theorem beq_str (a b : ByteArray) : (a.toList == b.toList) = decide (a = b) := by
  rw [Bool.eq_iff_iff, beq_iff_eq, decide_eq_true_eq, ByteArray.toList_eq, ByteArray.toList_eq]
  constructor
  · intro h; cases a; cases b; simp_all
  · rintro rfl; rfl
theorem take_snoc (s : ByteArray) (k : Nat) (h : k < s.size) : s.data.toList.take (k + 1) = s.data.toList.take k ++ [s[k]] := by
  rw [List.take_succ_eq_append_getElem (by simpa using h)]; rfl
end Go.Proofs.Ytmhopglbgaijiaa
