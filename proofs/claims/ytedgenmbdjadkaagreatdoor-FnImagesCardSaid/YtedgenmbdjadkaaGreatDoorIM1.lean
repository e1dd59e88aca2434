/- Texts of this claim, merged: the laws of the walks and what they stand on. Each condition stands in its theorem. -/
import Derived.Test.YtedgenmbdjadkaaGreatDoorRows
import Derived.WalkKit
import Derived.ProofKit
import Derived.OpenShut
import Derived.WalkLawsBesides
import Derived.WalkSpells
import Derived.OrdersHeld
import Derived.Deep.QuietTactic
import Derived.BigQuiet
import Derived.Lib.Hide
import Derived.Laws.IdiomStrings
import Derived.Lib.SliceRun
set_option linter.unusedVariables false
set_option linter.unusedSimpArgs false
namespace Go.Proofs.YtedgenmbdjadkaaGreatDoor
open Go.ChangeShapes Go.WideShapes Go.ChangeAt Go.RowKit

theorem Tryz.own : ownKnob Tryz.prog.godebug = none := by kernel_rfl
theorem Tryz.laidOut : laidOutB Tryz.prog = true := by kernel_rfl

/-- What a law's walk gives. -/
def Yes (W : World) : Ending → World → Prop := fun e W' => e = .returned (.bool true) ∧ Below W.heap.size W W'

theorem trodAll_stays {H : Type} {enc : TypeId × Value → H} {P : Program} (hl : laidOutB P = true) {W W' : World} (hb : Below W.heap.size W W') :
    ∀ (ts : List TypeId) (vs : List Value) (ds : List (DataW H)) (ps : List MemPlace), (∀ t ∈ ts, P.readableRec t = true ∧ t < P.types.size) →
      (∀ x ∈ ps, x.block < W.heap.size) → DataW.TrodAll enc P W 0 (fun _ => true) true ts vs ds ps →
      DataW.TrodAll enc P W' 0 (fun b => decide (b < W.heap.size)) true ts vs ds ps
  | [], [], [], _, _, _, h => h
  | t :: ts, v :: vs, d :: ds, _, hr, hlt, ⟨p, q, h1, h2, e⟩ => by
    subst e
    exact ⟨p, q, Below.trod hl (hr t (by simp)).1 (hr t (by simp)).2 h1 hb (fun x hx => hlt x (by simp [hx])),
      trodAll_stays hl hb ts vs ds q (fun t ht => hr t (by simp [ht])) (fun x hx => hlt x (by simp [hx])) h2, rfl⟩
  | [], _ :: _, _, _, _, _, h => h.elim
  | [], [], _ :: _, _, _, _, h => h.elim
  | _ :: _, [], _, _, _, _, h => h.elim
  | _ :: _, _ :: _, [], _, _, _, h => h.elim

theorem law_post {H : Type} {enc : TypeId × Value → H} {P : Program} (hl : laidOutB P = true) {f : Func} {s : ChangeSpec} {W W' : World} {args : Array Value} {ds gs : List (DataW H)} {before : List MemPlace}
    (hW : DataW.Whole enc P f.params.toList s.vars false W args.toList ds gs before) (hv : s.vars = [])
    (hr : ∀ t ∈ f.params.toList, P.readableRec t = true ∧ t < P.types.size)
    (hres : DataW.TrodAll enc P W' W.heap.size (fun _ => false) false f.resultTypes.toList ((Value.bool true).resultList f.resultTypes.size) (s.fn H (ds ++ gs)).results [])
    (hargs : (s.fn H (ds ++ gs)).args = ds) (hvars : (s.fn H (ds ++ gs)).vars = []) (hb : Below W.heap.size W W') :
    s.post enc P f false true false false W args (.bool true) W' := by
  have hW' := hW
  obtain ⟨p, q, hA, hV, hpq, _, _⟩ := hW'
  rw [hv] at hV
  have hq : gs = [] ∧ q = [] := by
    cases gs with
    | nil => exact ⟨rfl, hV⟩
    | cons g gs => exact hV.elim
  obtain ⟨rfl, rfl⟩ := hq
  simp only [List.append_nil] at hpq
  subst hpq
  refine ⟨ds, [], before, [], before, [], hW, hres, ?_, ?_, hb.frame _, fun h => by cases h⟩
  · rw [hargs]
    exact trodAll_stays hl hb _ _ _ _ hr (fun x hx => hW.lt x hx) hA
  · rw [hv, hvars]
    rfl
end Go.Proofs.YtedgenmbdjadkaaGreatDoor
namespace Go
open Go.RowKit

/-- what a call may add: new blocks, and the count of draws -/
structure Ext where
  bs : Array Obj
  dr : Nat
instance : Inhabited Ext := ⟨⟨#[], 0⟩⟩

def World.ext (w : World) (X : Ext) : World := { w with heap := w.heap ++ X.bs, drawn := X.dr }

/- sums of the walk: a block stands below every later heap size; two blocks differ -/
@[go_sem] theorem sum_lt0 (a  : Nat) : (a < a + 1) = True := eq_true (by omega)
@[go_sem] theorem sum_ne0 (a  : Nat) : (a = a + 1) = False := eq_false (by omega)
@[go_sem] theorem sum_en0 (a  : Nat) : (a + 1 = a) = False := eq_false (by omega)
@[go_sem] theorem sum_lt1 (a x0 : Nat) : (a < a + 1 + x0) = True := eq_true (by omega)
@[go_sem] theorem sum_ne1 (a x0 : Nat) : (a = a + 1 + x0) = False := eq_false (by omega)
@[go_sem] theorem sum_en1 (a x0 : Nat) : (a + 1 + x0 = a) = False := eq_false (by omega)
@[go_sem] theorem sum_le1 (a x0 : Nat) : (a ≤ a + x0) = True := eq_true (by omega)
@[go_sem] theorem sum_lt2 (a x0 x1 : Nat) : (a < a + 1 + x0 + x1) = True := eq_true (by omega)
@[go_sem] theorem sum_ne2 (a x0 x1 : Nat) : (a = a + 1 + x0 + x1) = False := eq_false (by omega)
@[go_sem] theorem sum_en2 (a x0 x1 : Nat) : (a + 1 + x0 + x1 = a) = False := eq_false (by omega)
@[go_sem] theorem sum_le2 (a x0 x1 : Nat) : (a ≤ a + x0 + x1) = True := eq_true (by omega)
@[go_sem] theorem sum_lt3 (a x0 x1 x2 : Nat) : (a < a + 1 + x0 + x1 + x2) = True := eq_true (by omega)
@[go_sem] theorem sum_ne3 (a x0 x1 x2 : Nat) : (a = a + 1 + x0 + x1 + x2) = False := eq_false (by omega)
@[go_sem] theorem sum_en3 (a x0 x1 x2 : Nat) : (a + 1 + x0 + x1 + x2 = a) = False := eq_false (by omega)
@[go_sem] theorem sum_le3 (a x0 x1 x2 : Nat) : (a ≤ a + x0 + x1 + x2) = True := eq_true (by omega)
@[go_sem] theorem sum_lt4 (a x0 x1 x2 x3 : Nat) : (a < a + 1 + x0 + x1 + x2 + x3) = True := eq_true (by omega)
@[go_sem] theorem sum_ne4 (a x0 x1 x2 x3 : Nat) : (a = a + 1 + x0 + x1 + x2 + x3) = False := eq_false (by omega)
@[go_sem] theorem sum_en4 (a x0 x1 x2 x3 : Nat) : (a + 1 + x0 + x1 + x2 + x3 = a) = False := eq_false (by omega)
@[go_sem] theorem sum_le4 (a x0 x1 x2 x3 : Nat) : (a ≤ a + x0 + x1 + x2 + x3) = True := eq_true (by omega)
@[go_sem] theorem sum_lt5 (a x0 x1 x2 x3 x4 : Nat) : (a < a + 1 + x0 + x1 + x2 + x3 + x4) = True := eq_true (by omega)
@[go_sem] theorem sum_ne5 (a x0 x1 x2 x3 x4 : Nat) : (a = a + 1 + x0 + x1 + x2 + x3 + x4) = False := eq_false (by omega)
@[go_sem] theorem sum_en5 (a x0 x1 x2 x3 x4 : Nat) : (a + 1 + x0 + x1 + x2 + x3 + x4 = a) = False := eq_false (by omega)
@[go_sem] theorem sum_le5 (a x0 x1 x2 x3 x4 : Nat) : (a ≤ a + x0 + x1 + x2 + x3 + x4) = True := eq_true (by omega)
@[go_sem] theorem sum_lt6 (a x0 x1 x2 x3 x4 x5 : Nat) : (a < a + 1 + x0 + x1 + x2 + x3 + x4 + x5) = True := eq_true (by omega)
@[go_sem] theorem sum_ne6 (a x0 x1 x2 x3 x4 x5 : Nat) : (a = a + 1 + x0 + x1 + x2 + x3 + x4 + x5) = False := eq_false (by omega)
@[go_sem] theorem sum_en6 (a x0 x1 x2 x3 x4 x5 : Nat) : (a + 1 + x0 + x1 + x2 + x3 + x4 + x5 = a) = False := eq_false (by omega)
@[go_sem] theorem sum_le6 (a x0 x1 x2 x3 x4 x5 : Nat) : (a ≤ a + x0 + x1 + x2 + x3 + x4 + x5) = True := eq_true (by omega)
@[go_sem] theorem sum_lt7 (a x0 x1 x2 x3 x4 x5 x6 : Nat) : (a < a + 1 + x0 + x1 + x2 + x3 + x4 + x5 + x6) = True := eq_true (by omega)
@[go_sem] theorem sum_ne7 (a x0 x1 x2 x3 x4 x5 x6 : Nat) : (a = a + 1 + x0 + x1 + x2 + x3 + x4 + x5 + x6) = False := eq_false (by omega)
@[go_sem] theorem sum_en7 (a x0 x1 x2 x3 x4 x5 x6 : Nat) : (a + 1 + x0 + x1 + x2 + x3 + x4 + x5 + x6 = a) = False := eq_false (by omega)
@[go_sem] theorem sum_le7 (a x0 x1 x2 x3 x4 x5 x6 : Nat) : (a ≤ a + x0 + x1 + x2 + x3 + x4 + x5 + x6) = True := eq_true (by omega)
@[go_sem] theorem sum_lt8 (a x0 x1 x2 x3 x4 x5 x6 x7 : Nat) : (a < a + 1 + x0 + x1 + x2 + x3 + x4 + x5 + x6 + x7) = True := eq_true (by omega)
@[go_sem] theorem sum_ne8 (a x0 x1 x2 x3 x4 x5 x6 x7 : Nat) : (a = a + 1 + x0 + x1 + x2 + x3 + x4 + x5 + x6 + x7) = False := eq_false (by omega)
@[go_sem] theorem sum_en8 (a x0 x1 x2 x3 x4 x5 x6 x7 : Nat) : (a + 1 + x0 + x1 + x2 + x3 + x4 + x5 + x6 + x7 = a) = False := eq_false (by omega)
@[go_sem] theorem sum_le8 (a x0 x1 x2 x3 x4 x5 x6 x7 : Nat) : (a ≤ a + x0 + x1 + x2 + x3 + x4 + x5 + x6 + x7) = True := eq_true (by omega)
@[go_sem] theorem sum_lt9 (a x0 x1 x2 x3 x4 x5 x6 x7 x8 : Nat) : (a < a + 1 + x0 + x1 + x2 + x3 + x4 + x5 + x6 + x7 + x8) = True := eq_true (by omega)
@[go_sem] theorem sum_ne9 (a x0 x1 x2 x3 x4 x5 x6 x7 x8 : Nat) : (a = a + 1 + x0 + x1 + x2 + x3 + x4 + x5 + x6 + x7 + x8) = False := eq_false (by omega)
@[go_sem] theorem sum_en9 (a x0 x1 x2 x3 x4 x5 x6 x7 x8 : Nat) : (a + 1 + x0 + x1 + x2 + x3 + x4 + x5 + x6 + x7 + x8 = a) = False := eq_false (by omega)
@[go_sem] theorem sum_le9 (a x0 x1 x2 x3 x4 x5 x6 x7 x8 : Nat) : (a ≤ a + x0 + x1 + x2 + x3 + x4 + x5 + x6 + x7 + x8) = True := eq_true (by omega)
@[go_sem] theorem sum_lt10 (a x0 x1 x2 x3 x4 x5 x6 x7 x8 x9 : Nat) : (a < a + 1 + x0 + x1 + x2 + x3 + x4 + x5 + x6 + x7 + x8 + x9) = True := eq_true (by omega)
@[go_sem] theorem sum_ne10 (a x0 x1 x2 x3 x4 x5 x6 x7 x8 x9 : Nat) : (a = a + 1 + x0 + x1 + x2 + x3 + x4 + x5 + x6 + x7 + x8 + x9) = False := eq_false (by omega)
@[go_sem] theorem sum_en10 (a x0 x1 x2 x3 x4 x5 x6 x7 x8 x9 : Nat) : (a + 1 + x0 + x1 + x2 + x3 + x4 + x5 + x6 + x7 + x8 + x9 = a) = False := eq_false (by omega)
@[go_sem] theorem sum_le10 (a x0 x1 x2 x3 x4 x5 x6 x7 x8 x9 : Nat) : (a ≤ a + x0 + x1 + x2 + x3 + x4 + x5 + x6 + x7 + x8 + x9) = True := eq_true (by omega)
@[go_sem] theorem sum_lt11 (a x0 x1 x2 x3 x4 x5 x6 x7 x8 x9 x10 : Nat) : (a < a + 1 + x0 + x1 + x2 + x3 + x4 + x5 + x6 + x7 + x8 + x9 + x10) = True := eq_true (by omega)
@[go_sem] theorem sum_ne11 (a x0 x1 x2 x3 x4 x5 x6 x7 x8 x9 x10 : Nat) : (a = a + 1 + x0 + x1 + x2 + x3 + x4 + x5 + x6 + x7 + x8 + x9 + x10) = False := eq_false (by omega)
@[go_sem] theorem sum_en11 (a x0 x1 x2 x3 x4 x5 x6 x7 x8 x9 x10 : Nat) : (a + 1 + x0 + x1 + x2 + x3 + x4 + x5 + x6 + x7 + x8 + x9 + x10 = a) = False := eq_false (by omega)
@[go_sem] theorem sum_le11 (a x0 x1 x2 x3 x4 x5 x6 x7 x8 x9 x10 : Nat) : (a ≤ a + x0 + x1 + x2 + x3 + x4 + x5 + x6 + x7 + x8 + x9 + x10) = True := eq_true (by omega)
@[go_sem] theorem sum_lt12 (a x0 x1 x2 x3 x4 x5 x6 x7 x8 x9 x10 x11 : Nat) : (a < a + 1 + x0 + x1 + x2 + x3 + x4 + x5 + x6 + x7 + x8 + x9 + x10 + x11) = True := eq_true (by omega)
@[go_sem] theorem sum_ne12 (a x0 x1 x2 x3 x4 x5 x6 x7 x8 x9 x10 x11 : Nat) : (a = a + 1 + x0 + x1 + x2 + x3 + x4 + x5 + x6 + x7 + x8 + x9 + x10 + x11) = False := eq_false (by omega)
@[go_sem] theorem sum_en12 (a x0 x1 x2 x3 x4 x5 x6 x7 x8 x9 x10 x11 : Nat) : (a + 1 + x0 + x1 + x2 + x3 + x4 + x5 + x6 + x7 + x8 + x9 + x10 + x11 = a) = False := eq_false (by omega)
@[go_sem] theorem sum_le12 (a x0 x1 x2 x3 x4 x5 x6 x7 x8 x9 x10 x11 : Nat) : (a ≤ a + x0 + x1 + x2 + x3 + x4 + x5 + x6 + x7 + x8 + x9 + x10 + x11) = True := eq_true (by omega)

@[go_sem] theorem World.ext_size (w : World) (X : Ext) : (w.ext X).heap.size = w.heap.size + X.bs.size := by
  show (w.heap ++ X.bs).size = _
  simp
theorem World.ext_nil (w : World) (d : Nat) (h : d = w.drawn) : w.ext ⟨#[], d⟩ = w := by subst h; unfold World.ext; simp
theorem World.ext_size_le (w : World) (X : Ext) : w.heap.size ≤ (w.ext X).heap.size := by rw [World.ext_size]; omega

theorem World.ext_get (w : World) (X : Ext) {b : Nat} (h : b < w.heap.size) : (w.ext X).heap[b]? = w.heap[b]? := by
  show (w.heap ++ X.bs)[b]? = _
  rw [Array.getElem?_append_left h]

@[go_sem] theorem World.cell?_ext (w : World) (X : Ext) (b o : Nat) (h : b < w.heap.size) : (w.ext X).cell? ⟨b, o, none⟩ = w.cell? ⟨b, o, none⟩ :=
  World.cell?_of_block (w := w) (w.ext_get X h)
@[go_sem] theorem World.frozen?_ext (w : World) (X : Ext) (b o : Nat) (h : b < w.heap.size) : (w.ext X).frozen? ⟨b, o, none⟩ = w.frozen? ⟨b, o, none⟩ :=
  World.frozen?_of_block (w := w) (w.ext_get X h)
@[go_sem] theorem World.drew_ext (w : World) (X : Ext) : (w.ext X).drew = w.ext ⟨X.bs, X.dr + 1⟩ := rfl
@[go_sem] theorem World.ext_drew (w : World) (X : Ext) : w.drew.ext X = w.ext X := rfl
@[go_sem] theorem World.ext_ext (w : World) (X Y : Ext) : (w.ext X).ext Y = w.ext ⟨X.bs ++ Y.bs, Y.dr⟩ := by unfold World.ext; simp only [Array.append_assoc]
@[go_sem] theorem World.setCell_ext (w : World) (X : Ext) (b o : Nat) (v : Value) (h : b < w.heap.size) : (w.ext X).setCell ⟨b, o, none⟩ v = (w.setCell ⟨b, o, none⟩ v).ext X := by
  have e : ∀ f : Obj → Obj, (w.heap ++ X.bs).modify b f = w.heap.modify b f ++ X.bs := by
    intro f
    apply Array.ext_getElem?
    intro i
    rw [Array.getElem?_modify]
    rcases Nat.lt_or_ge i w.heap.size with hi | hi
    · rw [Array.getElem?_append_left hi, Array.getElem?_append_left (by simpa using hi), Array.getElem?_modify]
    · rw [Array.getElem?_append_right hi, Array.getElem?_append_right (by simpa using hi), if_neg (by omega)]
      simp
  simp only [World.setCell, World.ext, e]

/-- block p anew -/
def World.setB (w : World) (p : Nat) (o : Obj) : World := { w with heap := w.heap.setIfInBounds p o }
@[go_sem] theorem World.setB_size (w : World) (p : Nat) (o : Obj) : (w.setB p o).heap.size = w.heap.size := by simp [World.setB]
theorem World.setB_get (w : World) (p : Nat) (o : Obj) (b : Nat) (h : b ≠ p) : (w.setB p o).heap[b]? = w.heap[b]? := by
  show (w.heap.setIfInBounds p o)[b]? = _
  rw [Array.getElem?_setIfInBounds_ne (Ne.symm h)]
theorem World.setB_at (w : World) (p : Nat) (o : Obj) (h : p < w.heap.size) : (w.setB p o).heap[p]? = some o := by
  show (w.heap.setIfInBounds p o)[p]? = _
  simp [h]
@[go_sem] theorem World.setB_ext (w : World) (X : Ext) (p : Nat) (o : Obj) (h : p < w.heap.size) : (w.ext X).setB p o = (w.setB p o).ext X := by
  unfold World.ext World.setB
  simp only [Array.setIfInBounds_append_left h]
@[go_sem] theorem World.setB_alloc_at (w : World) (p : Nat) (o o' : Obj) (h : p = w.heap.size) : (w.alloc o).setB p o' = w.alloc o' := by
  subst h
  have e : (w.heap.push o).setIfInBounds w.heap.size o' = w.heap.push o' := by
    apply Array.ext_getElem?
    intro i
    rw [Array.getElem?_setIfInBounds, Array.getElem?_push, Array.getElem?_push]
    by_cases h : w.heap.size = i
    · subst h; simp
    · rw [if_neg h]; simp [Ne.symm h]
  show ({ w with heap := (w.heap.push o).setIfInBounds w.heap.size o' } : World) = { w with heap := w.heap.push o' }
  rw [e]
@[go_sem] theorem World.setB_alloc_past (w : World) (p : Nat) (o o' : Obj) (h : p < w.heap.size) : (w.alloc o).setB p o' = (w.setB p o').alloc o := by
  have e : (w.heap.push o).setIfInBounds p o' = (w.heap.setIfInBounds p o').push o := by
    apply Array.ext_getElem?
    intro i
    rw [Array.getElem?_setIfInBounds, Array.getElem?_push, Array.getElem?_push, Array.getElem?_setIfInBounds, Array.size_setIfInBounds]
    by_cases h1 : p = i
    · subst h1; simp [Nat.ne_of_lt h, h, Nat.lt_succ_of_lt h]
    · rw [if_neg h1, if_neg h1]
  show ({ w with heap := (w.heap.push o).setIfInBounds p o' } : World) = { w with heap := (w.heap.setIfInBounds p o').push o }
  rw [e]
@[go_sem] theorem World.setB_setB (w : World) (p : Nat) (o o' : Obj) : (w.setB p o).setB p o' = w.setB p o' := by
  unfold World.setB
  simp
@[go_sem] theorem World.setB_drew (w : World) (p : Nat) (o : Obj) : w.drew.setB p o = (w.setB p o).drew := rfl
@[go_sem] theorem World.cell?_setB_ne (w : World) (p : Nat) (o : Obj) (b i : Nat) (h : b ≠ p) : (w.setB p o).cell? ⟨b, i, none⟩ = w.cell? ⟨b, i, none⟩ :=
  World.cell?_of_block (w := w) (w.setB_get p o b h)
@[go_sem] theorem World.frozen?_setB_ne (w : World) (p : Nat) (o : Obj) (b i : Nat) (h : b ≠ p) : (w.setB p o).frozen? ⟨b, i, none⟩ = w.frozen? ⟨b, i, none⟩ :=
  World.frozen?_of_block (w := w) (w.setB_get p o b h)

@[go_sem] theorem World.cell?_setB_at (w : World) (p i : Nat) (cs : Array Value) (t : TypeId) (f : Nat × Nat) (h : p < w.heap.size) : (w.setB p (.cells cs t f)).cell? ⟨p, i, none⟩ = cs[i]? := by
  simp [World.cell?, World.setB_at w p _ h]
@[go_sem] theorem World.frozen?_setB_at (w : World) (p i : Nat) (cs : Array Value) (t : TypeId) (h : p < w.heap.size) : (w.setB p (.cells cs t (0, 0))).frozen? ⟨p, i, none⟩ = false := by
  simp [World.frozen?, World.setB_at w p _ h]
@[go_sem] theorem World.setCell_setB_at (w : World) (p i : Nat) (v : Value) (cs : Array Value) (t : TypeId) (f : Nat × Nat) (h : p < w.heap.size) :
    (w.setB p (.cells cs t f)).setCell ⟨p, i, none⟩ v = w.setB p (.cells (cs.setIfInBounds i v) t f) := by
  have e : (w.heap.setIfInBounds p (.cells cs t f)).modify p (fun | .cells c e fr => .cells (c.setIfInBounds i v) e fr | o => o) = w.heap.setIfInBounds p (.cells (cs.setIfInBounds i v) t f) := by
    apply Array.ext_getElem?
    intro k
    rw [Array.getElem?_modify, Array.getElem?_setIfInBounds, Array.getElem?_setIfInBounds]
    by_cases h1 : p = k
    · subst h1; simp [h]
    · simp [h1]
  unfold World.setCell World.setB
  dsimp only
  rw [← e]
  rfl
@[go_sem] theorem World.setCell_setB_ne (w : World) (p b i : Nat) (v : Value) (o : Obj) (h : b ≠ p) :
    (w.setB p o).setCell ⟨b, i, none⟩ v = (w.setCell ⟨b, i, none⟩ v).setB p o := by
  have e : ∀ f : Obj → Obj, (w.heap.setIfInBounds p o).modify b f = (w.heap.modify b f).setIfInBounds p o := fun f => by
    apply Array.ext_getElem?
    intro k
    rw [Array.getElem?_modify, Array.getElem?_setIfInBounds, Array.getElem?_setIfInBounds, Array.getElem?_modify, Array.size_modify]
    by_cases h1 : p = k
    · subst h1; simp [h]
    · simp [h1]
  unfold World.setCell World.setB
  dsimp only
  rw [← e]
theorem World.setB_self {w : World} {p : Nat} {o : Obj} (h : w.heap[p]? = some o) : w.setB p o = w := by
  have e : w.heap.setIfInBounds p o = w.heap := by
    apply Array.ext_getElem?
    intro k
    rw [Array.getElem?_setIfInBounds]
    by_cases h1 : p = k
    · subst h1
      have := (Array.getElem?_eq_some_iff.1 h).1
      rw [if_pos rfl, if_pos this, h]
    · rw [if_neg h1]
  unfold World.setB
  rw [e]
theorem World.at_block {P : Program} {f : FuncId} {args : Array Value} {w : World} {p : Nat} {o : Obj} {R : Ending → World → Prop} (h : w.heap[p]? = some o) (H : Calls P f args (w.setB p o) R) : Calls P f args w R := by
  rw [World.setB_self h] at H
  exact H
theorem Code.at_block {P : Program} {c : Code} {Q : Exit → Act → World → Prop} {a : Act} {w : World} {p : Nat} {o : Obj} (h : w.heap[p]? = some o) (H : c.wp P Q a (w.setB p o)) : c.wp P Q a w := by
  rw [World.setB_self h] at H
  exact H
theorem World.lt_of_get {w : World} {p : Nat} {o : Obj} (h : w.heap[p]? = some o) : p < w.heap.size := (Array.getElem?_eq_some_iff.1 h).1

theorem RowKit.Below.ext {w w' : World} (h : Below w.heap.size w w') : ∃ X, w' = w.ext X := by
  refine ⟨⟨w'.heap.extract w.heap.size w'.heap.size, w'.drawn⟩, ?_⟩
  have hh : w'.heap = w.heap ++ w'.heap.extract w.heap.size w'.heap.size := by
    apply Array.ext_getElem?
    intro i
    rcases Nat.lt_or_ge i w.heap.size with hi | hi
    · rw [Array.getElem?_append_left hi, h.block i hi]
    · rw [Array.getElem?_append_right hi, Array.getElem?_extract]
      have := h.size
      by_cases h2 : i < w'.heap.size
      · rw [if_pos (by omega)]
        congr 1
        omega
      · rw [if_neg (by omega)]
        simp; omega
  obtain ⟨h1, h2, h3, h4, h5⟩ := h
  cases w'; cases w
  simp only [World.ext] at *
  subst h1 h2 h3
  congr

namespace RowKit
theorem Below.ofExt {a w : World} (h : Below a.heap.size a w) (X : Ext) : Below a.heap.size a (w.ext X) :=
  h.trans ⟨rfl, rfl, rfl, w.ext_size_le X, fun _ hk => w.ext_get X (Nat.lt_of_lt_of_le hk h.size)⟩
theorem Below.ofAlloc {a w : World} (h : Below a.heap.size a w) (o : Obj) : Below a.heap.size a (w.alloc o) := h.alloc h.size o
theorem Below.then {a w w' : World} (h : Below a.heap.size a w) (h' : Below w.heap.size w w') : Below a.heap.size a w' := h.trans (h'.mono h.size)
end RowKit
end Go
namespace Go.Proofs.YtedgenmbdjadkaaGreatDoor
theorem ret_int {k : IntKind} {a b : Int} (h : a = b) : Ending.returned (.int k a) = .returned (.int k b) := by rw [h]
theorem ret_bool {a b : Bool} (h : a = b) : Ending.returned (.bool a) = .returned (.bool b) := by rw [h]
theorem ret_str {a b : ByteArray} (h : a = b) : Ending.returned (.string a) = .returned (.string b) := by rw [h]
theorem beq_str (a b : ByteArray) : (a.toList == b.toList) = decide (a = b) := by
  rw [Bool.eq_iff_iff, beq_iff_eq, decide_eq_true_eq, ByteArray.toList_eq, ByteArray.toList_eq]
  constructor
  · intro h; cases a; cases b; simp_all
  · rintro rfl; rfl
theorem take_snoc (s : ByteArray) (k : Nat) (h : k < s.size) : s.data.toList.take (k + 1) = s.data.toList.take k ++ [s[k]] := by
  rw [List.take_succ_eq_append_getElem (by simpa using h)]; rfl
end Go.Proofs.YtedgenmbdjadkaaGreatDoor
namespace Go
open Go.RowKit

/-- slice value v has n elements; its cells (all elements' cells in a row) are cs -/
def Sl (w : World) (v : Value) (n : Nat) (cs : List Value) : Prop :=
  (v = .slice none 0 0 ∧ n = 0 ∧ cs = []) ∨
  ∃ b off cap, v = .slice (some ⟨b, off, none⟩) n cap ∧ n ≤ cap ∧ cap ≤ maxLen ∧ ∀ j u, cs[j]? = some u → w.cell? ⟨b, off + j, none⟩ = some u

theorem Sl.ext {w : World} {v : Value} {n : Nat} {cs : List Value} (h : Sl w v n cs) (X : Ext) : Sl (w.ext X) v n cs := by
  rcases h with h | ⟨b, off, cap, hv, h1, h2, h3⟩
  · exact .inl h
  · refine .inr ⟨b, off, cap, hv, h1, h2, fun j u hj => ?_⟩
    have hc := h3 j u hj
    rw [World.cell?_ext w X b (off + j) (World.block_lt_of_cell? w ⟨b, off + j, none⟩ hc)]
    exact hc

theorem Sl.alloc {w : World} {v : Value} {n : Nat} {cs : List Value} (h : Sl w v n cs) (o : Obj) : Sl (w.alloc o) v n cs := by
  rcases h with h | ⟨b, off, cap, hv, h1, h2, h3⟩
  · exact .inl h
  · refine .inr ⟨b, off, cap, hv, h1, h2, fun j u hj => ?_⟩
    have hc := h3 j u hj
    rw [World.cell?_alloc_past o b (off + j) (World.block_lt_of_cell? w ⟨b, off + j, none⟩ hc)]
    exact hc

theorem Sl.drew {w : World} {v : Value} {n : Nat} {cs : List Value} (h : Sl w v n cs) : Sl w.drew v n cs := h

theorem Sl.setB {w : World} {v : Value} {n : Nat} {cs : List Value} (h : Sl w v n cs) {p : Nat} (hp : v.ownBlock ≠ some p) (o : Obj) : Sl (w.setB p o) v n cs := by
  rcases h with h | ⟨b, off, cap, hv, h1, h2, h3⟩
  · exact .inl h
  · refine .inr ⟨b, off, cap, hv, h1, h2, fun j u hj => ?_⟩
    subst hv
    rw [World.cell?_setB_ne w p o b (off + j) (fun e => hp (by simp [Value.ownBlock, e]))]
    exact h3 j u hj

/-- the value's block is an old one -/
theorem Sl.lt {w : World} {v : Value} {n : Nat} {cs : List Value} (h : Sl w v n cs) (hc : cs ≠ []) : ∀ b, v.ownBlock = some b → b < w.heap.size := by
  intro b hb
  rcases h with ⟨rfl, _, _⟩ | ⟨b', off, cap, rfl, h1, h2, h3⟩
  · simp [Value.ownBlock] at hb
  · simp only [Value.ownBlock, Option.some.injEq] at hb
    subst hb
    cases cs with
    | nil => exact absurd rfl hc
    | cons u r => exact World.block_lt_of_cell? w ⟨b', off + 0, none⟩ (h3 0 u rfl)

/-- a block known whole -/
theorem Sl.of_block {w : World} {b n : Nat} {cs : List Value} {t : TypeId} {f : Nat × Nat} (h : w.heap[b]? = some (.cells cs.toArray t f)) (hm : n ≤ maxLen) : Sl w (.slice (some ⟨b, 0, none⟩) n n) n cs := by
  refine .inr ⟨b, 0, n, rfl, Nat.le_refl _, hm, fun j u hj => ?_⟩
  simp only [World.cell?, h, Nat.zero_add]
  simpa using hj

theorem Sl.below {w w' : World} {v : Value} {n : Nat} {cs : List Value} (h : Sl w v n cs) (hb : Below w.heap.size w w') : Sl w' v n cs := by
  obtain ⟨X, rfl⟩ := hb.ext
  exact h.ext X

/-- the shape of a slice value, nil or not -/
theorem Sl.shape {w : World} {v : Value} {n : Nat} {cs : List Value} (h : Sl w v n cs) : ∃ ao cap, v = .slice ao n cap ∧ n ≤ cap ∧ cap ≤ maxLen ∧ (ao = none → cap = 0 ∧ n = 0) ∧
    (0 < n → ∃ b off, ao = some ⟨b, off, none⟩ ∧ ∀ j u, cs[j]? = some u → w.cell? ⟨b, off + j, none⟩ = some u) := by
  rcases h with ⟨rfl, rfl, rfl⟩ | ⟨b, off, cap, rfl, h1, h2, h3⟩
  · exact ⟨none, 0, rfl, Nat.le_refl _, Nat.zero_le _, fun _ => ⟨rfl, rfl⟩, fun h => absurd h (by omega)⟩
  · exact ⟨some ⟨b, off, none⟩, cap, rfl, h1, h2, (fun h => by cases h), fun _ => ⟨b, off, rfl, h3⟩⟩

def bytesOf (l : List UInt8) : List Value := l.map fun c => .int .u8 c.toNat
end Go
namespace Go

/-- the worlds that come of w by growth alone -/
def Sx (w0 : World) (w : World) : Prop := ∃ X, w = w0.ext X
theorem Sx.drew (w : World) : Sx w w.drew := ⟨⟨#[], w.drawn + 1⟩, by show World.drew w = World.ext w _; unfold World.drew World.ext; simp only [Array.append_empty]⟩
theorem Sx.ext {w0 w : World} (h : Sx w0 w) (X : Ext) : Sx w0 (w.ext X) := by
  obtain ⟨Y, rfl⟩ := h
  exact ⟨⟨Y.bs ++ X.bs, X.dr⟩, by unfold World.ext; simp only [Array.append_assoc]⟩
theorem Sx.alloc {w0 w : World} (h : Sx w0 w) (o : Obj) : Sx w0 (w.alloc o) := by
  obtain ⟨Y, rfl⟩ := h
  exact ⟨⟨Y.bs.push o, Y.dr⟩, by unfold World.ext World.alloc; simp only [Array.append_push]⟩
theorem Sx.merge (w : World) (Y : Ext) (bs : Array Obj) (d : Nat) : Sx (w.ext Y) (w.ext ⟨Y.bs ++ bs, d⟩) := ⟨⟨bs, d⟩, by rw [World.ext_ext]⟩
theorem Sx.more {w0 w : World} {xs bs : Array Obj} {d : Nat} (h : Sx w0 (w.ext ⟨xs, 0⟩)) : Sx w0 (w.ext ⟨xs ++ bs, d⟩) := by
  have := h.ext ⟨bs, d⟩
  rwa [World.ext_ext] at this
theorem Sx.same (w : World) (xs : Array Obj) (d0 d1 : Nat) : Sx (w.ext ⟨xs, d0⟩) (w.ext ⟨xs, d1⟩) := ⟨⟨#[], d1⟩, by rw [World.ext_ext]; simp⟩
theorem Sx.draw {w0 w : World} (h : Sx w0 w) : Sx w0 w.drew := by
  obtain ⟨Y, rfl⟩ := h
  exact ⟨⟨Y.bs, Y.dr + 1⟩, rfl⟩

section
variable {P : Program} {ops : Array Oper} {Q : Exit → Act → World → Prop} {S : World → Prop} {n : Nat}

/-- what an operation leaves: its value, and the world as it was; a call that only reads among them -/
def RetQ (P : Program) (w : World) (v : Value) : Result Next → Prop
  | .ok (.value u) w' => u = v ∧ w' = w
  | .ok (.enter f args) w' => w' = w ∧ Calls P f args w fun e w'' => e = .returned v ∧ w'' = w
  | _ => False
theorem RetQ_enter (P : Program) (w w' : World) (v : Value) (f : FuncId) (args : Array Value) : RetQ P w v (.ok (.enter f args) w') = (w' = w ∧ Calls P f args w fun e w'' => e = .returned v ∧ w'' = w) := rfl
theorem RetQ_value (P : Program) (w w' : World) (v u : Value) : RetQ P w v (.ok (.value u) w') = (u = v ∧ w' = w) := rfl
attribute [go_sem] RetQ_enter RetQ_value
/-- in every world of S the operation leaves v and the world as it was -/
def YieldsQ (P : Program) (ops : Array Oper) (S : World → Prop) (o : Oper) (v : Value) (a : Act) : Prop :=
  (Region.wanted o (yielded ops a.tmps) = true ∧ ∀ w, S w → RetQ P w v ((execOp a.eval o).run P w)) ∨
  (Region.wanted o (yielded ops a.tmps) = false ∧ v = undef)
theorem YieldsQ.wpOp {i : Nat} {o : Oper} {v : Value} {a : Act} (hi : ops[i]? = some o) (hy : YieldsQ P ops S o v a)
    {K : Act → World → Prop} {w : World} (hS : S w) (h : K (a.put o.dst v) w) : wpOp P ops Q i K a w := by
  unfold Go.wpOp
  simp only [hi]
  rcases hy with ⟨hw, hv⟩ | ⟨hw, rfl⟩
  · simp only [hw, if_true]
    refine .inl ?_
    have hv := hv w hS
    unfold Oper.wp
    generalize (execOp a.eval o).run P w = r at hv
    cases r with
    | ok n w' =>
      cases n with
      | value u => simp only [RetQ] at hv; obtain ⟨rfl, rfl⟩ := hv; exact h
      | enter f args =>
        simp only [RetQ] at hv
        obtain ⟨rfl, hv⟩ := hv
        refine Calls.mono hv fun e w'' he => ?_
        obtain ⟨rfl, rfl⟩ := he
        exact h
      | _ => exact hv.elim
    | halt x w' => exact hv.elim
  · simp only [hw, Bool.false_eq_true, if_false]; exact h
theorem YieldsQ.of_same {o : Oper} {v : Value} {a a' : Act} (hy : YieldsQ P ops S o v a) (he : execOp a'.eval o = execOp a.eval o)
    (hw : Region.wanted o (yielded ops a'.tmps) = Region.wanted o (yielded ops a.tmps)) : YieldsQ P ops S o v a' := by
  unfold YieldsQ at *
  rw [he, hw]
  exact hy
theorem wpOp_putQ {j : Nat} {oi oj : Oper} {v : Value} (hj : ops[j]? = some oj) (hap : oi.apart ops oj = true)
    (hsi : ∀ cs b, oi.op ≠ .select cs b) (hsj : ∀ cs b, oj.op ≠ .select cs b)
    (hQ : ∀ c a w, Q (.panic c) (a.put oi.dst v) w → Q (.panic c) a w) {K : Act → World → Prop} {a : Act} {w : World}
    (hy : YieldsQ P ops S oi v a) (h : wpOp P ops Q j K (a.put oi.dst v) w) :
    wpOp P ops Q j (fun a' w' => YieldsQ P ops S oi v a' ∧ K (a'.put oi.dst v) w') a w := by
  obtain ⟨h1, h2, h3⟩ := Oper.apart_spec hap
  have keep : ∀ (a : Act), YieldsQ P ops S oi v a → ∀ u, YieldsQ P ops S oi v (a.put oj.dst u) := fun a hy u =>
    hy.of_same (execOp_put oi hsi a oj.dst u h3) (wanted_put oi a oj.dst u h3)
  have keepD : ∀ d, YieldsQ P ops S oi v { a with defers := d :: a.defers } := fun d => hy.of_same rfl rfl
  unfold wpOp at *
  simp only [hj] at *
  rw [wanted_put oj a oi.dst v h1] at h
  split
  · rename_i hw
    simp only [hw, if_true] at h
    rcases h with h | ⟨hasks, hlets⟩
    case inr => exact .inr ⟨by unfold Oper.asks at *; rw [execOp_put oj hsj a oi.dst v h1] at hasks; exact hasks, hlets⟩
    refine .inl ?_
    unfold Oper.wp at *
    rw [execOp_put oj hsj a oi.dst v h1] at h
    generalize (execOp a.eval oj).run P w = r at *
    cases r with
    | ok n w' =>
      cases n <;> simp only [Oper.upon] at h ⊢
      case value u => exact ⟨keep a hy u, by rw [← Act.put_comm a v u h2]; exact h⟩
      case skip => exact ⟨keep a hy _, by rw [← Act.put_comm a v undef h2]; exact h⟩
      case defer d =>
        refine ⟨keep _ (keepD d) _, ?_⟩
        rw [← Act.put_comm _ v undef h2, ← Act.put_defers]
        exact h
      case enter f args =>
        refine Calls.mono h fun e w'' he => ?_
        cases e with
        | returned u => exact ⟨keep a hy u, by rw [← Act.put_comm a v u h2]; exact he⟩
        | panicked c => exact hQ _ _ _ he
        | outgrown => exact he
      case row row args => exact Rows.mono h fun u w'' he => ⟨keep a hy u, by rw [← Act.put_comm a v u h2]; exact he⟩
    | halt x w' =>
      cases x <;> simp only [Oper.upon] at h ⊢
      case panic u => exact hQ _ _ _ h
  · rename_i hw
    simp only [hw] at h
    exact ⟨keep a hy _, by rw [← Act.put_comm a v undef h2]; exact h⟩

/-- whatever order is picked, and S holds behind each operation below n -/
def wpAnyB (P : Program) (ops : Array Oper) (Q : Exit → Act → World → Prop) (S : World → Prop) (n : Nat) : Nat → Array Bool → Act → World → Prop
  | 0, listed, a, w => Region.ready .any ops listed = [] ∧ Q .normal a w
  | fuel + 1, listed, a, w =>
    (Region.ready .any ops listed = [] → Q .normal a w) ∧
    ∀ i ∈ Region.ready .any ops listed, wpOp P ops Q i (fun a' w' => (i < n → S w') ∧ wpAnyB P ops Q S n fuel (listed.setIfInBounds i true) a' w') a w

theorem wpAny_of_B : ∀ (fuel : Nat) (listed : Array Bool) (a : Act) (w : World), wpAnyB P ops Q S n fuel listed a w → wpAny P .any ops Q fuel listed a w
  | 0, _, _, _, h => h
  | fuel + 1, _, _, _, h => ⟨h.1, fun i hi => wpOp_mono (fun a' w' h' => wpAny_of_B fuel _ a' w' h'.2) (h.2 i hi)⟩

/-- all from n on wait for i -/
def tailWaits (ops : Array Oper) (n i : Nat) : Bool :=
  (List.range ops.size).all fun j => decide (j < n) || match ops[j]? with
    | some o => o.after.any fun e => Region.binds .any e && e.on == i
    | none => true

theorem tailWaits_spec {i j : Nat} {o : Oper} (h : tailWaits ops n i = true) (hj : ops[j]? = some o) (hn : n ≤ j) : ∃ e ∈ o.after, Region.binds .any e = true ∧ e.on = i := by
  have hlt : j < ops.size := (Array.getElem?_eq_some_iff.1 hj).1
  have h1 := List.all_eq_true.1 h j (List.mem_range.2 hlt)
  simp only [hj, Bool.or_eq_true, decide_eq_true_eq] at h1
  rcases h1 with h1 | h1
  · omega
  · obtain ⟨e, he, hb⟩ := Array.any_eq_true'.1 h1
    simp only [Bool.and_eq_true, beq_iff_eq] at hb
    exact ⟨e, he, hb.1, hb.2⟩

theorem unlisted_not {listed : Array Bool} {i : Nat} (h0 : listed.getD i true = false) (h1 : listed.getD i false = true) : False := by
  rcases Nat.lt_or_ge i listed.size with h' | h'
  · simp [h'] at h0 h1; rw [h0] at h1; cases h1
  · simp [Array.getElem?_eq_none h'] at h1

theorem wpAnyB_first {i : Nat} {oi : Oper} {v : Value} (hi : ops[i]? = some oi) (hs : Region.noSelect ops = true)
    (hQ : ∀ c a w, Q (.panic c) (a.put oi.dst v) w → Q (.panic c) a w) (ht : tailWaits ops n i = true) :
    ∀ (fuel : Nat) (listed : Array Bool) (a : Act) (w : World),
      (∀ j oj, ops[j]? = some oj → j ≠ i → listed.getD j true = false → (∀ e ∈ oj.after, Region.binds .any e = true → e.on ≠ i) → oi.apart ops oj = true) →
      i ∈ Region.ready .any ops listed → YieldsQ P ops S oi v a → S w →
      wpAnyB P ops Q S n fuel (listed.setIfInBounds i true) (a.put oi.dst v) w → wpAnyB P ops Q S n (fuel + 1) listed a w := by
  have hsel := Region.noSelect_spec hs
  intro fuel
  induction fuel with
  | zero =>
    intro listed a w _ hr hy hS H
    refine ⟨fun h => (by rw [h] at hr; cases hr), fun j hj => ?_⟩
    by_cases hji : j = i
    · subst hji; exact hy.wpOp hi hS ⟨fun _ => hS, H⟩
    · have := ready_mono hj hji
      rw [H.1] at this
      cases this
  | succ fuel ih =>
    intro listed a w hfree hr hy hS H
    refine ⟨fun h => (by rw [h] at hr; cases hr), fun j hj => ?_⟩
    by_cases hji : j = i
    · subst hji; exact hy.wpOp hi hS ⟨fun _ => hS, H⟩
    · have h1 := H.2 j (ready_mono hj hji)
      obtain ⟨hjun, oj, hoj, hall⟩ := mem_ready.1 hj
      have hnot : ∀ e ∈ oj.after, Region.binds .any e = true → e.on ≠ i := fun e he hb heq =>
        unlisted_not (mem_ready.1 hr).1 (heq ▸ hall e he hb)
      have hjn : j < n := by
        rcases Nat.lt_or_ge j n with h | h
        · exact h
        · obtain ⟨e, he, hb, hon⟩ := tailWaits_spec ht hoj h
          exact absurd hon (hnot e he hb)
      have h2 := wpOp_putQ hoj (hfree j oj hoj hji hjun hnot) (fun cs b => hsel i oi cs b hi) (fun cs b => hsel j oj cs b hoj) hQ hy h1
      have hfree' : ∀ k ok, ops[k]? = some ok → k ≠ i → (listed.setIfInBounds j true).getD k true = false →
          (∀ e ∈ ok.after, Region.binds .any e = true → e.on ≠ i) → oi.apart ops ok = true := fun k ok hk hki hun hno => by
        refine hfree k ok hk hki ?_ hno
        by_cases hjk : j = k
        · subst hjk; exact hjun
        · rw [getD_set_ne true hjk] at hun; exact hun
      refine wpOp_mono (fun a' w' h3 => ⟨fun _ => h3.2.1 hjn, ih (listed.setIfInBounds j true) a' w' hfree' (ready_mono hr (Ne.symm hji)) h3.1 (h3.2.1 hjn) ?_⟩) h2
      rw [Array.setIfInBounds_comm _ _ hji]
      exact h3.2.2

/-- the worlds of a class, each named -/
def Sf {ι : Type} (F : ι → World) (w : World) : Prop := ∃ x, w = F x
/-- one value in every world of the class, the world as it was -/
def Oper.quietV {ι : Type} (P : Program) (o : Oper) (a : Act) (F : ι → World) (next : Act → Prop) : Prop :=
  ∃ v, (∀ x, (execOp a.eval o).run P (F x) = .ok (.value v) (F x)) ∧ next (a.put o.dst v)
attribute [go_sem] Oper.quietV
/-- the same, a call that only reads among them -/
def Oper.quietX {ι : Type} (P : Program) (o : Oper) (a : Act) (F : ι → World) (next : Act → Prop) : Prop :=
  ∃ v, (∀ x, RetQ P (F x) v ((execOp a.eval o).run P (F x))) ∧ next (a.put o.dst v)
attribute [go_sem] Oper.quietX

/-- the one walk: (i, true): taken first; (i, false): comes up alone -/
def wpOrd {ι : Type} (P : Program) (ops : Array Oper) (Q : Exit → Act → World → Prop) (F : ι → World) (n : Nat) : List (Nat × Bool) → Act → World → Prop
  | [], a, w => Q .normal a w
  | (i, true) :: r, a, w => match ops[i]? with
    | none => False
    | some o => if Region.wanted o (yielded ops a.tmps) then o.quietX P a F (fun a' => wpOrd P ops Q F n r a' w) else wpOrd P ops Q F n r (a.put o.dst undef) w
  | (i, false) :: r, a, w => match ops[i]? with
    | none => False
    | some o => if Region.wanted o (yielded ops a.tmps) then o.wp P a w (fun a' w' => (i < n → Sf F w') ∧ wpOrd P ops Q F n r a' w') Q else wpOrd P ops Q F n r (a.put o.dst undef) w

def ordOk (ops : Array Oper) (n : Nat) : List (Nat × Bool) → Array Bool → Bool
  | [], listed => (Region.ready .any ops listed).isEmpty
  | (i, true) :: r, listed => decide (i < n) && (Region.ready .any ops listed).contains i && Region.free .any ops listed i && tailWaits ops n i && ordOk ops n r (listed.setIfInBounds i true)
  | (i, false) :: r, listed => (decide (i < n) || r.all fun x => decide (n ≤ x.1)) && (match Region.ready .any ops listed with | [j] => j == i | _ => false) && ordOk ops n r (listed.setIfInBounds i true)

theorem wpAnyB_of_ord {ι : Type} {F : ι → World} (hs : Region.noSelect ops = true) (hQ : ∀ c (a : Act) (d : Option Tmp) (v : Value) w, Q (.panic c) (a.put d v) w → Q (.panic c) a w) :
    ∀ (ord : List (Nat × Bool)) (listed : Array Bool) (a : Act) (w : World), ordOk ops n ord listed = true → ((∃ x ∈ ord, x.1 < n) → Sf F w) → wpOrd P ops Q F n ord a w →
      wpAnyB P ops Q (Sf F) n ord.length listed a w
  | [], listed, a, w, hok, _, h => by
    simp only [ordOk, List.isEmpty_iff] at hok
    exact ⟨hok, h⟩
  | (i, true) :: r, listed, a, w, hok, hS, h => by
    simp only [ordOk, Bool.and_eq_true, decide_eq_true_eq] at hok
    obtain ⟨⟨⟨⟨hin, hr⟩, hf⟩, ht⟩, hok⟩ := hok
    have hw := hS ⟨(i, true), by simp, hin⟩
    simp only [wpOrd] at h
    cases ho : ops[i]? with
    | none => simp [ho] at h
    | some o =>
      simp only [ho] at h
      have again := fun a' h' => wpAnyB_of_ord hs hQ r (listed.setIfInBounds i true) a' w hok (fun _ => hw) h'
      by_cases hwt : Region.wanted o (yielded ops a.tmps) = true
      · simp only [hwt, if_true] at h
        obtain ⟨v, hv, hk⟩ := h
        exact wpAnyB_first ho hs (fun c a w => hQ c a _ _ w) ht _ listed a w (Region.free_spec ho hf) (by simpa using hr)
          (Or.inl ⟨hwt, fun w' hw' => by obtain ⟨X, rfl⟩ := hw'; exact hv X⟩) hw (again _ hk)
      · have hwt' : Region.wanted o (yielded ops a.tmps) = false := by simpa using hwt
        simp only [hwt', Bool.false_eq_true, if_false] at h
        exact wpAnyB_first ho hs (fun c a w => hQ c a _ _ w) ht _ listed a w (Region.free_spec ho hf) (by simpa using hr)
          (Or.inr ⟨hwt', rfl⟩) hw (again _ h)
  | (i, false) :: r, listed, a, w, hok, hS, h => by
    simp only [ordOk, Bool.and_eq_true, Bool.or_eq_true, decide_eq_true_eq] at hok
    obtain ⟨⟨hin, hr⟩, hok⟩ := hok
    have hr' : Region.ready .any ops listed = [i] := by
      split at hr
      · rename_i j hj; rw [hj]; simp at hr; rw [hr]
      · cases hr
    refine ⟨fun h0 => (by rw [h0] at hr'; cases hr'), fun j hj => ?_⟩
    rw [hr', List.mem_singleton] at hj
    subst hj
    simp only [wpOrd] at h
    cases ho : ops[j]? with
    | none => simp [ho] at h
    | some o =>
      simp only [ho] at h
      unfold wpOp
      simp only [ho]
      have again := fun (a' : Act) (w' : World) (hw' : (∃ x ∈ r, x.1 < n) → Sf F w') h' => wpAnyB_of_ord (F := F) hs hQ r (listed.setIfInBounds j true) a' w' hok hw' h'
      have later : (∃ x ∈ r, x.1 < n) → j < n := fun ⟨x, hx, hxn⟩ => by
        rcases hin with h1 | h1
        · exact h1
        · have := List.all_eq_true.1 h1 x hx
          simp only [decide_eq_true_eq] at this
          omega
      by_cases hwt : Region.wanted o (yielded ops a.tmps) = true
      · simp only [hwt, if_true] at h ⊢
        exact Or.inl (Oper.wp_mono (fun a' w' h' => ⟨h'.1, again a' w' (fun hx => h'.1 (later hx)) h'.2⟩) h)
      · have hwt' : Region.wanted o (yielded ops a.tmps) = false := by simpa using hwt
        simp only [hwt', Bool.false_eq_true, if_false] at h ⊢
        exact ⟨fun hj => hS ⟨(j, false), by simp, hj⟩, again _ _ (fun hx => hS ⟨(j, false), by simp, later hx⟩) h⟩

/-- no way out by panic -/
def NoPan (Q : Exit → Act → World → Prop) : Exit → Act → World → Prop
  | .panic _, _, _ => False
  | e, a, w => Q e a w

theorem wp_region_ordF {ι : Type} (F : ι → World) {id : Nat} {l : List Oper} {a : Act} {w : World} (ord : List (Nat × Bool)) (n : Nat) (hm : P.follows .mixedOrders = true)
    (hok : (ordOk l.toArray n ord (Array.replicate l.toArray.size false) && Region.noSelect l.toArray && ord.length == l.toArray.size) = true)
    (h0 : Sf F w.drew) (h : wpOrd P l.toArray (NoPan Q) F n ord a w.drew) : (Code.region id l.toArray true).wp P Q a w := by
  simp only [Bool.and_eq_true, beq_iff_eq] at hok
  have h1 : (Code.region id l.toArray true).wp P (NoPan Q) a w := by
    refine wp_region_any hm ?_
    rw [← hok.2]
    exact wpAny_of_B _ _ _ _ (wpAnyB_of_ord hok.1.2 (fun _ _ _ _ _ h => h) ord _ a _ (hok.2 ▸ hok.1.1) (fun _ => h0) h)
  exact Code.wp_mono (fun e a w h => by cases e <;> first | exact h | exact h.elim) h1

theorem wp_region_ord {id : Nat} {l : List Oper} {a : Act} {w : World} (ord : List (Nat × Bool)) (n : Nat) (hm : P.follows .mixedOrders = true)
    (hok : (ordOk l.toArray n ord (Array.replicate l.toArray.size false) && Region.noSelect l.toArray && ord.length == l.toArray.size) = true)
    (h : wpOrd P l.toArray (NoPan Q) (fun X => w.ext X) n ord a w.drew) : (Code.region id l.toArray true).wp P Q a w := wp_region_ordF (fun X => w.ext X) ord n hm hok (Sx.drew w) h

section
variable {ι : Type} {F : ι → World} {r : List (Nat × Bool)} {a : Act} {w : World} {o : Oper} {i : Nat}
theorem wpOrd_at_block {ι : Type} {P : Program} {ops : Array Oper} {Q : Exit → Act → World → Prop} {F : ι → World} {n : Nat} {r : List (Nat × Bool)} {a : Act} {w : World} {p : Nat} {o : Obj} (h : w.heap[p]? = some o) (H : wpOrd P ops Q F n r a (w.setB p o)) : wpOrd P ops Q F n r a w := by
  rw [World.setB_self h] at H
  exact H
theorem wpOrd_nil (h : Q .normal a w) : wpOrd P ops (NoPan Q) F n [] a w := h
/-- an operation that only reads -/
theorem wpOrd_quiet (ho : ops[i]? = some o)
    (h : ∀ K : Act → Prop, (∀ a, wpOrd P ops Q F n r a w → K a) → if Region.wanted o (yielded ops a.tmps) then o.quietV P a F K else K (a.put o.dst undef)) :
    wpOrd P ops Q F n ((i, true) :: r) a w := by
  simp only [wpOrd, ho]
  have := h _ (fun _ h => h)
  by_cases hwt : Region.wanted o (yielded ops a.tmps) = true
  · simp only [hwt, if_true] at this ⊢
    obtain ⟨v, h1, h2⟩ := this
    exact ⟨v, fun x => by rw [h1 x]; exact ⟨rfl, rfl⟩, h2⟩
  · simp only [hwt, Bool.false_eq_true, if_false] at this ⊢
    exact this
/-- a call that only reads -/
theorem wpOrd_look (ho : ops[i]? = some o)
    (h : ∀ K : Act → Prop, (∀ a, wpOrd P ops Q F n r a w → K a) → if Region.wanted o (yielded ops a.tmps) then o.quietX P a F K else K (a.put o.dst undef)) :
    wpOrd P ops Q F n ((i, true) :: r) a w := by
  simp only [wpOrd, ho]
  exact h _ (fun _ h => h)
/-- a call, an allocation -/
theorem wpOrd_grow (ho : ops[i]? = some o)
    (h : ∀ K : Act → World → Prop, (∀ a w, Sf F w → wpOrd P ops Q F n r a w → K a w) → if Region.wanted o (yielded ops a.tmps) then o.wp P a w K Q else K (a.put o.dst undef) w) : wpOrd P ops Q F n ((i, false) :: r) a w := by
  simp only [wpOrd, ho]
  have := h (fun a w => Sf F w ∧ wpOrd P ops Q F n r a w) (fun _ _ h1 h2 => ⟨h1, h2⟩)
  by_cases hwt : Region.wanted o (yielded ops a.tmps) = true
  · simp only [hwt, if_true] at this ⊢
    exact Oper.wp_mono (fun a' w' h' => ⟨fun _ => h'.1, h'.2⟩) this
  · simp only [hwt, Bool.false_eq_true, if_false] at this ⊢
    exact this.2
/-- an operation of the tail -/
theorem wpOrd_tail (ho : ops[i]? = some o) (hi : decide (n ≤ i) = true)
    (h : ∀ K : Act → World → Prop, (∀ a w, wpOrd P ops Q F n r a w → K a w) → if Region.wanted o (yielded ops a.tmps) then o.wp P a w K Q else K (a.put o.dst undef) w) :
    wpOrd P ops Q F n ((i, false) :: r) a w := by
  simp only [wpOrd, ho]
  simp only [decide_eq_true_eq] at hi
  have := h (fun a w => wpOrd P ops Q F n r a w) (fun _ _ h1 => h1)
  by_cases hwt : Region.wanted o (yielded ops a.tmps) = true
  · simp only [hwt, if_true] at this ⊢
    exact Oper.wp_mono (fun a' w' h' => ⟨fun h0 => by omega, h'⟩) this
  · simp only [hwt, Bool.false_eq_true, if_false] at this ⊢
    exact this
end
end
/-- block p anew, and growth -/
def Got (p : Nat) (w : World) (o : Obj) (w' : World) : Prop := ∃ X, w' = (w.setB p o).ext X
theorem Got.mk (p : Nat) (w : World) (o : Obj) : Got p w o (w.setB p o) := ⟨⟨#[], w.drawn⟩, by unfold World.ext World.setB; simp⟩
theorem Got.ext {p : Nat} {w w' : World} {o : Obj} (h : Got p w o w') (X : Ext) : Got p w o (w'.ext X) := by
  obtain ⟨Y, rfl⟩ := h
  exact ⟨_, World.ext_ext _ Y X⟩
theorem Got.drew {p : Nat} {w w' : World} {o : Obj} (h : Got p w o w') : Got p w o w'.drew := by
  obtain ⟨Y, rfl⟩ := h
  exact ⟨_, World.drew_ext _ Y⟩
theorem Got.alloc {p : Nat} {w w' : World} {o : Obj} (h : Got p w o w') (x : Obj) : Got p w o (w'.alloc x) := by
  obtain ⟨Y, rfl⟩ := h
  exact ⟨⟨Y.bs.push x, Y.dr⟩, by unfold World.ext World.alloc; simp only [Array.append_push]⟩
end Go
namespace Go
open Go.RowKit

theorem World.ownsRow.ext {w : World} {base : Nat} {e : TypeId} {size : Nat} {v : Value} {n : Nat} {xs : List Value} (h : w.ownsRow base e size v n xs) (X : Ext) : (w.ext X).ownsRow base e size v n xs :=
  h.kept (row := none) ⟨rfl, rfl, rfl, w.ext_size_le X, fun k hk _ => w.ext_get X hk⟩ (by cases hv : v.ownBlock <;> simp)
theorem World.ownsRow.setB {w : World} {base : Nat} {e : TypeId} {size : Nat} {v : Value} {n : Nat} {xs : List Value} (h : w.ownsRow base e size v n xs) {p : Nat} (hp : v.ownBlock ≠ some p) (o : Obj) : (w.setB p o).ownsRow base e size v n xs :=
  h.kept (row := some p) ⟨rfl, rfl, rfl, by rw [World.setB_size]; exact Nat.le_refl _, fun k hk hne => w.setB_get p o k (fun e => hne (by rw [e]))⟩ (by cases hv : v.ownBlock <;> simp_all)
theorem World.ownsRow.base {w : World} {base base' : Nat} {e : TypeId} {size : Nat} {v : Value} {n : Nat} {xs : List Value} (h : w.ownsRow base e size v n xs) (hb : base' ≤ base) : w.ownsRow base' e size v n xs := by
  refine ⟨h.1, ?_⟩
  rcases h.2 with h2 | ⟨g, cap, cur, hv, hg, r⟩
  · exact .inl h2
  · exact .inr ⟨g, cap, cur, hv, Nat.le_trans hb hg, r⟩

theorem addr_add (b o j : Nat) : (⟨b, o, none⟩ : Addr).add j = ⟨b, o + j, none⟩ := by unfold Addr.add; split <;> simp_all

/-- what is owned reads -/
theorem World.ownsRow.sl {w : World} {base : Nat} {e : TypeId} {size : Nat} {v : Value} {n : Nat} {xs : List Value} (h : w.ownsRow base e size v n xs) : Sl w v n xs := by
  have h' := h
  obtain ⟨hl, h2⟩ := h'
  rcases h2 with ⟨rfl, rfl⟩ | ⟨g, cap, cur, rfl, hg, hh, hn, hc, hs, ht⟩
  · exact .inl ⟨rfl, rfl, List.eq_nil_of_length_eq_zero (by simpa using hl)⟩
  · refine .inr ⟨g, 0, cap, rfl, hn, hc, fun j u hj => ?_⟩
    have := h.cells (g := g) rfl j u hj
    rw [addr_add] at this
    exact this

/-- what a block that was laid just now reads as -/
theorem Sl.new (w : World) (cs : List Value) (t : TypeId) (n : Nat) (hm : n ≤ maxLen) : Sl (w.alloc (.cells cs.toArray t)) (.slice (some ⟨w.heap.size, 0, none⟩) n n) n cs :=
  Sl.of_block (t := t) (f := (0, 0)) (by show (w.heap.push _)[w.heap.size]? = _; simp) hm
theorem Sl.lit (w : World) (cs : Array Value) (t : TypeId) (n : Nat) (hm : n ≤ maxLen) : Sl (w.alloc (.cells cs t)) (.slice (some ⟨w.heap.size, 0, none⟩) n n) n cs.toList :=
  Sl.new w cs.toList t n hm

/-- a part of a slice -/
theorem Sl.cut {w : World} {b off : Nat} {cs : List Value} (k : Nat) (h : ∀ j u, cs[j]? = some u → w.cell? ⟨b, off + j, none⟩ = some u) (lo hi c : Nat) (h2 : hi - lo ≤ c) (hc : c ≤ maxLen) :
    Sl w (.slice (some ⟨b, off + lo * k, none⟩) (hi - lo) c) (hi - lo) ((cs.drop (lo * k)).take ((hi - lo) * k)) := by
  refine .inr ⟨b, off + lo * k, c, rfl, h2, hc, fun j u hj => ?_⟩
  rw [List.getElem?_take] at hj
  split at hj
  · rw [List.getElem?_drop] at hj
    rw [Nat.add_assoc]
    exact h _ _ hj
  · cases hj

/-- the element type of a slice type, as the program's table has it -/
structure Elem (P : Program) (t e : TypeId) (size bytes : Nat) : Prop where
  ht : P.underlying t = some (.slice e)
  hi : ∃ i z, P.info? e = some i ∧ i.zero = some z ∧ i.size = size ∧ i.bytes = bytes ∧ z.cells.size = size
  pos : 0 < size
theorem Elem.of {P : Program} {t e : TypeId} {size bytes : Nat} (z : Value) (ht : P.underlying t = some (.slice e)) (h : (P.info? e).map (fun i => (i.zero, i.size, i.bytes)) = some (some z, size, bytes)) (hz : z.cells.size = size) (pos : 0 < size) : Elem P t e size bytes := by
  obtain ⟨i, h1, h2, h3, h4⟩ := info_parts h
  exact ⟨ht, ⟨i, z, h1, h2, h3, h4, hz⟩, pos⟩

theorem Elem.make {P : Program} {t e : TypeId} {size bytes : Nat} (E : Elem P t e size bytes) (n : Nat) (hb : bytes * n ≤ 281474976710656) (h63 : n ≤ 9223372036854775807) :
    ∃ cs : Array Value, cs.size = n * size ∧ ∀ W : World, (Instr.makeSlice t (.int .i64 (n : Int)) (.int .i64 (n : Int))).run P W = .ok (.slice (some ⟨W.heap.size, 0, none⟩) n n) (W.alloc (.cells cs e)) := by
  obtain ⟨i, z, h1, h2, rfl, rfl, h5⟩ := E.hi
  refine ⟨madeCells z.cells (n * i.size), size_madeCells _ _, fun W => ?_⟩
  have hb' : (i.bytes : Int) * (n : Int) ≤ 281474976710656 := by
    have h : ((i.bytes * n : Nat) : Int) ≤ 281474976710656 := by omega
    rwa [Int.natCast_mul] at h
  have hr := run_make (P := P) W t e i z E.ht h1 h2 .i64 .i64 n n (by omega) (by omega) hb' (by omega)
  simp only [Int.toNat_natCast] at hr
  exact hr

/-- the walk stands here -/
def Stop (p : Prop) : Prop := p
theorem Stop.here {p : Prop} (h : Stop p) : p := h

section
variable {P : Program}
theorem run_app {w : World} {t ty e : TypeId} {size bytes : Nat} (E : Elem P t e size bytes) {base : Nat} {v : Value} {n : Nat} {xs : List Value} (hown : w.ownsRow base e size v n xs)
    {x : Value} {m : Nat} {news : List Value} (hx : Sl w x m news) (hl : news.length = m * size) (h1 : ∀ u ∈ news, u.oneCell' = true) (hb : (n + m) * bytes ≤ 140737488355328) (h63 : n + m ≤ maxLen) (hbase : base ≤ w.heap.size) :
    ∃ v' w', (Builtin.append_ #[t, t] ty #[v, x]).run P w = .ok v' w' ∧ w'.ownsRow base e size v' (n + m) (xs ++ news) ∧ w.grownBy w' v.ownBlock ∧ (v' = .slice none 0 0 ↔ v = .slice none 0 0 ∧ m = 0) := by
  obtain ⟨i, z, hi, hz, hs, hby, hzs⟩ := E.hi
  rcases hx with ⟨rfl, rfl, rfl⟩ | ⟨b, off, cap, rfl, _, _, hc⟩
  · exact ⟨v, w, run_append_owned_none w base t ty e i size E.ht hi v n xs hown, by simpa using hown, ⟨rfl, rfl, rfl, Nat.le_refl _, fun _ _ _ => rfl⟩, by simp⟩
  · exact run_append_own w base t ty e i z size bytes E.ht hi hz hs hby hzs E.pos v n xs hown ⟨b, off, none⟩ m cap news hl (fun j u hj => by rw [addr_add]; exact hc j u hj) h1 h63 hb hbase

theorem wp_app {w : World} {o : Oper} {a : Act} {K : Act → World → Prop} {Q : Exit → Act → World → Prop} (s x : Operand) (t : TypeId)
    (ho : o.op = .call { callee := .builtin .append, args := #[s, x], argTypes := #[t, t] })
    {e : TypeId} {size bytes : Nat} (E : Elem P t e size bytes) {base : Nat} {v : Value} {n : Nat} {xs : List Value} (hs : a.eval s = v) (hown : w.ownsRow base e size v n xs)
    {vx : Value} {m : Nat} {news : List Value} (hvx : a.eval x = vx) (hx : Sl w vx m news) (hl : news.length = m * size) (h1 : ∀ u ∈ news, u.oneCell' = true) (hb : (n + m) * bytes ≤ 140737488355328) (h63 : n + m ≤ maxLen) (hbase : base ≤ w.heap.size)
    (h : ∀ v' w', w'.ownsRow base e size v' (n + m) (xs ++ news) → w.grownBy w' v.ownBlock → (v' = .slice none 0 0 ↔ v = .slice none 0 0 ∧ m = 0) → K (a.put o.dst v') w') : o.wp P a w K Q := by
  obtain ⟨v', w', hr, h2, h3, h4⟩ := run_app (P := P) (ty := o.type) E hown hx hl h1 hb h63 hbase
  unfold Oper.wp execOp
  simp only [ho, resolve, invoke, builtin, Sem.run_bind, Sem.run_pure, Result.andThen_ok, List.map_toArray, List.map_cons, List.map_nil, hs, hvx, hr]
  exact h v' w' h2 h3 h4

theorem wpList_app {w : World} {ops : Array Oper} {rest : List Oper} {o : Oper} {a : Act} {Q : Exit → Act → World → Prop} (hgd : o.guard = none) (s x : Operand) (t : TypeId)
    (ho : o.op = .call { callee := .builtin .append, args := #[s, x], argTypes := #[t, t] })
    {e : TypeId} {size bytes : Nat} (E : Elem P t e size bytes) {base : Nat} {v : Value} {n : Nat} {xs : List Value} (hs : a.eval s = v) (hown : w.ownsRow base e size v n xs)
    {vx : Value} {m : Nat} {news : List Value} (hvx : a.eval x = vx) (hx : Sl w vx m news) (hl : news.length = m * size) (h1 : ∀ u ∈ news, u.oneCell' = true) (hb : (n + m) * bytes ≤ 140737488355328) (h63 : n + m ≤ maxLen) (hbase : base ≤ w.heap.size)
    (h : ∀ v' w', w'.ownsRow base e size v' (n + m) (xs ++ news) → w.grownBy w' v.ownBlock → (v' = .slice none 0 0 ↔ v = .slice none 0 0 ∧ m = 0) → wpList P ops Q rest (a.put o.dst v') w') : wpList P ops Q (o :: rest) a w :=
  wpList_plain hgd fun _ hK => wp_app s x t ho E hs hown hvx hx hl h1 hb h63 hbase (fun v' w' a1 a2 a3 => hK _ _ (h v' w' a1 a2 a3))
end

/-- behind an append to what is the call's own: below, all is as it was -/
theorem RowKit.Below.app {a w w' : World} {v : Value} {e : TypeId} {size n : Nat} {xs : List Value} (h : Below a.heap.size a w) (hg : w.grownBy w' v.ownBlock) (ho : w.ownsRow a.heap.size e size v n xs) : Below a.heap.size a w' :=
  h.grown hg h.size (fun k hk => (ho.lt k hk).1)
end Go
namespace Go
open Go.RowKit

/-- how a value of one Go type lies in cells -/
structure RowOf (α : Type) where
  row : α → List Value
  k : Nat
  len : ∀ x, (row x).length = k
  one : ∀ x, ∀ u ∈ row x, u.oneCell' = true

variable {α : Type}

theorem RowOf.flat_len (R : RowOf α) (xs : List α) : (xs.flatMap R.row).length = xs.length * R.k := by
  induction xs with
  | nil => simp
  | cons x xs ih => simp only [List.flatMap_cons, List.length_append, R.len, ih, List.length_cons, Nat.add_mul]; omega
theorem RowOf.flat_one (R : RowOf α) (xs : List α) : ∀ u ∈ xs.flatMap R.row, u.oneCell' = true := by
  intro u hu
  obtain ⟨x, _, hx⟩ := List.mem_flatMap.1 hu
  exact R.one x u hx
theorem RowOf.flat_get (R : RowOf α) : ∀ (xs : List α) (i j : Nat) (u : Value) (hi : i < xs.length), (R.row xs[i])[j]? = some u → (xs.flatMap R.row)[i * R.k + j]? = some u
  | [], i, _, _, hi, _ => absurd hi (by simp)
  | x :: xs, 0, j, u, _, h => by
    have hj : j < (R.row x).length := (List.getElem?_eq_some_iff.1 h).1
    rw [List.flatMap_cons, List.getElem?_append_left (by omega)]
    simpa using h
  | x :: xs, i + 1, j, u, hi, h => by
    rw [List.flatMap_cons, List.getElem?_append_right (by rw [R.len, Nat.add_mul]; omega), R.len]
    rw [show (i + 1) * R.k + j - R.k = i * R.k + j by rw [Nat.add_mul]; omega]
    exact R.flat_get xs i j u (by simpa using hi) (by simpa using h)
theorem RowOf.flat_drop (R : RowOf α) (xs : List α) (i : Nat) : (xs.flatMap R.row).drop (i * R.k) = (xs.drop i).flatMap R.row := by
  induction xs generalizing i with
  | nil => simp
  | cons x xs ih =>
    cases i with
    | zero => simp
    | succ i =>
      rw [List.flatMap_cons, List.drop_succ_cons, ← ih i, Nat.add_mul, Nat.one_mul, Nat.add_comm, ← List.drop_drop]
      congr 1
      rw [← R.len x]
      exact List.drop_left
theorem RowOf.flat_take (R : RowOf α) (xs : List α) (i : Nat) : (xs.flatMap R.row).take (i * R.k) = (xs.take i).flatMap R.row := by
  induction xs generalizing i with
  | nil => simp
  | cons x xs ih =>
    cases i with
    | zero => simp
    | succ i =>
      rw [List.flatMap_cons, List.take_succ_cons, List.flatMap_cons, ← ih i, Nat.add_mul, Nat.one_mul, List.take_append, R.len]
      rw [List.take_of_length_le (by rw [R.len]; omega), show i * R.k + R.k - R.k = i * R.k by omega]

/-- slice value v reads as xs -/
def RdL (R : RowOf α) (w : World) (v : Value) (xs : List α) : Prop := Sl w v xs.length (xs.flatMap R.row)
/-- slice value v, in a block from B on, is the call's own and holds xs -/
def OwnL (R : RowOf α) (e : TypeId) (w : World) (B : Nat) (v : Value) (xs : List α) : Prop := w.ownsRow B e R.k v xs.length (xs.flatMap R.row)

section
variable {R : RowOf α} {w : World} {v : Value} {xs : List α} {e : TypeId} {B : Nat}
theorem RdL.ext (h : RdL R w v xs) (X : Ext) : RdL R (w.ext X) v xs := Sl.ext h X
theorem RdL.alloc (h : RdL R w v xs) (o : Obj) : RdL R (w.alloc o) v xs := Sl.alloc h o
theorem RdL.drew (h : RdL R w v xs) : RdL R w.drew v xs := h
theorem RdL.below {w' : World} (h : RdL R w v xs) (hb : Below w.heap.size w w') : RdL R w' v xs := Sl.below h hb
theorem RdL.setB (h : RdL R w v xs) {p : Nat} (hp : v.ownBlock ≠ some p) (o : Obj) : RdL R (w.setB p o) v xs := Sl.setB h hp o
theorem RdL.nil (R : RowOf α) (w : World) : RdL R w (.slice none 0 0) [] := .inl ⟨rfl, rfl, rfl⟩
theorem OwnL.rd (h : OwnL R e w B v xs) : RdL R w v xs := World.ownsRow.sl h
theorem OwnL.ext (h : OwnL R e w B v xs) (X : Ext) : OwnL R e (w.ext X) B v xs := World.ownsRow.ext h X
theorem OwnL.alloc (h : OwnL R e w B v xs) (o : Obj) : OwnL R e (w.alloc o) B v xs := World.ownsRow.alloc h o
theorem OwnL.drew (h : OwnL R e w B v xs) : OwnL R e w.drew B v xs := h
theorem OwnL.setB (h : OwnL R e w B v xs) {p : Nat} (hp : v.ownBlock ≠ some p) (o : Obj) : OwnL R e (w.setB p o) B v xs := World.ownsRow.setB h hp o
theorem OwnL.nil (R : RowOf α) (e : TypeId) (w : World) (B : Nat) : OwnL R e w B (.slice none 0 0) [] := by
  have := World.ownsRow_nil w B e R.k
  unfold OwnL
  simpa using this
theorem OwnL.empty (R : RowOf α) (e : TypeId) (w : World) : OwnL R e (w.alloc (.cells #[] e)) w.heap.size (.slice (some ⟨w.heap.size, 0, none⟩) 0 0) [] :=
  World.ownsRow_lit w #[] 0 (Nat.le_refl _) (by decide) (by simp)
theorem OwnL.lt (h : OwnL R e w B v xs) : ∀ k, v.ownBlock = some k → B ≤ k ∧ k < w.heap.size := World.ownsRow.lt h
theorem OwnL.base {B' : Nat} (h : OwnL R e w B v xs) (hb : B' ≤ B) : OwnL R e w B' v xs := World.ownsRow.base h hb
/-- kept, where only blocks other than its own are written -/
theorem OwnL.kept {w' : World} {row : Option Nat} (h : OwnL R e w B v xs) (hg : w.grownBy w' row) (hne : v.ownBlock = none ∨ v.ownBlock ≠ row) : OwnL R e w' B v xs := World.ownsRow.kept h hg hne
theorem RdL.kept {w' : World} {row : Option Nat} (h : RdL R w v xs) (hg : w.grownBy w' row) (hne : v.ownBlock = none ∨ v.ownBlock ≠ row) : RdL R w' v xs := by
  rcases h with h | ⟨b, off, cap, rfl, h1, h2, h3⟩
  · exact .inl h
  · refine .inr ⟨b, off, cap, rfl, h1, h2, fun j u hj => ?_⟩
    have hc := h3 j u hj
    rw [World.cell?_of_block (w := w) (hg.block b (World.block_lt_of_cell? w ⟨b, off + j, none⟩ hc) (by simpa [Value.ownBlock] using hne))]
    exact hc

/-- the one element of 'append(s, x)' -/
theorem RdL.one (R : RowOf α) (w : World) (x : α) (cs : Array Value) (hcs : cs = (R.row x).toArray) (e : TypeId) : RdL R (w.alloc (.cells cs e)) (.slice (some ⟨w.heap.size, 0, none⟩) 1 1) [x] := by
  subst hcs
  unfold RdL
  have := Sl.new w (R.row x) e 1 (by decide)
  simpa using this
/-- a literal -/
theorem RdL.lit (R : RowOf α) (w : World) (xs : List α) (n : Nat) (hn : n = xs.length) (hm : n ≤ maxLen) (cs : Array Value) (hcs : cs = (xs.flatMap R.row).toArray) (e : TypeId) : RdL R (w.alloc (.cells cs e)) (.slice (some ⟨w.heap.size, 0, none⟩) n n) xs := by
  subst hcs hn
  exact Sl.new w _ e _ hm
theorem OwnL.lit (R : RowOf α) (w : World) (xs : List α) (n : Nat) (hn : n = xs.length) (hm : n ≤ maxLen) (cs : Array Value) (hcs : cs = (xs.flatMap R.row).toArray) (e : TypeId) : OwnL R e (w.alloc (.cells cs e)) w.heap.size (.slice (some ⟨w.heap.size, 0, none⟩) n n) xs := by
  subst hcs hn
  have := World.ownsRow_lit (e := e) (size := R.k) w (xs.flatMap R.row).toArray xs.length (base := w.heap.size) (Nat.le_refl _) hm (by simp [R.flat_len])
  simpa [OwnL] using this

/-- the shape of a slice value, nil or not -/
theorem RdL.shape (h : RdL R w v xs) : ∃ ao cap, v = .slice ao xs.length cap ∧ xs.length ≤ cap ∧ cap ≤ maxLen ∧ (ao = none → cap = 0 ∧ xs = []) ∧
    (xs ≠ [] → ∃ b off, ao = some ⟨b, off, none⟩ ∧ (0 < R.k → b < w.heap.size) ∧ ∀ (i : Nat) (hi : i < xs.length) (j : Nat) (u : Value), (R.row xs[i])[j]? = some u → w.cell? ⟨b, off + i * R.k + j, none⟩ = some u) := by
  obtain ⟨ao, cap, rfl, h1, h2, h3, h4⟩ := Sl.shape h
  refine ⟨ao, cap, rfl, h1, h2, fun h => ⟨(h3 h).1, List.eq_nil_of_length_eq_zero (h3 h).2⟩, fun hne => ?_⟩
  obtain ⟨b, off, rfl, hc⟩ := h4 (by cases xs; exact absurd rfl hne; simp)
  refine ⟨b, off, rfl, fun hk => ?_, fun i hi j u hj => ?_⟩
  · have h0 : 0 < (xs.flatMap R.row).length := by
      rw [R.flat_len]
      exact Nat.mul_pos (by cases xs; exact absurd rfl hne; simp) hk
    exact World.block_lt_of_cell? w ⟨b, off + 0, none⟩ (hc 0 _ (List.getElem?_eq_getElem h0))
  · rw [Nat.add_assoc]
    exact hc _ _ (R.flat_get xs i j u hi hj)

/-- a part of a slice: v[lo:hi] -/
theorem RdL.cut {b off n cap : Nat} (h : RdL R w (.slice (some ⟨b, off, none⟩) n cap) xs) (lo hi c : Nat) (h1 : hi ≤ xs.length) (h2 : hi - lo ≤ c) (hc : c ≤ maxLen) :
    RdL R w (.slice (some ⟨b, off + lo * R.k, none⟩) (hi - lo) c) ((xs.drop lo).take (hi - lo)) := by
  have hcell : ∀ j u, (xs.flatMap R.row)[j]? = some u → w.cell? ⟨b, off + j, none⟩ = some u := by
    rcases h with ⟨h, _⟩ | ⟨b', off', cap', h, _, _, h3⟩
    · cases h
    · cases h; exact h3
  have hl : ((xs.drop lo).take (hi - lo)).length = hi - lo := by simp; omega
  have h3 := Sl.cut R.k hcell lo hi c h2 hc
  unfold RdL
  rw [hl, ← R.flat_take, ← R.flat_drop]
  exact h3
end

section
variable {P : Program}
theorem wp_appL {R : RowOf α} {w : World} {o : Oper} {a : Act} {K : Act → World → Prop} {Q : Exit → Act → World → Prop} (s x : Operand) (t : TypeId)
    (ho : o.op = .call { callee := .builtin .append, args := #[s, x], argTypes := #[t, t] })
    {e : TypeId} {bytes : Nat} (E : Elem P t e R.k bytes) {B : Nat} {v : Value} {xs : List α} (hown : OwnL R e w B v xs) (hs : a.eval s = v)
    {vx : Value} {ys : List α} (hx : RdL R w vx ys) (hvx : a.eval x = vx) (hb : (xs.length + ys.length) * bytes ≤ 140737488355328) (h63 : xs.length + ys.length ≤ maxLen) (hbase : B ≤ w.heap.size)
    (h : ∀ v' w', OwnL R e w' B v' (xs ++ ys) → w.grownBy w' v.ownBlock → (v' = .slice none 0 0 ↔ v = .slice none 0 0 ∧ ys = []) → K (a.put o.dst v') w') : o.wp P a w K Q := by
  refine wp_app s x t ho E hs hown hvx hx (R.flat_len ys) (R.flat_one ys) hb h63 hbase fun v' w' h1 h2 h3 => h v' w' ?_ h2 ?_
  · unfold OwnL
    rw [List.length_append, List.flatMap_append]
    exact h1
  · rw [h3]
    simp

theorem wpList_appL {R : RowOf α} {w : World} {ops : Array Oper} {rest : List Oper} {o : Oper} {a : Act} {Q : Exit → Act → World → Prop} (hgd : o.guard = none) (s x : Operand) (t : TypeId)
    (ho : o.op = .call { callee := .builtin .append, args := #[s, x], argTypes := #[t, t] })
    {e : TypeId} {bytes : Nat} (E : Elem P t e R.k bytes) {B : Nat} {v : Value} {xs : List α} (hown : OwnL R e w B v xs) (hs : a.eval s = v)
    {vx : Value} {ys : List α} (hx : RdL R w vx ys) (hvx : a.eval x = vx) (hb : (xs.length + ys.length) * bytes ≤ 140737488355328) (h63 : xs.length + ys.length ≤ maxLen) (hbase : B ≤ w.heap.size)
    (h : ∀ v' w', OwnL R e w' B v' (xs ++ ys) → w.grownBy w' v.ownBlock → (v' = .slice none 0 0 ↔ v = .slice none 0 0 ∧ ys = []) → wpList P ops Q rest (a.put o.dst v') w') : wpList P ops Q (o :: rest) a w :=
  wpList_plain hgd fun _ hK => wp_appL s x t ho E hown hs hx hvx hb h63 hbase (fun v' w' a1 a2 a3 => hK _ _ (h v' w' a1 a2 a3))
end
theorem RowKit.Below.appL {R : RowOf α} {a w w' : World} {v : Value} {e : TypeId} {xs : List α} (h : Below a.heap.size a w) (hg : w.grownBy w' v.ownBlock) (ho : OwnL R e w a.heap.size v xs) : Below a.heap.size a w' :=
  Below.app h hg ho

/-! ### the Go types -/
def rStr : RowOf ByteArray := ⟨fun s => [.string s], 1, fun _ => rfl, by simp [Value.oneCell']⟩
def rInt : RowOf Int := ⟨fun n => [.int .i64 n], 1, fun _ => rfl, by simp [Value.oneCell']⟩
def rByte : RowOf UInt8 := ⟨fun c => [.int .u8 c.toNat], 1, fun _ => rfl, by simp [Value.oneCell']⟩

theorem RdL.shapeS {w : World} {v : Value} {xs : List ByteArray} (h : RdL rStr w v xs) : ∃ ao cap, v = .slice ao xs.length cap ∧ xs.length ≤ cap ∧ cap ≤ maxLen ∧ (ao = none → cap = 0 ∧ xs = []) ∧
    (xs ≠ [] → ∃ b off, ao = some ⟨b, off, none⟩ ∧ b < w.heap.size ∧ ∀ (i : Nat) (hi : i < xs.length), w.cell? ⟨b, off + i, none⟩ = some (.string xs[i])) := by
  obtain ⟨ao, cap, h0, h1, h2, h3, h4⟩ := h.shape
  refine ⟨ao, cap, h0, h1, h2, h3, fun hne => ?_⟩
  obtain ⟨b, off, e, hb, hc⟩ := h4 hne
  exact ⟨b, off, e, hb (by decide), fun i hi => by simpa [rStr] using hc i hi 0 _ rfl⟩
theorem RdL.shapeI {w : World} {v : Value} {xs : List Int} (h : RdL rInt w v xs) : ∃ ao cap, v = .slice ao xs.length cap ∧ xs.length ≤ cap ∧ cap ≤ maxLen ∧ (ao = none → cap = 0 ∧ xs = []) ∧
    (xs ≠ [] → ∃ b off, ao = some ⟨b, off, none⟩ ∧ b < w.heap.size ∧ ∀ (i : Nat) (hi : i < xs.length), w.cell? ⟨b, off + i, none⟩ = some (.int .i64 xs[i])) := by
  obtain ⟨ao, cap, h0, h1, h2, h3, h4⟩ := h.shape
  refine ⟨ao, cap, h0, h1, h2, h3, fun hne => ?_⟩
  obtain ⟨b, off, e, hb, hc⟩ := h4 hne
  exact ⟨b, off, e, hb (by decide), fun i hi => by simpa [rInt] using hc i hi 0 _ rfl⟩
theorem RdL.shapeB {w : World} {v : Value} {xs : List UInt8} (h : RdL rByte w v xs) : ∃ ao cap, v = .slice ao xs.length cap ∧ xs.length ≤ cap ∧ cap ≤ maxLen ∧ (ao = none → cap = 0 ∧ xs = []) ∧
    (xs ≠ [] → ∃ b off, ao = some ⟨b, off, none⟩ ∧ b < w.heap.size ∧ ∀ (i : Nat) (hi : i < xs.length), w.cell? ⟨b, off + i, none⟩ = some (.int .u8 xs[i].toNat)) := by
  obtain ⟨ao, cap, h0, h1, h2, h3, h4⟩ := h.shape
  refine ⟨ao, cap, h0, h1, h2, h3, fun hne => ?_⟩
  obtain ⟨b, off, e, hb, hc⟩ := h4 hne
  exact ⟨b, off, e, hb (by decide), fun i hi => by simpa [rByte] using hc i hi 0 _ rfl⟩
theorem RdL.cut1 {α : Type} {R : RowOf α} {w : World} {xs : List α} (hk : R.k = 1) {b off n cap : Nat} (h : RdL R w (.slice (some ⟨b, off, none⟩) n cap) xs) (lo hi c : Nat) (h1 : hi ≤ xs.length) (h2 : hi - lo ≤ c) (hc : c ≤ maxLen) :
    RdL R w (.slice (some ⟨b, off + lo, none⟩) (hi - lo) c) ((xs.drop lo).take (hi - lo)) := by
  have := RdL.cut h lo hi c h1 h2 hc
  simpa [hk] using this
/-- v[:hi] -/
theorem RdL.upto {α : Type} {R : RowOf α} {w : World} {xs : List α} {b off n cap : Nat} (h : RdL R w (.slice (some ⟨b, off, none⟩) n cap) xs) (hi c : Nat) (h1 : hi ≤ xs.length) (h2 : hi ≤ c) (hc : c ≤ maxLen) :
    RdL R w (.slice (some ⟨b, off, none⟩) hi c) (xs.take hi) := by
  have := RdL.cut h 0 hi c h1 (by omega) hc
  simpa using this
/-- nil, or somewhere -/
theorem RdL.cases {α : Type} {R : RowOf α} {w : World} {ao : Option Addr} {n cap : Nat} {xs : List α} (h : RdL R w (.slice ao n cap) xs) :
    (ao = none ∧ cap = 0 ∧ n = 0 ∧ xs = []) ∨ ∃ b off, ao = some ⟨b, off, none⟩ ∧ n = xs.length ∧ n ≤ cap ∧ cap ≤ maxLen := by
  rcases h with ⟨e, h0, _⟩ | ⟨b, off, c, e, h1, h2, _⟩
  · simp only [Value.slice.injEq] at e
    exact .inl ⟨e.1, e.2.2, e.2.1, List.eq_nil_of_length_eq_zero h0⟩
  · simp only [Value.slice.injEq] at e
    exact .inr ⟨b, off, e.1, e.2.1, by omega, by omega⟩
theorem RdL.zero {α : Type} (R : RowOf α) (w : World) (b off c : Nat) (h : c ≤ maxLen) : RdL R w (.slice (some ⟨b, off, none⟩) 0 c) [] := .inr ⟨b, off, c, rfl, Nat.zero_le _, h, fun j u hj => by simp at hj⟩
/-- the two worlds differ in block p alone -/
structure SameBut (p : Nat) (a b : World) : Prop where
  size : a.heap.size = b.heap.size
  block : ∀ k, k ≠ p → a.heap[k]? = b.heap[k]?
theorem SameBut.setB (p : Nat) (w : World) (o o' : Obj) : SameBut p (w.setB p o) (w.setB p o') :=
  ⟨by rw [World.setB_size, World.setB_size], fun k hk => by rw [World.setB_get w p o k hk, World.setB_get w p o' k hk]⟩
theorem SameBut.setBl (p : Nat) (w : World) (o : Obj) : SameBut p w (w.setB p o) :=
  ⟨by rw [World.setB_size], fun k hk => by rw [World.setB_get w p o k hk]⟩
theorem SameBut.ext {p : Nat} {a b : World} (h : SameBut p a b) (X : Ext) : SameBut p (a.ext X) (b.ext X) := by
  refine ⟨by rw [World.ext_size, World.ext_size, h.size], fun k hk => ?_⟩
  show (a.heap ++ X.bs)[k]? = (b.heap ++ X.bs)[k]?
  rw [Array.getElem?_append, Array.getElem?_append, h.size, h.block k hk]
theorem SameBut.alloc {p : Nat} {a b : World} (h : SameBut p a b) (o : Obj) : SameBut p (a.alloc o) (b.alloc o) := by
  refine ⟨by rw [World.size_alloc, World.size_alloc, h.size], fun k hk => ?_⟩
  show (a.heap.push o)[k]? = (b.heap.push o)[k]?
  rw [Array.getElem?_push, Array.getElem?_push, h.size, h.block k hk]
theorem RdL.same {α : Type} {R : RowOf α} {a b : World} {v : Value} {xs : List α} {p : Nat} (h : RdL R a v xs) (s : SameBut p a b) (hp : v.ownBlock ≠ some p) : RdL R b v xs := by
  rcases h with h | ⟨g, off, cap, rfl, h1, h2, h3⟩
  · exact .inl h
  · refine .inr ⟨g, off, cap, rfl, h1, h2, fun j u hj => ?_⟩
    rw [← h3 j u hj]
    exact World.cell?_of_block (w := a) (s.block g (fun e => hp (by simp [Value.ownBlock, e]))).symm
theorem RdL.got {α : Type} {R : RowOf α} {w w' : World} {v : Value} {xs : List α} {p : Nat} {o : Obj} (h : RdL R w v xs) (g : Got p w o w') (hp : v.ownBlock ≠ some p) : RdL R w' v xs := by
  obtain ⟨X, rfl⟩ := g
  exact (h.setB hp o).ext X
theorem Got.then {p : Nat} {w w1 w2 : World} {o o1 : Obj} (h1 : Got p w o1 w1) (h2 : Got p w1 o w2) (hp : p < w.heap.size) : Got p w o w2 := by
  obtain ⟨X, rfl⟩ := h1
  obtain ⟨Y, rfl⟩ := h2
  refine ⟨⟨X.bs ++ Y.bs, Y.dr⟩, ?_⟩
  rw [World.setB_ext _ _ _ _ (by rw [World.setB_size]; exact hp), World.setB_setB, World.ext_ext]
theorem Got.ofAlloc {p : Nat} {w w2 : World} {o b : Obj} (h : Got p (w.alloc b) o w2) (hp : p < w.heap.size) : Got p w o w2 := by
  obtain ⟨Y, rfl⟩ := h
  rw [World.setB_alloc_past _ _ _ _ hp]
  exact ((Got.mk p w o).alloc b).ext Y
theorem Got.ofBelow {p : Nat} {w w1 w2 : World} {o : Obj} (h1 : Got p w o w1) (h2 : Below w1.heap.size w1 w2) : Got p w o w2 := by
  obtain ⟨X, rfl⟩ := h2.ext
  exact h1.ext X
theorem Got.size {p : Nat} {w w1 : World} {o : Obj} (h : Got p w o w1) : w.heap.size ≤ w1.heap.size := by
  obtain ⟨X, rfl⟩ := h
  rw [World.ext_size, World.setB_size]
  omega
theorem Got.other {p : Nat} {w w1 : World} {o : Obj} (h : Got p w o w1) {b : Nat} (hb : b < w.heap.size) (hne : b ≠ p) : w1.heap[b]? = w.heap[b]? := by
  obtain ⟨X, rfl⟩ := h
  rw [World.ext_get _ _ (by rw [World.setB_size]; exact hb), World.setB_get _ _ _ _ hne]
theorem World.ext_setB_past (w : World) (X : Ext) (b : Nat) (o : Obj) (h : w.heap.size ≤ b) : (w.ext X).setB b o = w.ext ⟨X.bs.setIfInBounds (b - w.heap.size) o, X.dr⟩ := by
  unfold World.ext World.setB
  simp only [World.mk.injEq, true_and, and_true]
  apply Array.ext_getElem?
  intro i
  simp only [Array.getElem?_setIfInBounds, Array.getElem?_append, Array.size_append]
  by_cases e : b = i
  · subst e
    have h1 : ¬ b < w.heap.size := by omega
    by_cases hl : b < w.heap.size + X.bs.size
    · have h2 : b - w.heap.size < X.bs.size := by omega
      simp [h1, hl, h2]
    · have h2 : ¬ b - w.heap.size < X.bs.size := by omega
      simp [h1, hl, h2]
  · rw [if_neg e]
    by_cases hi : i < w.heap.size
    · rw [if_pos hi, if_pos hi]
    · rw [if_neg hi, if_neg hi, if_neg (by omega)]
theorem Got.past {p : Nat} {w w1 : World} {o : Obj} (h : Got p w o w1) {b : Nat} (hb : w.heap.size ≤ b) (o' : Obj) : Got p w o (w1.setB b o') := by
  obtain ⟨X, rfl⟩ := h
  exact ⟨_, World.ext_setB_past _ X b o' (by rw [World.setB_size]; exact hb)⟩
theorem RdL.past {α : Type} {R : RowOf α} {w : World} {v : Value} {xs : List α} {b : Nat} (h : RdL R w v xs) (hb : ∀ k, v.ownBlock = some k → k < b) (o : Obj) : RdL R (w.setB b o) v xs :=
  h.setB (fun e => absurd (hb b e) (Nat.lt_irrefl b)) o
theorem OwnL.got {α : Type} {R : RowOf α} {e : TypeId} {B : Nat} {w w' : World} {v : Value} {xs : List α} {p : Nat} {o : Obj} (h : OwnL R e w B v xs) (g : Got p w o w') (hp : v.ownBlock ≠ some p) : OwnL R e w' B v xs := by
  obtain ⟨X, rfl⟩ := g
  exact (h.setB hp o).ext X
theorem Got.app {α : Type} {R : RowOf α} {e : TypeId} {w w1 w2 : World} {v : Value} {xs : List α} {p : Nat} {o : Obj} (h : Got p w o w1) (hg : w1.grownBy w2 v.ownBlock) (ho : OwnL R e w1 w.heap.size v xs) : Got p w o w2 := by
  obtain ⟨X, rfl⟩ := h
  have ho' : OwnL R e ((w.setB p o).ext X) (w.setB p o).heap.size v xs := by rw [World.setB_size]; exact ho
  exact (Below.appL (a := w.setB p o) ((Below.refl _ _).ofExt X) hg ho').ext
theorem RdL.oneAt {α : Type} (R : RowOf α) (w : World) (x : α) (cs : Array Value) (hcs : cs = (R.row x).toArray) (e : TypeId) (b : Nat) (hb : b = w.heap.size) : RdL R (w.alloc (.cells cs e)) (.slice (some ⟨b, 0, none⟩) 1 1) [x] := by
  subst hb
  exact RdL.one R w x cs hcs e
theorem OwnL.oneAt {α : Type} (R : RowOf α) (w : World) (x : α) (cs : Array Value) (hcs : cs = (R.row x).toArray) (e : TypeId) (b : Nat) (hb : b = w.heap.size) : OwnL R e (w.alloc (.cells cs e)) w.heap.size (.slice (some ⟨b, 0, none⟩) 1 1) [x] := by
  subst hb
  exact OwnL.lit R w [x] 1 rfl (by decide) cs (by simpa using hcs) e
theorem OwnL.made {α : Type} (R : RowOf α) (e : TypeId) (w : World) (cs : Array Value) (X : Ext) (xs : List α) (hsz : cs.size = xs.length * R.k) (hc : cs.toList.take (xs.length * R.k) = xs.flatMap R.row) (hm : xs.length ≤ 9223372036854775807) (b : Nat) (hb : b = w.heap.size) :
    OwnL R e ((w.alloc (.cells cs e)).ext X) w.heap.size (.slice (some ⟨b, 0, none⟩) xs.length xs.length) xs := by
  subst hb
  refine OwnL.ext ?_ X
  refine ⟨R.flat_len xs, .inr ⟨w.heap.size, xs.length, cs, rfl, Nat.le_refl _, ?_, Nat.le_refl _, ?_, hsz, hc⟩⟩
  · show (w.heap.push (.cells cs e))[w.heap.size]? = _
    simp
  · unfold maxLen
    omega
theorem take_set1 {cs : Array Value} {n : Nat} {L : List Value} {v : Value} (h : cs.toList.take n = L) (hn : n < cs.size) : (cs.setIfInBounds n v).toList.take (n + 1) = L ++ [v] := by
  have hl : n < (cs.setIfInBounds n v).toList.length := by simpa using hn
  rw [List.take_succ_eq_append_getElem hl, ← h]
  congr 1
  · simp only [Array.toList_setIfInBounds]
    rw [List.take_set_of_le (Nat.le_refl n)]
  · simp
theorem RowOf.flat_step {α : Type} (R : RowOf α) (xs : List α) (n : Nat) (h : n < xs.length) : (xs.take (n + 1)).flatMap R.row = (xs.take n).flatMap R.row ++ R.row xs[n] := by
  simp only [List.take_succ_eq_append_getElem h, List.flatMap_append, List.flatMap_cons, List.flatMap_nil, List.append_nil]
theorem sum_take_step {α : Type} (f : α → Nat) (xs : List α) (n : Nat) (h : n < xs.length) : ((xs.take (n + 1)).map f).sum = ((xs.take n).map f).sum + f xs[n] := by
  simp only [List.take_succ_eq_append_getElem h, List.map_append, List.sum_append, List.map_cons, List.map_nil, List.sum_cons, List.sum_nil, Nat.add_zero]
theorem sum_take_le {α : Type} (f : α → Nat) (xs : List α) (n : Nat) : ((xs.take n).map f).sum ≤ (xs.map f).sum := by
  conv => rhs; rw [← List.take_append_drop n xs]
  rw [List.map_append, List.sum_append]
  omega
/-- the two worlds have one size, and agree from block B on -/
structure Agr (B : Nat) (a b : World) : Prop where
  size : a.heap.size = b.heap.size
  block : ∀ k, B ≤ k → a.heap[k]? = b.heap[k]?
theorem Agr.past {B : Nat} {a b : World} (h : a.heap.size = b.heap.size) (hb : a.heap.size ≤ B) : Agr B a b :=
  ⟨h, fun k hk => by rw [Array.getElem?_eq_none (by omega), Array.getElem?_eq_none (by omega)]⟩
theorem Agr.ext {B : Nat} {a b : World} (h : Agr B a b) (X : Ext) : Agr B (a.ext X) (b.ext X) := by
  refine ⟨by rw [World.ext_size, World.ext_size, h.size], fun k hk => ?_⟩
  show (a.heap ++ X.bs)[k]? = (b.heap ++ X.bs)[k]?
  rw [Array.getElem?_append, Array.getElem?_append, h.size, h.block k hk]
theorem Agr.alloc {B : Nat} {a b : World} (h : Agr B a b) (o : Obj) : Agr B (a.alloc o) (b.alloc o) := by
  refine ⟨by rw [World.size_alloc, World.size_alloc, h.size], fun k hk => ?_⟩
  show (a.heap.push o)[k]? = (b.heap.push o)[k]?
  rw [Array.getElem?_push, Array.getElem?_push, h.size, h.block k hk]
theorem OwnL.agr {α : Type} {R : RowOf α} {e : TypeId} {B : Nat} {a b : World} {v : Value} {xs : List α} (h : OwnL R e a B v xs) (g : Agr B a b) : OwnL R e b B v xs := by
  refine ⟨h.1, ?_⟩
  rcases h.2 with h | ⟨p, cap, cur, h1, h2, h3, h4⟩
  · exact .inl h
  · exact .inr ⟨p, cap, cur, h1, h2, (g.block p h2).symm.trans h3, h4⟩
/-- as RdL; an empty slice may lie anywhere: what a law is handed -/
def RdW {α : Type} (R : RowOf α) (w : World) (v : Value) (xs : List α) : Prop := RdL R w v xs ∨ (xs = [] ∧ ∃ a, v = .slice (some a) 0 0)
theorem RdW.ext {α : Type} {R : RowOf α} {w : World} {v : Value} {xs : List α} (h : RdW R w v xs) (X : Ext) : RdW R (w.ext X) v xs := h.imp (·.ext X) id
theorem RdW.alloc {α : Type} {R : RowOf α} {w : World} {v : Value} {xs : List α} (h : RdW R w v xs) (o : Obj) : RdW R (w.alloc o) v xs := h.imp (·.alloc o) id
theorem RdW.form {α : Type} {R : RowOf α} {w : World} {v : Value} {xs : List α} (h : RdW R w v xs) : ∃ ao cap, v = .slice ao xs.length cap := by
  rcases h with h | ⟨rfl, a, rfl⟩
  · obtain ⟨ao, cap, h, _⟩ := h.shape
    exact ⟨ao, cap, h⟩
  · exact ⟨_, _, rfl⟩
theorem RdW.shape {α : Type} {R : RowOf α} {w : World} {v : Value} {xs : List α} (h : RdW R w v xs) : ∃ ao cap, v = .slice ao xs.length cap ∧ xs.length ≤ cap ∧ cap ≤ maxLen ∧ (ao = none → cap = 0 ∧ xs = []) ∧
    (xs ≠ [] → ∃ b off, ao = some ⟨b, off, none⟩ ∧ (0 < R.k → b < w.heap.size) ∧ ∀ (i : Nat) (hi : i < xs.length) (j : Nat) (u : Value), (R.row xs[i])[j]? = some u → w.cell? ⟨b, off + i * R.k + j, none⟩ = some u) := by
  rcases h with h | ⟨rfl, a, rfl⟩
  · exact h.shape
  · exact ⟨some a, 0, rfl, Nat.le_refl _, Nat.zero_le _, (fun e => by cases e), fun e => absurd rfl e⟩
theorem RdW.shapeS {w : World} {v : Value} {xs : List ByteArray} (h : RdW rStr w v xs) : ∃ ao cap, v = .slice ao xs.length cap ∧ xs.length ≤ cap ∧ cap ≤ maxLen ∧ (ao = none → cap = 0 ∧ xs = []) ∧
    (xs ≠ [] → ∃ b off, ao = some ⟨b, off, none⟩ ∧ b < w.heap.size ∧ ∀ (i : Nat) (hi : i < xs.length), w.cell? ⟨b, off + i, none⟩ = some (.string xs[i])) := by
  obtain ⟨ao, cap, h0, h1, h2, h3, h4⟩ := h.shape
  refine ⟨ao, cap, h0, h1, h2, h3, fun hne => ?_⟩
  obtain ⟨b, off, e, hb, hc⟩ := h4 hne
  exact ⟨b, off, e, hb (by decide), fun i hi => by simpa [rStr] using hc i hi 0 _ rfl⟩
theorem World.cell?_of_get {w : World} {p i : Nat} {cs : Array Value} {t : TypeId} {f : Nat × Nat} (h : w.heap[p]? = some (.cells cs t f)) : w.cell? ⟨p, i, none⟩ = cs[i]? := by
  simp [World.cell?, h]
/-- block p may be anew -/
def SpF (w : World) (p : Nat) : Obj × Ext → World := fun x => (w.setB p x.1).ext x.2
attribute [go_sem] SpF
theorem Sp.start {w : World} {p : Nat} {o : Obj} (h : w.heap[p]? = some o) : Sf (SpF w p) w.drew := ⟨(o, ⟨#[], w.drawn + 1⟩), by unfold SpF; rw [World.setB_self h]; unfold World.ext World.drew; simp⟩
theorem Sp.got {w w1 w2 : World} {p : Nat} {o : Obj} (h : Sf (SpF w p) w1) (g : Got p w1 o w2) (hp : p < w.heap.size) : Sf (SpF w p) w2 := by
  obtain ⟨⟨o1, X⟩, rfl⟩ := h
  obtain ⟨Y, rfl⟩ := Got.then ⟨X, rfl⟩ g hp
  exact ⟨(o, Y), rfl⟩
theorem Sp.below {w w1 w2 : World} {p : Nat} (h : Sf (SpF w p) w1) (g : Below w1.heap.size w1 w2) : Sf (SpF w p) w2 := by
  obtain ⟨⟨o1, X⟩, rfl⟩ := h
  obtain ⟨Y, rfl⟩ := g.ext
  exact ⟨(o1, ⟨X.bs ++ Y.bs, Y.dr⟩), by unfold SpF; rw [World.ext_ext]⟩
theorem RdL.form {α : Type} {R : RowOf α} {w : World} {v : Value} {xs : List α} (h : RdL R w v xs) : ∃ ao cap, v = .slice ao xs.length cap := by
  rcases h with ⟨rfl, h, _⟩ | ⟨b, off, cap, rfl, _⟩
  · exact ⟨none, 0, by rw [h]⟩
  · exact ⟨_, _, rfl⟩
end Go
namespace Go
open Go.RowKit

@[go_sem] theorem World.drewN_ext (w : World) (X : Ext) (n : Nat) : (w.ext X).drewN n = w.ext ⟨X.bs, X.dr + n⟩ := rfl
theorem RowKit.Below.ofDrewN {a w : World} (h : Below a.heap.size a w) (n : Nat) : Below a.heap.size a (w.drewN n) := ⟨h.os, h.tape, h.output, h.size, h.block⟩
/-- the blocks of w are as they were in w' -/
def Grew (w w' : World) : Prop := ∀ b, b < w.heap.size → w'.heap[b]? = w.heap[b]?
theorem Grew.refl (w : World) : Grew w w := fun _ _ => rfl
theorem Grew.ext (w : World) (X : Ext) : Grew w (w.ext X) := fun _ h => w.ext_get X h
theorem Grew.alloc (w : World) (o : Obj) : Grew w (w.alloc o) := fun _ h => by
  show (w.heap.push o)[_]? = w.heap[_]?
  rw [Array.getElem?_push, if_neg (Nat.ne_of_lt h)]
theorem Grew.drew (w : World) : Grew w w.drew := fun _ _ => rfl
theorem Grew.below {w w' : World} (h : Below w.heap.size w w') : Grew w w' := fun b hb => h.block b hb
theorem Grew.cell {w w' : World} (g : Grew w w') {a : Addr} {v : Value} (h : w.cell? a = some v) : w'.cell? a = some v :=
  (World.cell?_of_block (g a.block (World.block_lt_of_cell? w a h))).trans h

structure View (α : Type) where
  k : Nat
  rd : World → List Value → α → Prop
  own : World → List Nat → List Value → α → Prop
  len : ∀ {w cs d}, rd w cs d → cs.length = k
  one : ∀ {w cs d}, rd w cs d → ∀ u ∈ cs, u.oneCell' = true
  grow : ∀ {w w' cs d}, rd w cs d → Grew w w' → rd w' cs d
  toRd : ∀ {w fp cs d}, own w fp cs d → rd w cs d
  frame : ∀ {w w' fp cs d}, own w fp cs d → (∀ b ∈ fp, w'.heap[b]? = w.heap[b]?) → own w' fp cs d
  lt : ∀ {w fp cs d}, own w fp cs d → ∀ b ∈ fp, b < w.heap.size

section
variable {α β : Type} {V : View α} {w w' : World} {cs : List Value} {fp : List Nat} {d : α}
theorem View.rdExt (h : V.rd w cs d) (X : Ext) : V.rd (w.ext X) cs d := V.grow h (Grew.ext w X)
theorem View.rdAlloc (h : V.rd w cs d) (o : Obj) : V.rd (w.alloc o) cs d := V.grow h (Grew.alloc w o)
theorem View.rdDrew (h : V.rd w cs d) : V.rd w.drew cs d := V.grow h (Grew.drew w)
theorem View.rdDrewN (h : V.rd w cs d) (n : Nat) : V.rd (w.drewN n) cs d := V.grow h (fun _ _ => rfl)
theorem View.rdBelow (h : V.rd w cs d) (hb : Below w.heap.size w w') : V.rd w' cs d := V.grow h (Grew.below hb)
theorem View.rdMerge {xs bs : Array Obj} {d0 dr : Nat} (h : V.rd (w.ext ⟨xs, d0⟩) cs d) : V.rd (w.ext ⟨xs ++ bs, dr⟩) cs d := by
  have := View.rdExt h ⟨bs, dr⟩
  rwa [World.ext_ext] at this
theorem View.ownGrow (h : V.own w fp cs d) (g : Grew w w') : V.own w' fp cs d := V.frame h fun b hb => g b (V.lt h b hb)
theorem View.ownExt (h : V.own w fp cs d) (X : Ext) : V.own (w.ext X) fp cs d := View.ownGrow h (Grew.ext w X)
theorem View.ownAlloc (h : V.own w fp cs d) (o : Obj) : V.own (w.alloc o) fp cs d := View.ownGrow h (Grew.alloc w o)
theorem View.ownMerge {xs bs : Array Obj} {d0 dr : Nat} (h : V.own (w.ext ⟨xs, d0⟩) fp cs d) : V.own (w.ext ⟨xs ++ bs, dr⟩) fp cs d := by
  have := View.ownExt h ⟨bs, dr⟩
  rwa [World.ext_ext] at this
end

/-- rows of cells, one for each element -/
def Rows' {α : Type} (rd : List Value → α → Prop) (css : List (List Value)) (ds : List α) : Prop :=
  css.length = ds.length ∧ ∀ i (hi : i < ds.length) (hc : i < css.length), rd css[i] ds[i]

theorem flatten_len {k : Nat} {css : List (List Value)} (h : ∀ i (hc : i < css.length), (css[i]).length = k) : css.flatten.length = css.length * k := by
  induction css with
  | nil => simp
  | cons c r ih =>
    rw [List.flatten_cons, List.length_append, ih (fun i hc => by have := h (i + 1) (by simpa using hc); rwa [List.getElem_cons_succ] at this), List.length_cons, Nat.add_mul]
    have := h 0 (by simp)
    simp at this
    omega
theorem flatten_get {k : Nat} {css : List (List Value)} (h : ∀ i (hc : i < css.length), (css[i]).length = k) (i : Nat) (hi : i < css.length) (j : Nat) (u : Value) (hu : css[i][j]? = some u) : css.flatten[i * k + j]? = some u := by
  induction css generalizing i with
  | nil => simp at hi
  | cons c r ih =>
    have h0 : c.length = k := h 0 (by simp)
    cases i with
    | zero =>
      have hj : j < c.length := by
        have := (List.getElem?_eq_some_iff.1 hu).1
        simpa using this
      rw [List.flatten_cons, List.getElem?_append_left (by omega)]
      simpa using hu
    | succ i =>
      rw [List.flatten_cons, List.getElem?_append_right (by rw [h0, Nat.add_mul]; omega), h0, show (i + 1) * k + j - k = i * k + j by rw [Nat.add_mul]; omega]
      exact ih (fun i hc => by have := h (i + 1) (by simpa using hc); rwa [List.getElem_cons_succ] at this) i (by simpa using hi) (by simpa using hu)

def vSlice {α : Type} (V : View α) (e : TypeId) : View (List α) where
  k := 1
  rd w cs ds := ∃ (ao : Option Addr) (cap : Nat) (css : List (List Value)), cs = [.slice ao ds.length cap] ∧ ds.length ≤ cap ∧ cap ≤ maxLen ∧ (ao = none → cap = 0) ∧ css.length = ds.length ∧
    (∀ i (hi : i < ds.length) (hc : i < css.length), V.rd w css[i] ds[i]) ∧
    (ds ≠ [] → ∃ b off, ao = some ⟨b, off, none⟩ ∧ b < w.heap.size ∧ ∀ j u, css.flatten[j]? = some u → w.cell? ⟨b, off + j, none⟩ = some u)
  own w fp cs ds := (cs = [.slice none 0 0] ∧ ds = [] ∧ fp = []) ∨ ∃ (b cap : Nat) (blk : Array Value) (css : List (List Value)) (fps : List (List Nat)), cs = [.slice (some ⟨b, 0, none⟩) ds.length cap] ∧ w.heap[b]? = some (.cells blk e (0, 0)) ∧
    ds.length ≤ cap ∧ cap ≤ maxLen ∧ blk.size = cap * V.k ∧ blk.toList.take (ds.length * V.k) = css.flatten ∧ fp = b :: fps.flatten ∧ css.length = ds.length ∧ fps.length = ds.length ∧
    ∀ i (hi : i < ds.length) (hc : i < css.length) (hf : i < fps.length), V.own w fps[i] css[i] ds[i]
  len := by rintro w cs ds ⟨ao, cap, css, rfl, _⟩; rfl
  one := by rintro w cs ds ⟨ao, cap, css, rfl, _⟩ u hu; simp at hu; subst hu; rfl
  grow := by
    rintro w w' cs ds ⟨ao, cap, css, rfl, h1, h2, h3, h4, h5, h6⟩ g
    refine ⟨ao, cap, css, rfl, h1, h2, h3, h4, fun i hi hc => V.grow (h5 i hi hc) g, fun hne => ?_⟩
    obtain ⟨b, off, e, hb, hcell⟩ := h6 hne
    refine ⟨b, off, e, ?_, fun j u hj => g.cell (hcell j u hj)⟩
    have := g b hb
    rw [Array.getElem?_eq_getElem hb] at this
    exact (Array.getElem?_eq_some_iff.1 this).1
  toRd := by
    rintro w fp cs ds (⟨rfl, rfl, rfl⟩ | ⟨b, cap, blk, css, fps, rfl, hb, h1, h2, h3, h4, rfl, h5, h6, h7⟩)
    · exact ⟨none, 0, [], rfl, Nat.le_refl _, Nat.zero_le _, fun _ => rfl, rfl, fun i hi => absurd hi (by simp), fun h => absurd rfl h⟩
    · refine ⟨_, cap, css, rfl, h1, h2, (fun h => by cases h), h5, fun i hi hc => V.toRd (h7 i hi hc (by omega)), fun _ => ⟨b, 0, rfl, World.lt_of_get hb, fun j u hj => ?_⟩⟩
      rw [World.cell?_of_get hb, ← h4] at *
      rw [List.getElem?_take] at hj
      split at hj
      · rw [Nat.zero_add]
        simpa using hj
      · cases hj
  frame := by
    rintro w w' fp cs ds (⟨rfl, rfl, rfl⟩ | ⟨b, cap, blk, css, fps, rfl, hb, h1, h2, h3, h4, rfl, h5, h6, h7⟩) g
    · exact .inl ⟨rfl, rfl, rfl⟩
    · refine .inr ⟨b, cap, blk, css, fps, rfl, (g b (by simp)).trans hb, h1, h2, h3, h4, rfl, h5, h6, fun i hi hc hf => V.frame (h7 i hi hc hf) fun c hcb => g c ?_⟩
      exact List.mem_cons_of_mem _ (List.mem_flatten.2 ⟨_, List.getElem_mem hf, hcb⟩)
  lt := by
    rintro w fp cs ds (⟨rfl, rfl, rfl⟩ | ⟨b, cap, blk, css, fps, rfl, hb, h1, h2, h3, h4, rfl, h5, h6, h7⟩) c hc
    · cases hc
    · rcases List.mem_cons.1 hc with rfl | hc
      · exact World.lt_of_get hb
      · obtain ⟨l, hl, hcl⟩ := List.mem_flatten.1 hc
        obtain ⟨i, hi, rfl⟩ := List.getElem_of_mem hl
        exact V.lt (h7 i (by omega) (by omega) hi) c hcl

section
variable {α : Type} {V : View α} {e : TypeId} {w : World} {v : Value} {ds : List α}
/-- the shape of a slice that reads as ds, and its elements' cells -/
theorem vSlice.shape (h : (vSlice V e).rd w [v] ds) : ∃ ao cap, v = .slice ao ds.length cap ∧ ds.length ≤ cap ∧ cap ≤ maxLen ∧ (ao = none → cap = 0) ∧
    (∀ i (hi : i < ds.length), ∃ b off cs, ao = some ⟨b, off, none⟩ ∧ b < w.heap.size ∧ V.rd w cs ds[i] ∧ ∀ j u, cs[j]? = some u → w.cell? ⟨b, off + i * V.k + j, none⟩ = some u) := by
  obtain ⟨ao, cap, css, hv, h1, h2, h3, h4, h5, h6⟩ := h
  simp only [List.cons.injEq, and_true] at hv
  refine ⟨ao, cap, hv, h1, h2, h3, fun i hi => ?_⟩
  obtain ⟨b, off, ea, hb, hcell⟩ := h6 (by intro hz; subst hz; simp at hi)
  refine ⟨b, off, css[i], ea, hb, h5 i hi (by omega), fun j u hj => ?_⟩
  rw [Nat.add_assoc]
  exact hcell _ u (flatten_get (fun i hc => V.len (h5 i (by omega) hc)) i (by omega) j u hj)
end
end Go
namespace Go
open Go.RowKit
/-- a struct of one-cell fields that hold no address -/
def vRow {α : Type} (row : α → List Value) (k : Nat) (ok : α → Prop) (hk : ∀ d, (row d).length = k) (h1 : ∀ d, ∀ u ∈ row d, u.oneCell' = true) : View α where
  k := k
  rd _ cs d := cs = row d ∧ ok d
  own _ fp cs d := fp = [] ∧ cs = row d ∧ ok d
  len h := by rw [h.1]; exact hk _
  one h := by rw [h.1]; exact h1 _
  grow h _ := h
  toRd h := h.2
  frame h _ := h
  lt h := by rw [h.1]; simp
def vInt : View Int := vRow (fun n => [.int .i64 n]) 1 (fun _ => True) (fun _ => rfl) (by simp [Value.oneCell'])
def vBool : View Bool := vRow (fun n => [.bool n]) 1 (fun _ => True) (fun _ => rfl) (by simp [Value.oneCell'])
def vStr : View ByteArray := vRow (fun n => [.string n]) 1 (fun s => s.size ≤ 9223372036854775807) (fun _ => rfl) (by simp [Value.oneCell'])
end Go
namespace Go.Proofs.YtedgenmbdjadkaaGreatDoor
open Go.RowKit
/-- what 'left' is behind a measure of wt -/
def leftOf (left : Int) (wt : Nat) : Int := if (wt : Int) ≤ left then left - wt else -1
theorem leftOf_pos {left : Int} {a : Nat} (h : ((a : Nat) : Int) ≤ left) : leftOf left a = left - a := by
  unfold leftOf
  rw [if_pos h]
theorem leftOf_none {left : Int} {a : Nat} (h : ¬ ((a : Nat) : Int) ≤ left) : leftOf left a = -1 := by
  unfold leftOf
  rw [if_neg h]
theorem leftOf_add {left : Int} {a b : Nat} (h : ((a : Nat) : Int) ≤ left) : leftOf (leftOf left a) b = leftOf left (a + b) := by
  unfold leftOf
  rw [if_pos h]
  by_cases h2 : (b : Int) ≤ left - a
  · rw [if_pos h2, if_pos (by omega)]; omega
  · rw [if_neg h2, if_neg (by omega)]
theorem leftOf_neg {left : Int} {a b : Nat} (h : ¬ ((a : Nat) : Int) ≤ left) : leftOf left (a + b) = -1 := by
  unfold leftOf
  rw [if_neg (by omega)]
def wtS {α : Type} (wt : α → Nat) (ds : List α) : Nat := ds.length + (ds.map wt).sum
end Go.Proofs.YtedgenmbdjadkaaGreatDoor
namespace Go
open Go.RowKit
/-- what a call has just made -/
structure Fresh {α : Type} (V : View α) (w w' : World) (fp : List Nat) (cs : List Value) (d : α) : Prop where
  own : V.own w' fp cs d
  nodup : fp.Nodup
  lo : ∀ b ∈ fp, w.heap.size ≤ b
theorem vSlice.ownRow {α : Type} {row : α → List Value} {k : Nat} {ok : α → Prop} {hk : ∀ d, (row d).length = k} {h1 : ∀ d, ∀ u ∈ row d, u.oneCell' = true} {e : TypeId} {w : World} {b cap n : Nat} {blk : Array Value} {ds : List α}
    (h : w.heap[b]? = some (.cells blk e (0, 0))) (hl : n = ds.length) (hn : n ≤ cap) (hm : cap ≤ maxLen) (hs : blk.size = cap * k) (ht : blk.toList.take (n * k) = ds.flatMap row) (hok : ∀ d ∈ ds, ok d) :
    (vSlice (vRow row k ok hk h1) e).own w [b] [.slice (some ⟨b, 0, none⟩) n cap] ds := by
  subst hl
  refine .inr ⟨b, cap, blk, ds.map row, ds.map fun _ => [], rfl, h, hn, hm, hs, ?_, ?_, by simp, by simp, ?_⟩
  · rw [← List.flatMap_def]; exact ht
  · have : (ds.map fun _ => ([] : List Nat)).flatten = [] := by
      rw [List.flatten_eq_nil_iff]
      intro l hl
      obtain ⟨_, _, rfl⟩ := List.mem_map.1 hl
      rfl
    rw [this]
  · intro i hi hc hf
    refine ⟨by simp, by simp, hok _ (List.getElem_mem hi)⟩
theorem vSlice.freshRow {α : Type} {row : α → List Value} {k : Nat} {ok : α → Prop} {hk : ∀ d, (row d).length = k} {h1 : ∀ d, ∀ u ∈ row d, u.oneCell' = true} {e : TypeId} {w : World} {X : Ext} {n : Nat} {blk : Array Value} {ds : List α}
    (hl : n = ds.length) (hm : n ≤ 9223372036854775807) (hs : blk.size = n * k) (ht : blk.toList.take (n * k) = ds.flatMap row) (hok : ∀ d ∈ ds, ok d) :
    Fresh (vSlice (vRow row k ok hk h1) e) w ((w.alloc (.cells blk e)).ext X) [w.heap.size] [.slice (some ⟨w.heap.size, 0, none⟩) n n] ds := by
  refine ⟨View.ownExt (vSlice.ownRow (blk := blk) ?_ hl (Nat.le_refl _) (by unfold maxLen; omega) hs ht hok) X, by simp, by simp⟩
  show (w.heap.push (.cells blk e))[w.heap.size]? = _
  simp
end Go
namespace Go
open Go.RowKit
theorem take_set1' {cs : Array Value} {n m p : Nat} {L : List Value} {v : Value} (h : cs.toList.take n = L) (hm : m = n) (hp : p = n + 1) (hn : n < cs.size) : (cs.setIfInBounds m v).toList.take p = L ++ [v] := by
  subst hm hp
  exact take_set1 h hn
/-- a call's own new value -/
def Made {α : Type} (V : View α) (w : World) (d : α) : Ending → World → Prop := fun e w' => ∃ v' fp, e = .returned v' ∧ Fresh V w w' fp [v'] d ∧ Below w.heap.size w w'
/-- a call's own new struct -/
def MadeA {α : Type} (V : View α) (w : World) (d : α) : Ending → World → Prop := fun e w' => ∃ (cs : List Value) (fp : List Nat), e = .returned (.agg cs.toArray) ∧ Fresh V w w' fp cs d ∧ Below w.heap.size w w'
end Go
namespace Go
open Go.RowKit
theorem vSlice.form {α : Type} {V : View α} {e : TypeId} {w : World} {v : Value} {ds : List α} (h : (vSlice V e).rd w [v] ds) : ∃ ao cap, v = .slice ao ds.length cap := by
  obtain ⟨ao, cap, rfl, _⟩ := vSlice.shape h
  exact ⟨ao, cap, rfl⟩
/-- places of one list, in a range -/
structure Sp (lo hi : Nat) (fp : List Nat) : Prop where
  nodup : fp.Nodup
  lo : ∀ b ∈ fp, lo ≤ b
  hi : ∀ b ∈ fp, b < hi
theorem Sp.nil (lo hi : Nat) : Sp lo hi [] := ⟨List.nodup_nil, by simp, by simp⟩
theorem Sp.append {lo mid mid' hi : Nat} {f g : List Nat} (h : Sp lo mid f) (h' : Sp mid' hi g) (h0 : lo ≤ mid') (h1 : mid ≤ mid') (h2 : mid ≤ hi) : Sp lo hi (f ++ g) := by
  refine ⟨List.nodup_append.2 ⟨h.nodup, h'.nodup, fun a ha b hb e => ?_⟩, fun b hb => ?_, fun b hb => ?_⟩
  · have := h.hi a ha
    have := h'.lo b hb
    omega
  · rcases List.mem_append.1 hb with hb | hb
    · exact h.lo b hb
    · exact Nat.le_trans h0 (h'.lo b hb)
  · rcases List.mem_append.1 hb with hb | hb
    · exact Nat.lt_of_lt_of_le (h.hi b hb) h2
    · exact h'.hi b hb
theorem Sp.mono {lo hi lo' hi' : Nat} {f : List Nat} (h : Sp lo hi f) (h0 : lo' ≤ lo) (h1 : hi ≤ hi') : Sp lo' hi' f :=
  ⟨h.nodup, fun b hb => Nat.le_trans h0 (h.lo b hb), fun b hb => Nat.lt_of_lt_of_le (h.hi b hb) h1⟩
theorem Fresh.sp {α : Type} {V : View α} {w w' : World} {fp : List Nat} {cs : List Value} {d : α} (h : Fresh V w w' fp cs d) : Sp w.heap.size w'.heap.size fp := ⟨h.nodup, h.lo, V.lt h.own⟩
/-- A begins B -/
def Pre (A B : Array Obj) : Prop := ∃ R, B = A ++ R
theorem Pre.refl (A : Array Obj) : Pre A A := ⟨#[], by simp⟩
theorem Pre.app {A B : Array Obj} (h : Pre A B) (R : Array Obj) : Pre A (B ++ R) := by
  obtain ⟨S, rfl⟩ := h
  exact ⟨S ++ R, by rw [Array.append_assoc]⟩
theorem World.ext_get_ge (w : World) (X : Ext) {k : Nat} (h : w.heap.size ≤ k) : (w.ext X).heap[k]? = X.bs[k - w.heap.size]? := by
  show (w.heap ++ X.bs)[k]? = _
  rw [Array.getElem?_append_right h]
/-- two worlds agree on the blocks from n on that the first has -/
theorem tail_agree {a b : World} {A B : Array Obj} {d d' : Nat} (hs : a.heap.size = b.heap.size) (hp : Pre A B) {k : Nat} (h1 : a.heap.size ≤ k) (h2 : k < (a.ext ⟨A, d⟩).heap.size) : (b.ext ⟨B, d'⟩).heap[k]? = (a.ext ⟨A, d⟩).heap[k]? := by
  obtain ⟨R, rfl⟩ := hp
  rw [World.ext_get_ge _ _ h1, World.ext_get_ge _ _ (by omega)]
  rw [World.ext_size] at h2
  simp only at h2 ⊢
  rw [Array.getElem?_append_left (by omega), hs]
theorem View.ownTail {α : Type} {V : View α} {a b : World} {A B : Array Obj} {d d' : Nat} {fp : List Nat} {cs : List Value} {x : α} (h : V.own (a.ext ⟨A, d⟩) fp cs x) (lo : ∀ k ∈ fp, a.heap.size ≤ k) (hs : a.heap.size = b.heap.size) (hp : Pre A B) :
    V.own (b.ext ⟨B, d'⟩) fp cs x :=
  V.frame h fun k hk => tail_agree hs hp (lo k hk) (V.lt h k hk)
theorem World.block_ext0 (w : World) (o : Obj) (X : Ext) : ((w.alloc o).ext X).heap[w.heap.size]? = some o := by
  rw [World.ext_get _ _ (by simp)]
  show (w.heap.push o)[w.heap.size]? = _
  simp
/-- the rows of a slice that a call owns -/
structure RowsOwn {α : Type} (V : View α) (w : World) (css : List (List Value)) (fps : List (List Nat)) (ds : List α) : Prop where
  cl : css.length = ds.length
  fl : fps.length = ds.length
  el : ∀ i (hi : i < ds.length) (hc : i < css.length) (hf : i < fps.length), V.own w fps[i] css[i] ds[i]
theorem RowsOwn.nil {α : Type} (V : View α) (w : World) : RowsOwn V w [] [] [] := ⟨rfl, rfl, fun i hi => absurd hi (by simp)⟩
theorem RowsOwn.snoc {α : Type} {V : View α} {w : World} {css : List (List Value)} {fps : List (List Nat)} {ds : List α} (h : RowsOwn V w css fps ds) {f : List Nat} {c : List Value} {d : α} (h' : V.own w f c d) : RowsOwn V w (css ++ [c]) (fps ++ [f]) (ds ++ [d]) := by
  obtain ⟨cl, fl, el⟩ := h
  refine ⟨by simp [cl], by simp [fl], fun i hi hc hf => ?_⟩
  simp only [List.length_append, List.length_singleton] at hi
  by_cases e : i < ds.length
  · rw [List.getElem_append_left (by omega), List.getElem_append_left (by omega), List.getElem_append_left e]
    exact el i e _ _
  · have : i = ds.length := by omega
    subst this
    rw [List.getElem_append_right (by omega), List.getElem_append_right (by omega), List.getElem_append_right (by omega)]
    simpa using h'
theorem RowsOwn.frame {α : Type} {V : View α} {w w' : World} {css : List (List Value)} {fps : List (List Nat)} {ds : List α} (h : RowsOwn V w css fps ds) (g : ∀ b ∈ fps.flatten, w'.heap[b]? = w.heap[b]?) : RowsOwn V w' css fps ds :=
  ⟨h.cl, h.fl, fun i hi hc hf => V.frame (h.el i hi hc hf) fun b hb => g b (List.mem_flatten.2 ⟨_, List.getElem_mem hf, hb⟩)⟩
theorem RowsOwn.lt {α : Type} {V : View α} {w : World} {css : List (List Value)} {fps : List (List Nat)} {ds : List α} (h : RowsOwn V w css fps ds) : ∀ b ∈ fps.flatten, b < w.heap.size := by
  intro b hb
  obtain ⟨l, hl, hbl⟩ := List.mem_flatten.1 hb
  obtain ⟨i, hi, rfl⟩ := List.getElem_of_mem hl
  exact V.lt (h.el i (by have := h.fl; omega) (by have := h.fl; have := h.cl; omega) hi) b hbl
theorem RowsOwn.tail {α : Type} {V : View α} {a b : World} {A B : Array Obj} {d d' : Nat} {css : List (List Value)} {fps : List (List Nat)} {ds : List α} (h : RowsOwn V (a.ext ⟨A, d⟩) css fps ds) (lo : ∀ k ∈ fps.flatten, a.heap.size ≤ k) (hs : a.heap.size = b.heap.size) (hp : Pre A B) :
    RowsOwn V (b.ext ⟨B, d'⟩) css fps ds := h.frame fun k hk => tail_agree hs hp (lo k hk) (h.lt k hk)
theorem vSlice.ownRows {α : Type} {V : View α} {e : TypeId} {w : World} {b cap n : Nat} {blk : Array Value} {ds : List α} {css : List (List Value)} {fps : List (List Nat)}
    (h : w.heap[b]? = some (.cells blk e (0, 0))) (hl : n = ds.length) (hn : n ≤ cap) (hm : cap ≤ maxLen) (hs : blk.size = cap * V.k) (ht : blk.toList.take (n * V.k) = css.flatten) (hr : RowsOwn V w css fps ds) :
    (vSlice V e).own w (b :: fps.flatten) [.slice (some ⟨b, 0, none⟩) n cap] ds := by
  subst hl
  exact .inr ⟨b, cap, blk, css, fps, rfl, h, hn, hm, hs, ht, rfl, hr.cl, hr.fl, hr.el⟩
end Go
namespace Go.Proofs.YtedgenmbdjadkaaGreatDoor
open Go.ChangeShapes Go.WideShapes Go.ChangeAt Go.RowKit

theorem quietE {P : Program} {f : FuncId} {args : Array Value} {w : World} {X : Ext} {n : Nat} {v : Value} (h : Calls P f args (w.ext ⟨X.bs, X.dr + n⟩) fun e w' => e = .returned v ∧ w' = w.ext ⟨X.bs, X.dr + n⟩) :
    Calls P f args (w.ext ⟨X.bs, X.dr + n⟩) fun e w'' => e = .returned v ∧ ∃ m, w'' = (w.ext X).drewN m := h.mono fun _ _ ⟨a, b⟩ => ⟨a, n, b⟩
def inB (n lo hi : Int) : Bool := decide (lo ≤ n) && decide (n ≤ hi)
theorem spec_l01In (n lo hi : Int) (w : World) :
    Calls Tryz.prog 36 #[.int .i64 n, .int .i64 lo, .int .i64 hi] w fun e w' => e = .returned (.bool (inB n lo hi)) ∧ w' = w := by
  by_cases h1 : lo ≤ n
  · by_cases h2 : n ≤ hi
    · have hq : inB n lo hi = true := by unfold inB; rw [decide_eq_true h1, decide_eq_true h2]; rfl
      rw [hq]
      clear hq
      go_enter Tryz.func36, Tryz.ntmps36
      go_wp2
      go_ret
      exact ⟨rfl, rfl⟩
    · have hq : inB n lo hi = false := by unfold inB; rw [decide_eq_true h1, decide_eq_false h2]; rfl
      rw [hq]
      clear hq
      go_enter Tryz.func36, Tryz.ntmps36
      go_wp2
      go_ret
      exact ⟨rfl, rfl⟩
  · have hq : inB n lo hi = false := by unfold inB; rw [decide_eq_false h1]; rfl
    rw [hq]
    clear hq
    go_enter Tryz.func36, Tryz.ntmps36
    go_wp2
    go_ret
    exact ⟨rfl, rfl⟩
theorem impl_within (n lo hi : Int) (w : World) :
    Calls Tryz.prog 38 #[.int .i64 n, .int .i64 lo, .int .i64 hi] w fun e w' => e = .returned (.bool (inB n lo hi)) ∧ w' = w := by
  by_cases h1 : lo ≤ n
  · by_cases h2 : n ≤ hi
    · have hq : inB n lo hi = true := by unfold inB; rw [decide_eq_true h1, decide_eq_true h2]; rfl
      rw [hq]
      clear hq
      go_enter Tryz.func38, Tryz.ntmps38
      go_wp2
      go_ret
      exact ⟨rfl, rfl⟩
    · have hq : inB n lo hi = false := by unfold inB; rw [decide_eq_true h1, decide_eq_false h2]; rfl
      rw [hq]
      clear hq
      go_enter Tryz.func38, Tryz.ntmps38
      go_wp2
      go_ret
      exact ⟨rfl, rfl⟩
  · have hq : inB n lo hi = false := by unfold inB; rw [decide_eq_false h1]; rfl
    rw [hq]
    clear hq
    go_enter Tryz.func38, Tryz.ntmps38
    go_wp2
    go_ret
    exact ⟨rfl, rfl⟩
end Go.Proofs.YtedgenmbdjadkaaGreatDoor
namespace Go.Proofs.YtedgenmbdjadkaaGreatDoor
open Go.ChangeShapes Go.WideShapes Go.ChangeAt Go.RowKit

def okByte (c : UInt8) : Bool := inB (c.toNat : Int) 33 126 && !((c.toNat : Int) == 42)
def keyOk (s : ByteArray) : Bool := s.data.toList.all okByte && inB (s.size : Int) 1 40
theorem keyOk_no (s : ByteArray) (n : Nat) (h : (s.data.toList.take n).all okByte = false) : keyOk s = false := by
  unfold keyOk
  have : s.data.toList.all okByte = false := by
    cases hp : s.data.toList.all okByte with
    | false => rfl
    | true =>
      rw [List.all_eq_true] at hp
      have : (s.data.toList.take n).all okByte = true := by
        rw [List.all_eq_true]
        exact fun x hx => hp x (List.mem_of_mem_take hx)
      rw [this] at h
      cases h
  rw [this]
  rfl
set_option maxRecDepth 100000 in
theorem spec_KeyOk (s : ByteArray) (w : World) (hs : s.size ≤ 9223372036854775807) :
    Calls Tryz.prog 48 #[.string s] w fun e w' => e = .returned (.bool (keyOk s)) ∧ w' = w := by
  go_enter Tryz.func48, Tryz.ntmps48
  go_wp2
  go_loopw [3] (fun k wr => ∃ (n : Nat), k = .int .i64 n ∧ n ≤ s.size ∧ wr = w ∧ (s.data.toList.take n).all okByte = true) (fun k _ => s.size - (intOf k).toNat)
  case atStart => exact ⟨0, rfl, by omega, rfl, rfl⟩
  case round =>
    obtain ⟨n, rfl, hn, rfl, hall⟩ := hrel
    have HA := Lib.hid hall
    clear hall
    by_cases hlt : (n : Int) < s.size
    case pos =>
      have hk : n < s.size := by omega
      have hst := take_snoc s n hk
      have HS := Lib.hid hst
      clear hst
      have hc0 : 0 ≤ (s[n].toNat : Int) := by omega
      have hc1 : (s[n].toNat : Int) ≤ 255 := by have := s[n].toNat_lt; omega
      have hob : okByte s[n] = okByte s[n] := rfl
      conv at hob => rhs; unfold okByte
      by_cases f1 : (s[n].toNat : Int) < 33
      case pos =>
        have HB : Hid (okByte s[n] = false) := by show _ = false; rw [hob]; unfold inB; simp; omega
        clear hob
        have HI : Hid (inB (s[n].toNat : Int) 33 126 = false) := by show _ = _; unfold inB; simp; omega
        go_wp2_with fail
        (go_at_call 36; refine (spec_l01In _ _ _ _).mono ?_; rintro e w' ⟨rfl, rfl⟩)
        first | rw [HI.out] | rw [show inB 42 33 126 = true from rfl]
        go_wp2
        go_ret
        exact ⟨by rw [keyOk_no s (n + 1) (by rw [HS.out, List.all_append]; simp [HB.out])]; rfl, rfl⟩
      by_cases f2 : 126 < (s[n].toNat : Int)
      case pos =>
        have HB : Hid (okByte s[n] = false) := by show _ = false; rw [hob]; unfold inB; simp; omega
        clear hob
        have HI : Hid (inB (s[n].toNat : Int) 33 126 = false) := by show _ = _; unfold inB; simp; omega
        go_wp2_with fail
        (go_at_call 36; refine (spec_l01In _ _ _ _).mono ?_; rintro e w' ⟨rfl, rfl⟩)
        first | rw [HI.out] | rw [show inB 42 33 126 = true from rfl]
        go_wp2
        go_ret
        exact ⟨by rw [keyOk_no s (n + 1) (by rw [HS.out, List.all_append]; simp [HB.out])]; rfl, rfl⟩
      by_cases f3 : (s[n].toNat : Int) = 42
      case pos =>
        have HB : Hid (okByte s[n] = false) := by show _ = false; rw [hob]; unfold inB; simp; omega
        clear hob
        have f4 : ((s[n].toNat : Int) == 42) = true := by simp [f3]
        have HI : Hid (inB (s[n].toNat : Int) 33 126 = true) := by show _ = _; unfold inB; simp; omega
        go_wp2_with fail
        (go_at_call 36; refine (spec_l01In _ _ _ _).mono ?_; rintro e w' ⟨rfl, rfl⟩)
        first | rw [HI.out] | rw [show inB 42 33 126 = true from rfl]
        go_wp2
        go_ret
        exact ⟨by rw [keyOk_no s (n + 1) (by rw [HS.out, List.all_append]; simp [HB.out])]; rfl, rfl⟩
      have HB : Hid (okByte s[n] = true) := by show _ = true; rw [hob]; unfold inB; simp; omega
      clear hob
      have f4 : ((s[n].toNat : Int) == 42) = false := by simp [f3]
      have HI : Hid (inB (s[n].toNat : Int) 33 126 = true) := by show _ = _; unfold inB; simp; omega
      go_wp2_with fail
      (go_at_call 36; refine (spec_l01In _ _ _ _).mono ?_; rintro e w' ⟨rfl, rfl⟩)
      first | rw [HI.out] | rw [show inB 42 33 126 = true from rfl]
      go_wp2
      go_roundw
      case rel => exact ⟨n + 1, by go_num, by omega, trivial, by rw [HS.out, List.all_append, HA.out]; simp [HB.out]⟩
      case measure => simp [intOf]; omega
    case neg =>
      have e : n = s.size := by omega
      subst e
      have ha := HA.out
      rw [List.take_of_length_le (by simp)] at ha
      have HF : Hid (keyOk s = inB s.size 1 40) := by show keyOk s = _; unfold keyOk; rw [ha]; rfl
      go_wp2_with fail
      (go_at_call 36; refine (spec_l01In _ _ _ _).mono ?_; rintro e w' ⟨rfl, rfl⟩)
      go_wp2
      go_ret
      exact ⟨by rw [HF.out]; rfl, rfl⟩
set_option maxRecDepth 100000 in
theorem impl_KeyOk (s : ByteArray) (w : World) (hs : s.size ≤ 9223372036854775807) :
    Calls Tryz.prog 53 #[.string s] w fun e w' => e = .returned (.bool (keyOk s)) ∧ w' = w := by
  go_enter Tryz.func53, Tryz.ntmps53
  go_wp2
  go_loopw [6] (fun k wr => ∃ (n : Nat), k = .int .i64 n ∧ n ≤ s.size ∧ wr = w ∧ (s.data.toList.take n).all okByte = true) (fun k _ => s.size - (intOf k).toNat)
  case atStart => exact ⟨0, rfl, by omega, rfl, rfl⟩
  case round =>
    obtain ⟨n, rfl, hn, rfl, hall⟩ := hrel
    have HA := Lib.hid hall
    clear hall
    by_cases hlt : (n : Int) < s.size
    case pos =>
      have hk : n < s.size := by omega
      have hst := take_snoc s n hk
      have HS := Lib.hid hst
      clear hst
      have hc0 : 0 ≤ (s[n].toNat : Int) := by omega
      have hc1 : (s[n].toNat : Int) ≤ 255 := by have := s[n].toNat_lt; omega
      have hob : okByte s[n] = okByte s[n] := rfl
      conv at hob => rhs; unfold okByte
      by_cases f1 : (s[n].toNat : Int) < 33
      case pos =>
        have HB : Hid (okByte s[n] = false) := by show _ = false; rw [hob]; unfold inB; simp; omega
        clear hob
        have HI : Hid (inB (s[n].toNat : Int) 33 126 = false) := by show _ = _; unfold inB; simp; omega
        go_wp2
        go_ret
        exact ⟨by rw [keyOk_no s (n + 1) (by rw [HS.out, List.all_append]; simp [HB.out])]; rfl, rfl⟩
      by_cases f2 : 126 < (s[n].toNat : Int)
      case pos =>
        have HB : Hid (okByte s[n] = false) := by show _ = false; rw [hob]; unfold inB; simp; omega
        clear hob
        have HI : Hid (inB (s[n].toNat : Int) 33 126 = false) := by show _ = _; unfold inB; simp; omega
        go_wp2
        go_ret
        exact ⟨by rw [keyOk_no s (n + 1) (by rw [HS.out, List.all_append]; simp [HB.out])]; rfl, rfl⟩
      by_cases f3 : (s[n].toNat : Int) = 42
      case pos =>
        have HB : Hid (okByte s[n] = false) := by show _ = false; rw [hob]; unfold inB; simp; omega
        clear hob
        have f4 : ((s[n].toNat : Int) == 42) = true := by simp [f3]
        have HI : Hid (inB (s[n].toNat : Int) 33 126 = true) := by show _ = _; unfold inB; simp; omega
        go_wp2
        go_ret
        exact ⟨by rw [keyOk_no s (n + 1) (by rw [HS.out, List.all_append]; simp [HB.out])]; rfl, rfl⟩
      have HB : Hid (okByte s[n] = true) := by show _ = true; rw [hob]; unfold inB; simp; omega
      clear hob
      have f4 : ((s[n].toNat : Int) == 42) = false := by simp [f3]
      have HI : Hid (inB (s[n].toNat : Int) 33 126 = true) := by show _ = _; unfold inB; simp; omega
      go_wp2
      go_roundw
      case rel => exact ⟨n + 1, by go_num, by omega, trivial, by rw [HS.out, List.all_append, HA.out]; simp [HB.out]⟩
      case measure => simp [intOf]; omega
    case neg =>
      have e : n = s.size := by omega
      subst e
      have ha := HA.out
      rw [List.take_of_length_le (by simp)] at ha
      have HF : Hid (keyOk s = inB s.size 1 40) := by show keyOk s = _; unfold keyOk; rw [ha]; rfl
      go_wp2_with fail
      (go_at_call 38; refine (impl_within _ _ _ _).mono ?_; rintro e w' ⟨rfl, rfl⟩)
      go_wp2
      go_ret
      exact ⟨by rw [HF.out]; rfl, rfl⟩
end Go.Proofs.YtedgenmbdjadkaaGreatDoor
namespace Go
open Go.RowKit
/-- w' is w, grown, but for the blocks of fp -/
structure Upon (fp : List Nat) (w w' : World) : Prop where
  os : w'.os = w.os
  tape : w'.tape = w.tape
  output : w'.output = w.output
  size : w.heap.size ≤ w'.heap.size
  block : ∀ b, b < w.heap.size → b ∉ fp → w'.heap[b]? = w.heap[b]?
theorem Upon.refl (fp : List Nat) (w : World) : Upon fp w w := ⟨rfl, rfl, rfl, Nat.le_refl _, fun _ _ _ => rfl⟩
theorem Upon.trans {fp : List Nat} {a b c : World} (h : Upon fp a b) (h' : Upon fp b c) : Upon fp a c :=
  ⟨h'.os.trans h.os, h'.tape.trans h.tape, h'.output.trans h.output, Nat.le_trans h.size h'.size, fun k hk hn => (h'.block k (Nat.lt_of_lt_of_le hk h.size) hn).trans (h.block k hk hn)⟩
theorem Upon.mono {fp fp' : List Nat} {a b : World} (h : Upon fp a b) (hs : ∀ x ∈ fp, x ∈ fp') : Upon fp' a b :=
  ⟨h.os, h.tape, h.output, h.size, fun k hk hn => h.block k hk (fun hx => hn (hs k hx))⟩
theorem Upon.below {fp : List Nat} {a b : World} (h : Below a.heap.size a b) : Upon fp a b := ⟨h.os, h.tape, h.output, h.size, fun k hk _ => h.block k hk⟩
theorem Upon.toBelow {fp : List Nat} {B : Nat} {a b : World} (h : Upon fp a b) (hB : B ≤ a.heap.size) (hf : ∀ x ∈ fp, B ≤ x) : Below B a b :=
  ⟨h.os, h.tape, h.output, h.size, fun k hk => h.block k (Nat.lt_of_lt_of_le hk hB) (fun hx => absurd (hf k hx) (by omega))⟩
theorem Upon.setB {fp : List Nat} (w : World) {b : Nat} (o : Obj) (hb : b ∈ fp) : Upon fp w (w.setB b o) :=
  ⟨rfl, rfl, rfl, by rw [World.setB_size]; exact Nat.le_refl _, fun k _ hn => World.setB_get w b o k (fun e => hn (e ▸ hb))⟩
theorem Upon.setBExt {fp : List Nat} (w : World) {b : Nat} (o : Obj) (X : Ext) (hb : b ∈ fp) : Upon fp w ((w.setB b o).ext X) :=
  (Upon.setB w o hb).trans (Upon.below (((Below.refl _ _)).ofExt X))
theorem View.ownUpon {α : Type} {V : View α} {w w' : World} {fp fp' : List Nat} {cs : List Value} {d : α} (h : V.own w fp cs d) (g : Upon fp' w w') (hd : ∀ b ∈ fp, b ∉ fp') : V.own w' fp cs d :=
  V.frame h fun b hb => g.block b (V.lt h b hb) (hd b hb)
end Go
namespace Go.Proofs.YtedgenmbdjadkaaGreatDoor
open Go.ChangeShapes Go.WideShapes Go.ChangeAt Go.RowKit
def digB (n : Nat) : UInt8 := UInt8.ofNat (48 + n % 10)
def mtxtAux : Nat → Nat → ByteArray → ByteArray
  | 0, _, out => out
  | f + 1, k, out => if k = 0 then out else mtxtAux f (k / 10) (⟨#[digB k]⟩ ++ out)
theorem mtxtAux_fuel : ∀ (f k : Nat) (out : ByteArray), k ≤ f → mtxtAux f k out = mtxtAux k k out := by
  intro f
  induction f using Nat.strongRecOn with
  | ind f ih =>
    intro k out hk
    match f, k, hk with
    | 0, 0, _ => rfl
    | f + 1, 0, _ => rfl
    | f + 1, k + 1, hk =>
      simp only [mtxtAux, if_neg (Nat.succ_ne_zero k)]
      rw [ih f (Nat.lt_succ_self f) _ _ (by omega), ih k (by omega) _ _ (by omega)]
theorem mtxtAux_size : ∀ (f k : Nat) (out : ByteArray), (mtxtAux f k out).size ≤ f + out.size := by
  intro f
  induction f with
  | zero => intro k out; simp [mtxtAux]
  | succ f ih =>
    intro k out
    simp only [mtxtAux]
    split
    · omega
    · refine Nat.le_trans (ih _ _) ?_
      have : (⟨#[digB k]⟩ ++ out : ByteArray).size = 1 + out.size := by rw [ByteArray.size_append]; rfl
      omega
def mtext (k : Int) : ByteArray := if k ≤ 0 then ⟨#[109, 48]⟩ else ⟨#[109]⟩ ++ mtxtAux k.toNat k.toNat ⟨#[]⟩
theorem mtext_size (k : Int) (h : k ≤ 4294967296) : (mtext k).size ≤ 9223372036854775807 := by
  unfold mtext
  split
  · decide
  · rw [ByteArray.size_append]
    have h1 := mtxtAux_size k.toNat k.toNat ⟨#[]⟩
    have h2 : (⟨#[109]⟩ : ByteArray).size = 1 := rfl
    have h3 : (⟨#[]⟩ : ByteArray).size = 0 := rfl
    omega
/-- a marked list -/
def marks {α : Type} (mk : Int → α) (c : Nat) (k : Int) (n : Nat) : List α := (List.range n).map fun i => mk (k + (c * i : Nat))
theorem marks_len {α : Type} (mk : Int → α) (c : Nat) (k : Int) (n : Nat) : (marks mk c k n).length = n := by simp [marks]
theorem marks_succ {α : Type} (mk : Int → α) (c : Nat) (k : Int) (n : Nat) : marks mk c k (n + 1) = marks mk c k n ++ [mk (k + (c * n : Nat))] := by
  simp [marks, List.range_succ]
theorem marks_get {α : Type} (mk : Int → α) (c : Nat) (k : Int) (n i : Nat) (h : i < (marks mk c k n).length) : (marks mk c k n)[i] = mk (k + (c * i : Nat)) := by
  simp [marks]
theorem marks_mem {α : Type} {mk : Int → α} {c : Nat} {k : Int} {n : Nat} {d : α} (h : d ∈ marks mk c k n) : ∃ i, i < n ∧ d = mk (k + (c * i : Nat)) := by
  simp only [marks, List.mem_map, List.mem_range] at h
  obtain ⟨i, hi, rfl⟩ := h
  exact ⟨i, hi, rfl⟩

theorem digit_toNat (n : Nat) : ((digB n).toNat : Int) = 48 + (n : Int) % 10 := by
  unfold digB
  rw [UInt8.toNat_ofNat']
  omega
theorem conv_one (w : World) (c : UInt8) (x : Int) (hx : x = (c.toNat : Int)) (b : Nat) (hb : b = w.heap.size) :
    Sem.run Tryz.prog (convert 28 9 (.slice (some ⟨b, 0, none⟩) 1 1)) (w.alloc (.cells #[.int .u8 x] 5)) = .ok (.string ⟨#[c]⟩) (w.alloc (.cells #[.int .u8 x] 5)) := by
  subst hb hx
  refine run_convert_bytes_back (w := w.alloc (.cells #[.int .u8 (c.toNat : Int)] 5)) (P := Tryz.prog) 28 9 5 ⟨w.heap.size, 0, none⟩ 1 [c] Tryz.underlying28 Tryz.underlying5 Tryz.underlying9 ?_
  intro j hj
  have : j = 0 := by simpa using hj
  subst this
  show (w.alloc _).cell? ⟨w.heap.size, 0, none⟩ = _
  simp [go_sem]
set_option maxRecDepth 100000 in
theorem laws_markText (k : Int) (w : World) (h0 : 0 ≤ k) (h1 : k ≤ 4294967296) :
    Calls Tryz.prog 77 #[.int .i64 k] w fun e w' => e = .returned (.string (mtext k)) ∧ Below w.heap.size w w' := by
  by_cases hz : k ≤ 0
  · have : mtext k = ⟨#[109, 48]⟩ := by unfold mtext; rw [if_pos hz]
    rw [this]
    go_enter Tryz.func77, Tryz.ntmps77
    go_wp2
    go_ret
    exact ⟨rfl, (by repeat (first | with_reducible exact Below.refl _ _ | with_reducible apply Below.ofExt | with_reducible apply Below.ofAlloc | with_reducible apply Below.drew | with_reducible apply Below.ofDrewN | with_reducible assumption | (with_reducible refine Below.setCell ?_ (by first | exact Nat.le_refl _ | (simp [go_sem]; done) | (simp [go_sem]; omega)) _)))⟩
  · have : mtext k = ⟨#[109]⟩ ++ mtxtAux k.toNat k.toNat ⟨#[]⟩ := by unfold mtext; rw [if_neg hz]
    rw [this]
    obtain ⟨m, rfl⟩ : ∃ m : Nat, k = m := ⟨k.toNat, by omega⟩
    simp only [Int.toNat_natCast]
    go_enter Tryz.func77, Tryz.ntmps77
    go_wp2
    go_loopw [0, 3] (fun kk o wr => ∃ (n : Nat) (s : ByteArray), kk = .int .i64 n ∧ n ≤ m ∧ Below w.heap.size w wr ∧ o = .string s ∧ mtxtAux n n s = mtxtAux m m ⟨#[]⟩ ∧ s.size + n ≤ m) (fun kk _ _ => (intOf kk).toNat)
    case atStart => exact ⟨m, ⟨#[]⟩, rfl, by omega, (by repeat (first | with_reducible exact Below.refl _ _ | with_reducible apply Below.ofExt | with_reducible apply Below.ofAlloc | with_reducible apply Below.drew | with_reducible apply Below.ofDrewN | with_reducible assumption | (with_reducible refine Below.setCell ?_ (by first | exact Nat.le_refl _ | (simp [go_sem]; done) | (simp [go_sem]; omega)) _))), rfl, rfl, by show 0 + m ≤ m; omega⟩
    case round =>
      obtain ⟨n, s, rfl, hn, hbel, rfl, haux, hsz⟩ := hrel
      obtain ⟨X, rfl⟩ := hbel.ext
      have HA := Lib.hid haux
      clear haux
      by_cases hlt : 0 < (n : Int)
      · have hk := conv_one (w.ext X) (digB n) (48 + (n : Int) % 10) (digit_toNat n).symm (w.heap.size + X.bs.size) (by rw [World.ext_size])
        have hst : mtxtAux n n s = mtxtAux (n / 10) (n / 10) (⟨#[digB n]⟩ ++ s) := by
          obtain ⟨p, rfl⟩ : ∃ p, n = p + 1 := ⟨n - 1, by omega⟩
          show (if p + 1 = 0 then s else mtxtAux p ((p + 1) / 10) _) = _
          rw [if_neg (by omega), mtxtAux_fuel p _ _ (by omega)]
        have HK := Lib.hid hst
        clear hst
        go_wp2
        go_roundw
        case rel =>
          refine ⟨n / 10, _, by go_num, by omega, (by repeat (first | with_reducible exact Below.refl _ _ | with_reducible apply Below.ofExt | with_reducible apply Below.ofAlloc | with_reducible apply Below.drew | with_reducible apply Below.ofDrewN | with_reducible assumption | (with_reducible refine Below.setCell ?_ (by first | exact Nat.le_refl _ | (simp [go_sem]; done) | (simp [go_sem]; omega)) _))), rfl, by rw [← HK.out]; exact HA.out, ?_⟩
          rw [ByteArray.size_append]
          have : (⟨#[digB n]⟩ : ByteArray).size = 1 := rfl
          omega
        case measure => simp [intOf]; omega
      · go_wp2
        go_ret
        have e : n = 0 := by omega
        subst e
        have h := HA.out
        exact ⟨by rw [← h]; rfl, (by repeat (first | with_reducible exact Below.refl _ _ | with_reducible apply Below.ofExt | with_reducible apply Below.ofAlloc | with_reducible apply Below.drew | with_reducible apply Below.ofDrewN | with_reducible assumption | (with_reducible refine Below.setCell ?_ (by first | exact Nat.le_refl _ | (simp [go_sem]; done) | (simp [go_sem]; omega)) _)))⟩
end Go.Proofs.YtedgenmbdjadkaaGreatDoor
namespace Go.Proofs.YtedgenmbdjadkaaGreatDoor
open Go.ChangeShapes Go.WideShapes Go.ChangeAt Go.RowKit

structure CellD where
  key : ByteArray
  val : ByteArray
def CellD.row (d : CellD) : List Value := [.string d.key, .string d.val]
def CellD.ok (d : CellD) : Prop := d.key.size ≤ 9223372036854775807 ∧ d.val.size ≤ 9223372036854775807
def CellD.wt (d : CellD) : Nat := d.key.size + d.val.size
def vCell : View CellD := vRow CellD.row 2 CellD.ok (fun _ => rfl) (fun d u hu => by simp [CellD.row] at hu; rcases hu with rfl | rfl <;> rfl)
def mkCell (k : Int) : CellD := ⟨mtext k, mtext (k + 1)⟩
theorem mkCell_ok (k : Int) (h : k ≤ 4294967280) : (mkCell k).ok := ⟨mtext_size _ (by omega), mtext_size _ (by omega)⟩
theorem marks_ok_Cell {k : Int} {n : Nat} (h : k + (2 * n : Nat) ≤ 4294967280) : ∀ d ∈ marks mkCell 2 k n, d.ok := by
  intro d hd
  obtain ⟨i, hi, rfl⟩ := marks_mem hd
  exact mkCell_ok _ (by omega)
theorem Tryz.elemCellS : Elem Tryz.prog 35 39 2 32 := Elem.of (.agg #[.string ⟨#[]⟩, .string ⟨#[]⟩]) Tryz.underlying35 (by kernel_rfl) rfl (by decide)
theorem laws_eqCell (x0 : ByteArray) (x1 : ByteArray) (w : World) :
    Calls Tryz.prog 76 #[.agg #[.string x0, .string x1], .agg #[.string x0, .string x1]] w fun e w' => e = .returned (.bool true) ∧ Below w.heap.size w w' := by
  go_enter Tryz.func76, Tryz.ntmps76
  go_wp2
  go_ret
  exact ⟨rfl, (by repeat (first | with_reducible exact Below.refl _ _ | with_reducible apply Below.ofExt | with_reducible apply Below.ofAlloc | with_reducible apply Below.drew | with_reducible apply Below.ofDrewN | with_reducible assumption | (with_reducible refine Below.setCell ?_ (by first | exact Nat.le_refl _ | (simp [go_sem]; done) | (simp [go_sem]; omega)) _)))⟩
set_option maxRecDepth 100000 in
theorem laws_eqCellS (v v' : Value) (ds : List CellD) (w : World) {e e' : TypeId} (hs : (vSlice vCell e).rd w [v] ds) (hs' : (vSlice vCell e').rd w [v'] ds) :
    Calls Tryz.prog 40 #[v, v'] w fun e w' => e = .returned (.bool true) ∧ Below w.heap.size w w' := by
  obtain ⟨ao, cap, rfl, hc1, hc2, hnil, hcell⟩ := vSlice.shape hs
  obtain ⟨ao', cap', rfl, hc1', hc2', hnil', hcell'⟩ := vSlice.shape hs'
  have HX := Lib.hid hcell
  have HX' := Lib.hid hcell'
  clear hcell hs hnil hcell' hs' hnil'
  unfold maxLen at hc2 hc2'
  go_enter Tryz.func40, Tryz.ntmps40
  go_wp2
  go_loopw [5] (fun k wr => ∃ (n : Nat) (X : Ext), k = .int .i64 n ∧ n ≤ ds.length ∧ wr = w.ext X) (fun k _ => ds.length - (intOf k).toNat)
  case atStart => exact ⟨0, ⟨#[], _⟩, rfl, by omega, (World.ext_nil _ _ rfl).symm⟩
  case round =>
    obtain ⟨n, X, rfl, hn, rfl⟩ := hrel
    by_cases hlt : (n : Int) < ds.length
    · have hk : n < ds.length := by omega
      obtain ⟨b, off, cs, rfl, hbl, hrd, hcell⟩ := HX.out n hk
      obtain ⟨b', off', cs', rfl, hbl', hrd', hcell'⟩ := HX'.out n hk
      generalize ds[n] = d at hrd hrd'
      obtain ⟨rfl, hok⟩ := hrd
      obtain ⟨rfl, hok'⟩ := hrd'
      obtain ⟨x0, x1⟩ := d
      have c0 := hcell 0 _ rfl
      have c1 := hcell 1 _ rfl
      have e0 := hcell' 0 _ rfl
      have e1 := hcell' 1 _ rfl
      clear hcell hcell'
      simp only [show vCell.k = 2 from rfl, Nat.add_zero] at c0 c1 e0 e1
      go_wp2
      refine wp_region_ord [(0,true),(1,true),(2,true),(3,true),(4,true),(5,true),(6,true),(7,true),(8,false),(9,true)] 10 (by kernel_rfl) (by kernel_rfl) ?_
      repeat (refine wpOrd_quiet rfl (fun K hK => ?_); go_simp; (try simp (disch := omega) only [IntWalk.i64_in]); refine hK _ ?_; clear hK K)
      refine wpOrd_grow rfl (fun K hK => ?_); go_simp; go_at_call 76; refine (laws_eqCell x0 x1 _).mono ?_; rintro e w' ⟨rfl, hb⟩; obtain ⟨X, rfl⟩ := hb.ext; clear hb; try go_simp; refine hK _ _ (by show Sx _ _; (try simp only [← Array.append_assoc]); repeat (first | with_reducible exact Sx.drew _ | with_reducible exact Sx.same _ _ _ _ | with_reducible exact ⟨_, rfl⟩ | with_reducible apply Sx.more | with_reducible apply Sx.ext | with_reducible apply Sx.alloc | with_reducible apply Sx.draw | with_reducible exact Sx.refl _)) ?_; clear hK K
      repeat (refine wpOrd_quiet rfl (fun K hK => ?_); go_simp; (try simp (disch := omega) only [IntWalk.i64_in]); refine hK _ ?_; clear hK K)
      refine wpOrd_nil ?_
      go_wp2
      go_roundw
      case rel => exact ⟨n + 1, _, by go_num, by omega, rfl⟩
      case measure => simp [intOf]; omega
    · go_wp2
      go_ret
      exact ⟨rfl, (by repeat (first | with_reducible exact Below.refl _ _ | with_reducible apply Below.ofExt | with_reducible apply Below.ofAlloc | with_reducible apply Below.drew | with_reducible apply Below.ofDrewN | with_reducible assumption | (with_reducible refine Below.setCell ?_ (by first | exact Nat.le_refl _ | (simp [go_sem]; done) | (simp [go_sem]; omega)) _)))⟩
set_option maxRecDepth 100000 in
theorem laws_markCellS (v : Value) (fp : List Nat) (ds : List CellD) (k : Int) (w : World) (hs : (vSlice vCell 39).own w fp [v] ds) (h0 : 0 ≤ k) (h1 : k + (2 * ds.length : Nat) ≤ 4294960000) :
    Calls Tryz.prog 41 #[v, .int .i64 k] w fun e w' => e = .returned (.int .i64 (k + (2 * ds.length : Nat))) ∧ (vSlice vCell 39).own w' fp [v] (marks mkCell 2 k ds.length) ∧ Upon fp w w' := by
  rcases hs with ⟨hv, rfl, rfl⟩ | ⟨b, cap, blk, css, fps, hv, hb, hn, hm, hsz, ht, rfl, hcl, hfl, hel⟩
  · simp only [List.cons.injEq, and_true] at hv
    subst hv
    go_enter Tryz.func41, Tryz.ntmps41
    go_wp2
    go_loopw [1, 5] (fun kk i wr => kk = .int .i64 k ∧ i = .int .i64 0 ∧ wr = w) (fun _ _ _ => 0)
    case atStart => exact ⟨rfl, rfl, rfl⟩
    case round =>
      obtain ⟨rfl, rfl, rfl⟩ := hrel
      go_wp2
      go_ret
      exact ⟨by simp, .inl ⟨rfl, rfl, rfl⟩, Upon.refl _ _⟩
  · simp only [List.cons.injEq, and_true] at hv
    subst hv
    have hfe : fps.flatten = [] := by
      rw [List.flatten_eq_nil_iff]
      intro l hl
      obtain ⟨i, hi, rfl⟩ := List.getElem_of_mem hl
      exact (hel i (by omega) (by omega) hi).1
    rw [hfe]
    have hbl := World.lt_of_get hb
    have hsz' : blk.size = cap * 2 := hsz
    clear hel ht hfe hcl hfl hsz
    generalize hnn : ds.length = N at hn h1
    clear hnn
    unfold maxLen at hm
    refine World.at_block hb ?_
    clear hb
    go_enter Tryz.func41, Tryz.ntmps41
    go_wp2
    go_loopw [1, 5] (fun kk i wr => ∃ (n : Nat) (cs : Array Value) (X : Ext) (m : Int), kk = .int .i64 m ∧ m = k + (2 * n : Nat) ∧ i = .int .i64 n ∧ n ≤ N ∧ wr = (w.setB b (.cells cs 39)).ext X ∧ cs.size = cap * 2 ∧ cs.toList.take (n * 2) = (marks mkCell 2 k n).flatMap CellD.row) (fun _ i _ => N - (intOf i).toNat)
    case atStart => exact ⟨0, blk, ⟨#[], _⟩, k, rfl, by simp, rfl, by omega, (World.ext_nil _ _ rfl).symm, hsz', by simp [marks]⟩
    case round =>
      obtain ⟨n, cs, X, m, rfl, hmk, rfl, hn2, rfl, hcs, htk⟩ := hrel
      have HT := Lib.hid htk
      have HSZ := Lib.hid hcs
      have HM := Lib.hid hmk
      clear htk hcs hsz'
      have hm0 : 0 ≤ m := by omega
      have hm1 : m ≤ 4294960000 := by omega
      by_cases hlt : (n : Int) < N
      · have hk : n < N := by omega
        have hm2 : m + 2 ≤ 4294960000 := by omega
        clear hmk
        have hsz2 : n * 2 + 2 ≤ cs.size := by rw [HSZ.out]; omega
        have l0 : n * 2 < cs.size := by omega
        have l1 : n * 2 + 1 < cs.size := by omega
        go_wp2_with fail
        (go_at_call 77; refine (laws_markText _ _ (by omega) (by omega)).mono ?_; rintro e w' ⟨rfl, hb⟩; obtain ⟨X, rfl⟩ := hb.ext; clear hb)
        go_wp2_with fail
        (go_at_call 77; refine (laws_markText _ _ (by omega) (by omega)).mono ?_; rintro e w' ⟨rfl, hb⟩; obtain ⟨X, rfl⟩ := hb.ext; clear hb)
        go_wp2
        go_roundw
        case rel =>
          refine ⟨n + 1, _, _, _, rfl, ?_, by go_num, by omega, rfl, ?_, ?_⟩
          · have := HM.out
            omega
          · simpa using HSZ.out
          · skip
            have h0 := take_set1' (v := .string (mtext m)) HT.out rfl rfl (by omega)
            have h1 := take_set1' (p := (n + 1) * 2) (v := .string (mtext (m + 1))) h0 rfl (by omega) (by simp; omega)
            rw [marks_succ, List.flatMap_append, ← HM.out]
            simpa [mkCell, CellD.row] using h1
        case measure => simp [intOf]; omega
      · clear hmk
        go_wp2
        go_ret
        have e : n = N := by omega
        subst e
        exact ⟨ret_int HM.out, View.ownExt (vSlice.ownRow (World.setB_at _ _ _ hbl) (marks_len _ _ _ _).symm hn (by unfold maxLen; exact hm) HSZ.out HT.out (marks_ok_Cell (by omega))) X, Upon.setBExt _ _ _ (by simp)⟩
set_option maxRecDepth 100000 in
theorem laws_heldCellS (v : Value) (k : Int) (N : Nat) (w : World) {e : TypeId} (hs : (vSlice vCell e).rd w [v] (marks mkCell 2 k N)) (h0 : 0 ≤ k) (h1 : k + (2 * N : Nat) ≤ 4294960000) :
    Calls Tryz.prog 42 #[v, .int .i64 k] w fun e w' => e = .returned (.int .i64 (k + (2 * N : Nat))) ∧ Below w.heap.size w w' := by
  obtain ⟨ao, cap, rfl, hc1, hc2, hnil, hcell⟩ := vSlice.shape hs
  have HX := Lib.hid hcell
  clear hcell hs hnil
  rw [marks_len] at hc1 ⊢
  unfold maxLen at hc2
  go_enter Tryz.func42, Tryz.ntmps42
  go_wp2
  go_loopw [1, 5] (fun kk i wr => ∃ (n : Nat) (m : Int), kk = .int .i64 m ∧ m = k + (2 * n : Nat) ∧ i = .int .i64 n ∧ n ≤ N ∧ Below w.heap.size w wr) (fun _ i _ => N - (intOf i).toNat)
  case atStart => exact ⟨0, k, rfl, by simp, rfl, by omega, (by repeat (first | with_reducible exact Below.refl _ _ | with_reducible apply Below.ofExt | with_reducible apply Below.ofAlloc | with_reducible apply Below.drew | with_reducible apply Below.ofDrewN | with_reducible assumption | (with_reducible refine Below.setCell ?_ (by first | exact Nat.le_refl _ | (simp [go_sem]; done) | (simp [go_sem]; omega)) _)))⟩
  case round =>
    obtain ⟨n, m, rfl, hmk, rfl, hn, hbel⟩ := hrel
    obtain ⟨X, rfl⟩ := hbel.ext
    have HM := Lib.hid hmk
    have hm0 : 0 ≤ m := by omega
    have hm1 : m ≤ 4294960000 := by omega
    by_cases hlt : (n : Int) < N
    · have hk : n < N := by omega
      have hm2 : m + 2 ≤ 4294960000 := by omega
      obtain ⟨b, off, cs, rfl, hbl, hrd, hcell⟩ := HX.out n (by rw [marks_len]; exact hk)
      rw [marks_get, ← hmk] at hrd
      clear hmk
      obtain ⟨rfl, hok⟩ := hrd
      have c0 := hcell 0 _ rfl
      have c1 := hcell 1 _ rfl
      clear hcell
      simp only [show vCell.k = 2 from rfl, Nat.add_zero, mkCell] at c0 c1
      go_wp2
      refine wp_region_ord [(0,true),(1,true),(2,true),(3,true),(4,true),(5,true),(6,false),(7,true)] 8 (by kernel_rfl) (by kernel_rfl) ?_
      repeat (refine wpOrd_quiet rfl (fun K hK => ?_); go_simp; (try simp (disch := omega) only [IntWalk.i64_in]); refine hK _ ?_; clear hK K)
      refine wpOrd_grow rfl (fun K hK => ?_); go_simp; go_at_call 77; refine (laws_markText _ _ (by omega) (by omega)).mono ?_; rintro e w' ⟨rfl, hb⟩; obtain ⟨X, rfl⟩ := hb.ext; clear hb; try go_simp; refine hK _ _ (by show Sx _ _; (try simp only [← Array.append_assoc]); repeat (first | with_reducible exact Sx.drew _ | with_reducible exact Sx.same _ _ _ _ | with_reducible exact ⟨_, rfl⟩ | with_reducible apply Sx.more | with_reducible apply Sx.ext | with_reducible apply Sx.alloc | with_reducible apply Sx.draw | with_reducible exact Sx.refl _)) ?_; clear hK K
      repeat (refine wpOrd_quiet rfl (fun K hK => ?_); go_simp; (try simp (disch := omega) only [IntWalk.i64_in]); refine hK _ ?_; clear hK K)
      refine wpOrd_nil ?_
      go_wp2
      refine wp_region_ord [(0,true),(1,true),(2,true),(3,true),(4,true),(5,true),(6,false),(7,true)] 8 (by kernel_rfl) (by kernel_rfl) ?_
      repeat (refine wpOrd_quiet rfl (fun K hK => ?_); go_simp; (try simp (disch := omega) only [IntWalk.i64_in]); refine hK _ ?_; clear hK K)
      refine wpOrd_grow rfl (fun K hK => ?_); go_simp; go_at_call 77; refine (laws_markText _ _ (by omega) (by omega)).mono ?_; rintro e w' ⟨rfl, hb⟩; obtain ⟨X, rfl⟩ := hb.ext; clear hb; try go_simp; refine hK _ _ (by show Sx _ _; (try simp only [← Array.append_assoc]); repeat (first | with_reducible exact Sx.drew _ | with_reducible exact Sx.same _ _ _ _ | with_reducible exact ⟨_, rfl⟩ | with_reducible apply Sx.more | with_reducible apply Sx.ext | with_reducible apply Sx.alloc | with_reducible apply Sx.draw | with_reducible exact Sx.refl _)) ?_; clear hK K
      repeat (refine wpOrd_quiet rfl (fun K hK => ?_); go_simp; (try simp (disch := omega) only [IntWalk.i64_in]); refine hK _ ?_; clear hK K)
      refine wpOrd_nil ?_
      go_wp2
      go_roundw
      case rel =>
        exact ⟨n + 1, _, rfl, by have := HM.out; omega, by go_num, by omega, (by repeat (first | with_reducible exact Below.refl _ _ | with_reducible apply Below.ofExt | with_reducible apply Below.ofAlloc | with_reducible apply Below.drew | with_reducible apply Below.ofDrewN | with_reducible assumption | (with_reducible refine Below.setCell ?_ (by first | exact Nat.le_refl _ | (simp [go_sem]; done) | (simp [go_sem]; omega)) _)))⟩
      case measure => simp [intOf]; omega
    · clear hmk
      go_wp2
      go_ret
      have e : n = N := by omega
      subst e
      exact ⟨ret_int HM.out, (by repeat (first | with_reducible exact Below.refl _ _ | with_reducible apply Below.ofExt | with_reducible apply Below.ofAlloc | with_reducible apply Below.drew | with_reducible apply Below.ofDrewN | with_reducible assumption | (with_reducible refine Below.setCell ?_ (by first | exact Nat.le_refl _ | (simp [go_sem]; done) | (simp [go_sem]; omega)) _)))⟩
end Go.Proofs.YtedgenmbdjadkaaGreatDoor
namespace Go.Proofs.YtedgenmbdjadkaaGreatDoor
open Go.ChangeShapes Go.WideShapes Go.ChangeAt Go.RowKit

theorem bytesLess_irrefl : ∀ l : List UInt8, Op.bytesLess l l = false
  | [] => rfl
  | x :: l => by
    simp only [Op.bytesLess, bytesLess_irrefl l, Bool.and_false, Bool.or_false]
    exact decide_eq_false (UInt8.lt_irrefl x)
theorem bytesLess_total : ∀ (a b : List UInt8), (Op.bytesLess a b || a == b) = !Op.bytesLess b a
  | [], [] => rfl
  | [], _ :: _ => rfl
  | _ :: _, [] => rfl
  | x :: a, y :: b => by
    have ih := bytesLess_total a b
    simp only [Op.bytesLess]
    by_cases h : x = y
    · subst h
      have hn : ¬ x < x := UInt8.lt_irrefl x
      have e : (x :: a == x :: b) = (a == b) := by simp [List.cons_beq_cons]
      rw [e, decide_eq_false hn]
      simpa using ih
    · have e : (x :: a == y :: b) = false := by simp [h]
      have e2 : (x == y) = false := by simp [h]
      have e3 : (y == x) = false := by simp [Ne.symm h]
      rw [e, e2, e3]
      have : ¬ x.toNat = y.toNat := fun q => h (UInt8.toNat_inj.1 q)
      by_cases hl : x < y
      · have hn : ¬ y < x := by rw [UInt8.lt_iff_toNat_lt] at hl ⊢; omega
        simp [hl, hn]
      · have hn : y < x := by rw [UInt8.lt_iff_toNat_lt] at hl ⊢; omega
        simp [hl, hn]
def isKey (key : ByteArray) (c : CellD) : Bool := c.key.toList == key.toList
def gtKey (key : ByteArray) (c : CellD) : Bool := Op.bytesLess key.toList c.key.toList
theorem gtKey_not {key : ByteArray} {c : CellD} (h : gtKey key c = true) : isKey key c = false := by
  cases hk : isKey key c with
  | false => rfl
  | true =>
    unfold isKey at hk
    unfold gtKey at h
    rw [eq_of_beq hk, bytesLess_irrefl] at h
    cases h
theorem less_gt {key : ByteArray} {c : CellD} (h : gtKey key c = true) : Op.bytesLess c.key.toList key.toList = false := by
  have := bytesLess_total c.key.toList key.toList
  unfold gtKey at h
  rw [h, Bool.not_true, Bool.or_eq_false_iff] at this
  exact this.1
theorem less_same {key : ByteArray} {c : CellD} (h : isKey key c = true) : Op.bytesLess c.key.toList key.toList = false := by
  unfold isKey at h
  rw [eq_of_beq h]
  exact bytesLess_irrefl _
theorem less_other {key : ByteArray} {c : CellD} (h : gtKey key c = false) (hk : isKey key c = false) : Op.bytesLess c.key.toList key.toList = true := by
  have := bytesLess_total c.key.toList key.toList
  unfold gtKey at h
  unfold isKey at hk
  rwa [h, hk, Bool.or_false, Bool.not_false] at this
def without (key : ByteArray) (xs : List CellD) : List CellD := xs.filter fun c => !isKey key c
/-- a cell laid before the first greater one -/
def insC (key val : ByteArray) (ys : List CellD) : List CellD := (ys.takeWhile fun c => !gtKey key c) ++ ⟨key, val⟩ :: (ys.dropWhile fun c => !gtKey key c)
def putC (key val : ByteArray) (xs : List CellD) : List CellD :=
  if keyOk key = false ∨ 60 < val.size then xs else if val.size = 0 then without key xs else insC key val (without key xs)
/-- the reference's state behind some cells -/
def putUp (key val : ByteArray) (zs : List CellD) : List CellD := if zs.any (gtKey key) then insC key val (without key zs) else without key zs
theorem without_snoc (key : ByteArray) (zs : List CellD) (c : CellD) : without key (zs ++ [c]) = without key zs ++ (if isKey key c then [] else [c]) := by
  unfold without
  rw [List.filter_append]
  congr 1
  cases hk : isKey key c <;> simp [hk]
theorem without_any (key : ByteArray) (zs : List CellD) : (without key zs).any (gtKey key) = zs.any (gtKey key) := by
  unfold without
  rw [List.any_filter]
  induction zs with
  | nil => rfl
  | cons c zs ih =>
    rw [List.any_cons, List.any_cons, ih]
    congr 1
    cases hg : gtKey key c with
    | false => exact Bool.and_false _
    | true => rw [gtKey_not hg]; rfl
theorem takeWhile_none {α : Type} (p : α → Bool) : ∀ l : List α, l.any p = false → (l.takeWhile fun c => !p c) = l ∧ (l.dropWhile fun c => !p c) = []
  | [], _ => ⟨rfl, rfl⟩
  | x :: l, h => by
    rw [List.any_cons, Bool.or_eq_false_iff] at h
    obtain ⟨h1, h2⟩ := takeWhile_none p l h.2
    simp [List.takeWhile_cons, List.dropWhile_cons, h.1, h1, h2]
theorem takeWhile_some {α : Type} (p : α → Bool) (c : α) : ∀ l : List α, l.any p = true → ((l ++ [c]).takeWhile fun c => !p c) = (l.takeWhile fun c => !p c) ∧ ((l ++ [c]).dropWhile fun c => !p c) = (l.dropWhile fun c => !p c) ++ [c]
  | [], h => by cases h
  | x :: l, h => by
    cases hp : p x with
    | true =>
      simp [List.takeWhile_cons, List.dropWhile_cons, hp]
    | false =>
      rw [List.any_cons, hp, Bool.false_or] at h
      obtain ⟨h1, h2⟩ := takeWhile_some p c l h
      simp [List.takeWhile_cons, List.dropWhile_cons, hp, h1, h2]
theorem insC_none {key val : ByteArray} {ys : List CellD} (h : ys.any (gtKey key) = false) : insC key val ys = ys ++ [⟨key, val⟩] := by
  unfold insC
  obtain ⟨h1, h2⟩ := takeWhile_none (gtKey key) ys h
  rw [h1, h2]
theorem insC_snoc {key val : ByteArray} {ys : List CellD} (c : CellD) (h : ys.any (gtKey key) = true) : insC key val (ys ++ [c]) = insC key val ys ++ [c] := by
  unfold insC
  obtain ⟨h1, h2⟩ := takeWhile_some (gtKey key) c ys h
  rw [h1, h2, List.append_assoc, List.cons_append]
/-- the next cell is greater, and none was before -/
theorem putUp_first {key val : ByteArray} {zs : List CellD} {c : CellD} (h : zs.any (gtKey key) = false) (hg : gtKey key c = true) : putUp key val (zs ++ [c]) = (putUp key val zs ++ [⟨key, val⟩]) ++ [c] := by
  unfold putUp
  rw [List.any_append, h, if_pos (by simp [hg]), if_neg (by simp), without_snoc, gtKey_not hg, if_neg (by simp)]
  have h' : (without key zs).any (gtKey key) = false := by rw [without_any]; exact h
  unfold insC
  obtain ⟨h1, h2⟩ := takeWhile_none (gtKey key) _ h'
  rw [List.takeWhile_append_of_pos, List.dropWhile_append_of_pos]
  · simp [List.takeWhile_cons, List.dropWhile_cons, hg]
  · intro x hx
    rw [List.any_eq_false] at h'
    simpa using h' x hx
  · intro x hx
    rw [List.any_eq_false] at h'
    simpa using h' x hx
/-- the next cell is of the key -/
theorem putUp_same {key val : ByteArray} {zs : List CellD} {c : CellD} (hk : isKey key c = true) : putUp key val (zs ++ [c]) = putUp key val zs := by
  have hg : gtKey key c = false := by
    cases hg : gtKey key c with
    | false => rfl
    | true => rw [gtKey_not hg] at hk; cases hk
  unfold putUp
  rw [List.any_append, without_snoc, hk, if_pos rfl, List.append_nil]
  simp [hg]
/-- the next cell is of another key, and it is not the first greater one -/
theorem putUp_other {key val : ByteArray} {zs : List CellD} {c : CellD} (hk : isKey key c = false) (h : zs.any (gtKey key) = true ∨ gtKey key c = false) : putUp key val (zs ++ [c]) = putUp key val zs ++ [c] := by
  have e : without key (zs ++ [c]) = without key zs ++ [c] := by rw [without_snoc, hk]; rfl
  have ea : (zs ++ [c]).any (gtKey key) = (zs.any (gtKey key) || gtKey key c) := by simp [List.any_append]
  unfold putUp
  rw [e, ea]
  cases hz : zs.any (gtKey key) with
  | true =>
    rw [if_pos (by simp), if_pos rfl]
    exact insC_snoc c (by rw [without_any]; exact hz)
  | false =>
    rcases h with h | h
    · rw [hz] at h; cases h
    · rw [h]
      rfl
theorem putUp_end {key val : ByteArray} {zs : List CellD} : (if zs.any (gtKey key) then putUp key val zs else putUp key val zs ++ [⟨key, val⟩]) = insC key val (without key zs) := by
  unfold putUp
  cases hz : zs.any (gtKey key) with
  | true => simp
  | false =>
    simp only [Bool.false_eq_true, if_false]
    exact (insC_none (by rw [without_any]; exact hz)).symm
theorem without_len (key : ByteArray) (xs : List CellD) : (without key xs).length ≤ xs.length := List.length_filter_le _ _
theorem insC_len (key val : ByteArray) (ys : List CellD) : (insC key val ys).length = ys.length + 1 := by
  unfold insC
  have := congrArg List.length (List.takeWhile_append_dropWhile (p := fun c => !gtKey key c) (l := ys))
  rw [List.length_append] at this ⊢
  rw [List.length_cons]
  omega
theorem putUp_len (key val : ByteArray) (zs : List CellD) : (putUp key val zs).length ≤ zs.length + 1 := by
  unfold putUp
  have := without_len key zs
  split
  · rw [insC_len]; omega
  · omega
theorem putC_len (key val : ByteArray) (xs : List CellD) : (putC key val xs).length ≤ xs.length + 1 := by
  unfold putC
  have := without_len key xs
  split
  · omega
  · split
    · omega
    · rw [insC_len]; omega
theorem without_ok {key : ByteArray} {xs : List CellD} (h : ∀ c ∈ xs, c.ok) : ∀ c ∈ without key xs, c.ok := fun c hc => h c (List.mem_filter.1 hc).1
theorem insC_ok {key val : ByteArray} {ys : List CellD} (h : ∀ c ∈ ys, c.ok) (hk : key.size ≤ 9223372036854775807) (hv : val.size ≤ 9223372036854775807) : ∀ c ∈ insC key val ys, c.ok := by
  intro c hc
  rcases List.mem_append.1 hc with hc | hc
  · exact h c ((List.takeWhile_sublist _).mem hc)
  · rcases List.mem_cons.1 hc with rfl | hc
    · exact ⟨hk, hv⟩
    · exact h c ((List.dropWhile_sublist _).mem hc)
theorem putC_ok {key val : ByteArray} {xs : List CellD} (h : ∀ c ∈ xs, c.ok) (hk : key.size ≤ 9223372036854775807) (hv : val.size ≤ 9223372036854775807) : ∀ c ∈ putC key val xs, c.ok := by
  unfold putC
  split
  · exact h
  · split
    · exact without_ok h
    · exact insC_ok (without_ok h) hk hv
end Go.Proofs.YtedgenmbdjadkaaGreatDoor
namespace Go.Proofs.YtedgenmbdjadkaaGreatDoor
open Go.ChangeShapes Go.WideShapes Go.ChangeAt Go.RowKit

def prevLess (ds : List CellD) : Nat → ByteArray → Bool
  | 0, _ => true
  | j + 1, k => match ds[j]? with
    | none => true
    | some p => Op.bytesLess p.key.toList k.toList
theorem prevLess_at (ds : List CellD) (j : Nat) (k : ByteArray) (h : j < ds.length) : prevLess ds (j + 1) k = Op.bytesLess ds[j].key.toList k.toList := by
  simp only [prevLess, List.getElem?_eq_getElem h]
def stepOk (ds : List CellD) (i : Nat) : Bool := match ds[i]? with
  | none => true
  | some d => keyOk d.key && (inB (d.val.size : Int) 1 60 && prevLess ds i d.key)
theorem stepOk_at (ds : List CellD) (i : Nat) (h : i < ds.length) : stepOk ds i = (keyOk ds[i].key && (inB (ds[i].val.size : Int) 1 60 && prevLess ds i ds[i].key)) := by
  simp only [stepOk, List.getElem?_eq_getElem h]
def okUp (ds : List CellD) : Nat → Bool
  | 0 => true
  | n + 1 => okUp ds n && stepOk ds n
theorem okUp_succ (ds : List CellD) (n : Nat) : okUp ds (n + 1) = (okUp ds n && stepOk ds n) := rfl
def storeOk (ds : List CellD) : Bool := okUp ds ds.length && decide ((ds.length : Int) ≤ 900)
theorem okUp_mono (ds : List CellD) : ∀ (k n : Nat), okUp ds n = false → okUp ds (n + k) = false
  | 0, _, h => h
  | k + 1, n, h => by rw [← Nat.add_assoc, okUp_succ, okUp_mono ds k n h]; rfl
theorem stepOk_past (ds : List CellD) (n : Nat) (h : ds.length ≤ n) : stepOk ds n = true := by
  simp only [stepOk, List.getElem?_eq_none h]
theorem okUp_past (ds : List CellD) : ∀ k, okUp ds (ds.length + k) = okUp ds ds.length
  | 0 => rfl
  | k + 1 => by rw [← Nat.add_assoc, okUp_succ, okUp_past ds k, stepOk_past ds _ (by omega), Bool.and_true]
theorem storeOk_no (ds : List CellD) (n : Nat) (h : okUp ds n = false) : storeOk ds = false := by
  unfold storeOk
  have : okUp ds ds.length = false := by
    by_cases hl : n ≤ ds.length
    · have := okUp_mono ds (ds.length - n) n h
      rwa [show n + (ds.length - n) = ds.length by omega] at this
    · have := okUp_past ds (n - ds.length)
      rw [show ds.length + (n - ds.length) = n by omega, h] at this
      exact this.symm
  rw [this]
  rfl
set_option maxRecDepth 100000 in
set_option maxHeartbeats 4000000 in
theorem impl_StoreOk (v : Value) (ds : List CellD) (w : World) {e : TypeId} (hs : (vSlice vCell e).rd w [v] ds) :
    Calls Tryz.prog 86 #[v] w fun e w' => e = .returned (.bool (storeOk ds)) ∧ Below w.heap.size w w' := by
  obtain ⟨ao, cap, rfl, hc1, hc2, hnil, hcell⟩ := vSlice.shape hs
  have HX := Lib.hid hcell
  clear hcell hnil
  unfold maxLen at hc2
  clear hs
  go_enter Tryz.func86, Tryz.ntmps86
  go_wp2
  go_loopw [7] (fun k wr => ∃ (n : Nat), k = .int .i64 n ∧ n ≤ ds.length ∧ Below w.heap.size w wr ∧ okUp ds n = true) (fun k _ => ds.length - (intOf k).toNat)
  case atStart => exact ⟨0, rfl, by omega, (by repeat (first | with_reducible exact Below.refl _ _ | with_reducible apply Below.ofExt | with_reducible apply Below.ofAlloc | with_reducible apply Below.drew | with_reducible apply Below.ofDrewN | with_reducible assumption | (with_reducible refine Below.setCell ?_ (by first | exact Nat.le_refl _ | (simp [go_sem]; done) | (simp [go_sem]; omega)) _))), rfl⟩
  case round =>
    obtain ⟨n, rfl, hn, hbel, hall⟩ := hrel
    obtain ⟨X, rfl⟩ := hbel.ext
    have HA := Lib.hid hall
    clear hall
    by_cases hlt : (n : Int) < ds.length
    case pos =>
      have hk : n < ds.length := by omega
      have hst := stepOk_at ds n hk
      obtain ⟨b, off, csy, rfl, hbly, hrdy, hcelly⟩ := HX.out n hk
      generalize ds[n] = d at hrdy hst
      obtain ⟨rfl, hoky⟩ := hrdy
      obtain ⟨dk, dv⟩ := d
      have y0 := hcelly 0 _ rfl
      have y1 := hcelly 1 _ rfl
      clear hcelly
      simp only [show vCell.k = 2 from rfl, Nat.add_zero] at y0 y1
      have q1 : b < w.heap.size + X.bs.size := by omega
      have q2 : ¬ b = w.heap.size + X.bs.size := by omega
      have q3 : b < w.heap.size + X.bs.size + 1 := by omega
      have hz1 : dk.size ≤ 9223372036854775807 := hoky.1
      have hz2 : dv.size ≤ 9223372036854775807 := hoky.2
      clear hoky
      simp only at hst
      cases hkk : keyOk dk with
      | false =>
        rw [hkk, Bool.false_and] at hst
        have HS := Lib.hid hst
        have HK := Lib.hid hkk
        have CI : Hid True := trivial
        clear hst hkk
        have CK : Hid (∀ W : World, Calls Tryz.prog 53 #[.string dk] W fun e w' => e = .returned (.bool false) ∧ w' = W) := fun W => (impl_KeyOk dk W hz1).mono fun e w' h => ⟨by rw [h.1, HK.out], h.2⟩
        go_wp2
        go_quiet ((go_at_call 53; (first | exact Calls.quiet_of_same (CK.out _) | exact quietE (CK.out _))))
        go_wp2
        go_ret
        exact ⟨by rw [storeOk_no ds (n + 1) (by rw [okUp_succ, HS.out, Bool.and_false])]; rfl, (by repeat (first | with_reducible exact Below.refl _ _ | with_reducible apply Below.ofExt | with_reducible apply Below.ofAlloc | with_reducible apply Below.drew | with_reducible apply Below.ofDrewN | with_reducible assumption | (with_reducible refine Below.setCell ?_ (by first | exact Nat.le_refl _ | (simp [go_sem]; done) | (simp [go_sem]; omega)) _)))⟩
      | true =>
        rw [hkk, Bool.true_and] at hst
        have HK := Lib.hid hkk
        clear hkk
        have CK : Hid (∀ W : World, Calls Tryz.prog 53 #[.string dk] W fun e w' => e = .returned (.bool true) ∧ w' = W) := fun W => (impl_KeyOk dk W hz1).mono fun e w' h => ⟨by rw [h.1, HK.out], h.2⟩
        cases hii : inB (dv.size : Int) 1 60 with
        | false =>
          rw [hii, Bool.false_and] at hst
          have HS := Lib.hid hst
          have HI := Lib.hid hii
          clear hst hii
          have CI : Hid (∀ W : World, Calls Tryz.prog 38 #[.int .i64 (dv.size : Int), .int .i64 1, .int .i64 60] W fun e w' => e = .returned (.bool false) ∧ w' = W) := fun W => (impl_within _ _ _ W).mono fun e w' h => ⟨by rw [h.1, HI.out], h.2⟩
          go_wp2
          go_quiet ((first | ((go_at_call 53); (first | exact Calls.quiet_of_same (CK.out _) | exact quietE (CK.out _))) | ((go_at_call 38); (first | exact Calls.quiet_of_same (CI.out _) | exact quietE (CI.out _)))))
          go_wp2
          go_ret
          exact ⟨by rw [storeOk_no ds (n + 1) (by rw [okUp_succ, HS.out, Bool.and_false])]; rfl, (by repeat (first | with_reducible exact Below.refl _ _ | with_reducible apply Below.ofExt | with_reducible apply Below.ofAlloc | with_reducible apply Below.drew | with_reducible apply Below.ofDrewN | with_reducible assumption | (with_reducible refine Below.setCell ?_ (by first | exact Nat.le_refl _ | (simp [go_sem]; done) | (simp [go_sem]; omega)) _)))⟩
        | true =>
          rw [hii, Bool.true_and] at hst
          have HI := Lib.hid hii
          clear hii
          have CI : Hid (∀ W : World, Calls Tryz.prog 38 #[.int .i64 (dv.size : Int), .int .i64 1, .int .i64 60] W fun e w' => e = .returned (.bool true) ∧ w' = W) := fun W => (impl_within _ _ _ W).mono fun e w' h => ⟨by rw [h.1, HI.out], h.2⟩
          by_cases hn0 : 0 < (n : Int)
          case neg =>
            have hp : prevLess ds n dk = true := by rw [show n = 0 by omega]; rfl
            have hd1 : decide (0 < (n : Int)) = false := decide_eq_false hn0
            have hd2 : decide (0 < n) = false := decide_eq_false (by omega)
            rw [hp] at hst
            have HS := Lib.hid hst
            clear hst hp
            go_wp2
            go_quiet ((first | ((go_at_call 53); (first | exact Calls.quiet_of_same (CK.out _) | exact quietE (CK.out _))) | ((go_at_call 38); (first | exact Calls.quiet_of_same (CI.out _) | exact quietE (CI.out _)))))
            go_wp2
            go_roundw
            case rel => exact ⟨n + 1, by go_num, by omega, (by repeat (first | with_reducible exact Below.refl _ _ | with_reducible apply Below.ofExt | with_reducible apply Below.ofAlloc | with_reducible apply Below.drew | with_reducible apply Below.ofDrewN | with_reducible assumption | (with_reducible refine Below.setCell ?_ (by first | exact Nat.le_refl _ | (simp [go_sem]; done) | (simp [go_sem]; omega)) _))), by rw [okUp_succ, HA.out, HS.out, Bool.and_true]⟩
            case measure => simp [intOf]; omega
          case pos =>
            obtain ⟨j, rfl⟩ : ∃ j, n = j + 1 := ⟨n - 1, by omega⟩
            have hj : j < ds.length := by omega
            have hg : prevLess ds (j + 1) dk = Op.bytesLess ds[j].key.toList dk.toList := prevLess_at ds j dk hj
            rw [hg] at hst
            clear hg
            obtain ⟨b2, off2, csz, eb, hblz, hrdz, hcellz⟩ := HX.out j hj
            simp only [Option.some.injEq, Addr.mk.injEq, and_true] at eb
            obtain ⟨rfl, rfl⟩ := eb
            generalize ds[j] = p at hrdz hst
            obtain ⟨rfl, hokz⟩ := hrdz
            obtain ⟨pk, pv⟩ := p
            have z0 := hcellz 0 _ rfl
            have z1 := hcellz 1 _ rfl
            clear hcellz
            simp only [show vCell.k = 2 from rfl, Nat.add_zero] at z0 z1
            clear hokz
            simp only at hst
            cases hl0 : Op.bytesLess pk.toList dk.toList with
            | false =>
              rw [hl0] at hst
              have HS := Lib.hid hst
              have HL := Lib.hid hl0
              clear hst hl0
              have hl : (Op.bytesLess dk.toList pk.toList || dk.toList == pk.toList) = true := by rw [bytesLess_total, HL.out]; rfl
              go_wp2
              go_quiet ((first | ((go_at_call 53); (first | exact Calls.quiet_of_same (CK.out _) | exact quietE (CK.out _))) | ((go_at_call 38); (first | exact Calls.quiet_of_same (CI.out _) | exact quietE (CI.out _)))))
              go_wp2
              go_ret
              exact ⟨by rw [storeOk_no ds (j + 1 + 1) (by rw [okUp_succ, HS.out, Bool.and_false])]; rfl, (by repeat (first | with_reducible exact Below.refl _ _ | with_reducible apply Below.ofExt | with_reducible apply Below.ofAlloc | with_reducible apply Below.drew | with_reducible apply Below.ofDrewN | with_reducible assumption | (with_reducible refine Below.setCell ?_ (by first | exact Nat.le_refl _ | (simp [go_sem]; done) | (simp [go_sem]; omega)) _)))⟩
            | true =>
              rw [hl0] at hst
              have HS := Lib.hid hst
              have HL := Lib.hid hl0
              clear hst hl0
              have hl : (Op.bytesLess dk.toList pk.toList || dk.toList == pk.toList) = false := by rw [bytesLess_total, HL.out]; rfl
              go_wp2
              go_quiet ((first | ((go_at_call 53); (first | exact Calls.quiet_of_same (CK.out _) | exact quietE (CK.out _))) | ((go_at_call 38); (first | exact Calls.quiet_of_same (CI.out _) | exact quietE (CI.out _)))))
              go_wp2
              go_roundw
              case rel => exact ⟨j + 1 + 1, by go_num, by omega, (by repeat (first | with_reducible exact Below.refl _ _ | with_reducible apply Below.ofExt | with_reducible apply Below.ofAlloc | with_reducible apply Below.drew | with_reducible apply Below.ofDrewN | with_reducible assumption | (with_reducible refine Below.setCell ?_ (by first | exact Nat.le_refl _ | (simp [go_sem]; done) | (simp [go_sem]; omega)) _))), by rw [okUp_succ, HA.out, HS.out, Bool.and_true]⟩
              case measure => simp [intOf]; omega
    case neg =>
      have e : n = ds.length := by omega
      have hf : storeOk ds = decide ((ds.length : Int) ≤ 900) := by
        unfold storeOk
        rw [← e, HA.out, e]
        rfl
      have HF := Lib.hid hf
      clear hf
      go_wp2
      go_ret
      exact ⟨by rw [HF.out]; rfl, (by repeat (first | with_reducible exact Below.refl _ _ | with_reducible apply Below.ofExt | with_reducible apply Below.ofAlloc | with_reducible apply Below.drew | with_reducible apply Below.ofDrewN | with_reducible assumption | (with_reducible refine Below.setCell ?_ (by first | exact Nat.le_refl _ | (simp [go_sem]; done) | (simp [go_sem]; omega)) _)))⟩
end Go.Proofs.YtedgenmbdjadkaaGreatDoor
namespace Go.Proofs.YtedgenmbdjadkaaGreatDoor
open Go.ChangeShapes Go.WideShapes Go.ChangeAt Go.RowKit

structure JournalD where
  text : ByteArray
  sure : Int
def JournalD.row (d : JournalD) : List Value := [.string d.text, .int .i64 d.sure]
def JournalD.ok (d : JournalD) : Prop := d.text.size ≤ 9223372036854775807
def JournalD.wt (d : JournalD) : Nat := d.text.size
def vJournal : View JournalD := vRow JournalD.row 2 JournalD.ok (fun _ => rfl) (fun d u hu => by simp [JournalD.row] at hu; rcases hu with rfl | rfl <;> rfl)
def mkJournal (k : Int) : JournalD := ⟨mtext k, k + 1⟩
theorem mkJournal_ok (k : Int) (h : k ≤ 4294967280) : (mkJournal k).ok := mtext_size _ (by omega)
theorem marks_ok_Journal {k : Int} {n : Nat} (h : k + (2 * n : Nat) ≤ 4294967280) : ∀ d ∈ marks mkJournal 2 k n, d.ok := by
  intro d hd
  obtain ⟨i, hi, rfl⟩ := marks_mem hd
  exact mkJournal_ok _ (by omega)
end Go.Proofs.YtedgenmbdjadkaaGreatDoor
namespace Go.Proofs.YtedgenmbdjadkaaGreatDoor
open Go.ChangeShapes Go.WideShapes Go.ChangeAt Go.RowKit

def journalOk (j : JournalD) : Bool := decide ((j.text.size : Int) ≤ 20000) && inB j.sure 0 j.text.size
theorem spec_JournalOk (t : ByteArray) (n : Int) (w : World) (hz : t.size ≤ 9223372036854775807) :
    Calls Tryz.prog 29 #[.agg #[.string t, .int .i64 n]] w fun e w' => e = .returned (.bool (journalOk ⟨t, n⟩)) ∧ Below w.heap.size w w' := by
  by_cases h1 : (t.size : Int) ≤ 20000
  · have hq : journalOk ⟨t, n⟩ = inB n 0 t.size := by unfold journalOk; rw [decide_eq_true h1]; rfl
    rw [hq]
    clear hq
    go_enter Tryz.func29, Tryz.ntmps29
    go_wp2_with fail
    (go_at_call 36; refine (spec_l01In _ _ _ _).mono ?_; rintro e w' ⟨rfl, rfl⟩)
    go_wp2
    go_ret
    exact ⟨rfl, (by repeat (first | with_reducible exact Below.refl _ _ | with_reducible apply Below.ofExt | with_reducible apply Below.ofAlloc | with_reducible apply Below.drew | with_reducible apply Below.ofDrewN | with_reducible assumption | (with_reducible refine Below.setCell ?_ (by first | exact Nat.le_refl _ | (simp [go_sem]; done) | (simp [go_sem]; omega)) _)))⟩
  · have hq : journalOk ⟨t, n⟩ = false := by unfold journalOk; rw [decide_eq_false h1]; rfl
    rw [hq]
    clear hq
    go_enter Tryz.func29, Tryz.ntmps29
    go_wp2
    go_ret
    exact ⟨rfl, (by repeat (first | with_reducible exact Below.refl _ _ | with_reducible apply Below.ofExt | with_reducible apply Below.ofAlloc | with_reducible apply Below.drew | with_reducible apply Below.ofDrewN | with_reducible assumption | (with_reducible refine Below.setCell ?_ (by first | exact Nat.le_refl _ | (simp [go_sem]; done) | (simp [go_sem]; omega)) _)))⟩
theorem impl_JournalOk (t : ByteArray) (n : Int) (w : World) (hz : t.size ≤ 9223372036854775807) :
    Calls Tryz.prog 28 #[.agg #[.string t, .int .i64 n]] w fun e w' => e = .returned (.bool (journalOk ⟨t, n⟩)) ∧ Below w.heap.size w w' := by
  by_cases h1 : (t.size : Int) ≤ 20000
  · have hq : journalOk ⟨t, n⟩ = inB n 0 t.size := by unfold journalOk; rw [decide_eq_true h1]; rfl
    rw [hq]
    clear hq
    go_enter Tryz.func28, Tryz.ntmps28
    go_wp2_with fail
    (go_at_call 38; refine (impl_within _ _ _ _).mono ?_; rintro e w' ⟨rfl, rfl⟩)
    go_wp2
    go_ret
    exact ⟨rfl, (by repeat (first | with_reducible exact Below.refl _ _ | with_reducible apply Below.ofExt | with_reducible apply Below.ofAlloc | with_reducible apply Below.drew | with_reducible apply Below.ofDrewN | with_reducible assumption | (with_reducible refine Below.setCell ?_ (by first | exact Nat.le_refl _ | (simp [go_sem]; done) | (simp [go_sem]; omega)) _)))⟩
  · have hq : journalOk ⟨t, n⟩ = false := by unfold journalOk; rw [decide_eq_false h1]; rfl
    rw [hq]
    clear hq
    go_enter Tryz.func28, Tryz.ntmps28
    go_wp2
    go_ret
    exact ⟨rfl, (by repeat (first | with_reducible exact Below.refl _ _ | with_reducible apply Below.ofExt | with_reducible apply Below.ofAlloc | with_reducible apply Below.drew | with_reducible apply Below.ofDrewN | with_reducible assumption | (with_reducible refine Below.setCell ?_ (by first | exact Nat.le_refl _ | (simp [go_sem]; done) | (simp [go_sem]; omega)) _)))⟩
end Go.Proofs.YtedgenmbdjadkaaGreatDoor
namespace Go.Proofs.YtedgenmbdjadkaaGreatDoor
open Go.ChangeShapes Go.WideShapes Go.ChangeAt Go.RowKit

structure SlotD where
  seq : Int
  cells : List CellD
  whole : Bool
def vSlot : View SlotD where
  k := 3
  rd w cs d := ∃ (s0 : Value), cs = [.int .i64 d.seq, s0, .bool d.whole] ∧ (vSlice vCell 39).rd w [s0] d.cells
  own w fp cs d := ∃ (s0 : Value) (f0 : List Nat), cs = [.int .i64 d.seq, s0, .bool d.whole] ∧ fp = f0 ∧ (vSlice vCell 39).own w f0 [s0] d.cells
  len := by rintro w cs d ⟨s0, rfl, _⟩; rfl
  one := by
    rintro w cs d ⟨s0, rfl, h0⟩ u hu
    simp only [List.mem_cons, List.not_mem_nil, or_false] at hu
    rcases hu with rfl | rfl | rfl
    · rfl
    · exact View.one _ h0 _ (by simp)
    · rfl
  grow := by rintro w w' cs d ⟨s0, rfl, h0⟩ g; exact ⟨s0, rfl, View.grow _ h0 g⟩
  toRd := by rintro w fp cs d ⟨s0, f0, rfl, rfl, h0⟩; exact ⟨s0, rfl, View.toRd _ h0⟩
  frame := by
    rintro w w' fp cs d ⟨s0, f0, rfl, rfl, h0⟩ g
    exact ⟨s0, _, rfl, rfl, View.frame _ h0 g⟩
  lt := by
    rintro w fp cs d ⟨s0, f0, rfl, rfl, h0⟩ b hb
    exact View.lt _ h0 b hb
theorem vSlot_shape {w : World} {cs : List Value} {d : SlotD} (h : vSlot.rd w cs d) : ∃ a0 c0, cs = [.int .i64 d.seq, .slice a0 d.cells.length c0, .bool d.whole] := by
  obtain ⟨s0, rfl, h0⟩ := h
  obtain ⟨a0, c0, rfl⟩ := vSlice.form h0
  exact ⟨a0, c0, rfl⟩
def SlotD.wt (d : SlotD) : Nat := wtS CellD.wt d.cells
end Go.Proofs.YtedgenmbdjadkaaGreatDoor
namespace Go.Proofs.YtedgenmbdjadkaaGreatDoor
open Go.ChangeShapes Go.WideShapes Go.ChangeAt Go.RowKit

end Go.Proofs.YtedgenmbdjadkaaGreatDoor
namespace Go.Proofs.YtedgenmbdjadkaaGreatDoor
open Go.ChangeShapes Go.WideShapes Go.ChangeAt Go.RowKit

structure DiskD where
  slots : List SlotD
  journal : JournalD
def vDisk : View DiskD where
  k := 3
  rd w cs d := ∃ (s0 : Value), cs = [s0, .string d.journal.text, .int .i64 d.journal.sure] ∧ (vSlice vSlot 41).rd w [s0] d.slots ∧ d.journal.text.size ≤ 9223372036854775807
  own w fp cs d := ∃ (s0 : Value) (f0 : List Nat), cs = [s0, .string d.journal.text, .int .i64 d.journal.sure] ∧ fp = f0 ∧ (vSlice vSlot 41).own w f0 [s0] d.slots ∧ d.journal.text.size ≤ 9223372036854775807
  len := by rintro w cs d ⟨s0, rfl, _⟩; rfl
  one := by
    rintro w cs d ⟨s0, rfl, h0, z0⟩ u hu
    simp only [List.mem_cons, List.not_mem_nil, or_false] at hu
    rcases hu with rfl | rfl | rfl
    · exact View.one _ h0 _ (by simp)
    · rfl
    · rfl
  grow := by rintro w w' cs d ⟨s0, rfl, h0, z0⟩ g; exact ⟨s0, rfl, View.grow _ h0 g, z0⟩
  toRd := by rintro w fp cs d ⟨s0, f0, rfl, rfl, h0, z0⟩; exact ⟨s0, rfl, View.toRd _ h0, z0⟩
  frame := by
    rintro w w' fp cs d ⟨s0, f0, rfl, rfl, h0, z0⟩ g
    exact ⟨s0, _, rfl, rfl, View.frame _ h0 g, z0⟩
  lt := by
    rintro w fp cs d ⟨s0, f0, rfl, rfl, h0, z0⟩ b hb
    exact View.lt _ h0 b hb
theorem vDisk_shape {w : World} {cs : List Value} {d : DiskD} (h : vDisk.rd w cs d) : ∃ a0 c0, cs = [.slice a0 d.slots.length c0, .string d.journal.text, .int .i64 d.journal.sure] := by
  obtain ⟨s0, rfl, h0, z0⟩ := h
  obtain ⟨a0, c0, rfl⟩ := vSlice.form h0
  exact ⟨a0, c0, rfl⟩
def DiskD.wt (d : DiskD) : Nat := wtS SlotD.wt d.slots + d.journal.text.size
end Go.Proofs.YtedgenmbdjadkaaGreatDoor
namespace Go.Proofs.YtedgenmbdjadkaaGreatDoor
open Go.ChangeShapes Go.WideShapes Go.ChangeAt Go.RowKit

def seqAt (ds : List SlotD) (i : Int) : Int := ((ds[i.toNat]?).map SlotD.seq).getD 0
theorem seqAt_get (ds : List SlotD) (j : Nat) (h : j < ds.length) : seqAt ds (j : Int) = ds[j].seq := by
  unfold seqAt
  rw [Int.toNat_natCast, List.getElem?_eq_getElem h]
  rfl
def bestUp (ds : List SlotD) : Nat → Int
  | 0 => -1
  | n + 1 => match ds[n]? with
    | none => bestUp ds n
    | some d => if d.whole && (decide (bestUp ds n < 0) || decide (seqAt ds (bestUp ds n) < d.seq)) then n else bestUp ds n
theorem bestUp_step (ds : List SlotD) (n : Nat) (h : n < ds.length) : bestUp ds (n + 1) = if ds[n].whole && (decide (bestUp ds n < 0) || decide (seqAt ds (bestUp ds n) < ds[n].seq)) then (n : Int) else bestUp ds n := by
  conv => lhs; unfold bestUp
  rw [List.getElem?_eq_getElem h]
theorem bestUp_lo (ds : List SlotD) : ∀ n, -1 ≤ bestUp ds n
  | 0 => by unfold bestUp; omega
  | n + 1 => by
    have := bestUp_lo ds n
    unfold bestUp
    split
    · exact this
    · split <;> omega
theorem bestUp_hi (ds : List SlotD) : ∀ n, bestUp ds n < n
  | 0 => by unfold bestUp; omega
  | n + 1 => by
    have := bestUp_hi ds n
    unfold bestUp
    split
    · omega
    · split <;> omega
set_option maxRecDepth 100000 in
set_option maxHeartbeats 2000000 in
theorem impl_BestSlot (cs : List Value) (d : DiskD) (w : World) (hs : vDisk.rd w cs d) :
    Calls Tryz.prog 59 #[.agg cs.toArray] w fun e w' => e = .returned (.int .i64 (bestUp d.slots d.slots.length)) ∧ Below w.heap.size w w' := by
  obtain ⟨s0, rfl, h0, z0⟩ := hs
  obtain ⟨ao, cap, rfl, hc1, hc2, hnil, hcell⟩ := vSlice.shape h0
  have HX := Lib.hid hcell
  clear hcell hnil h0
  unfold maxLen at hc2
  go_enter Tryz.func59, Tryz.ntmps59
  go_wp2
  go_loopw [3, 9] (fun g k wr => ∃ (n : Nat) (m : Int), k = .int .i64 n ∧ n ≤ d.slots.length ∧ Below (w.alloc (.cells #[.slice ao d.slots.length cap, .string d.journal.text, .int .i64 d.journal.sure] 46)).heap.size (w.alloc (.cells #[.slice ao d.slots.length cap, .string d.journal.text, .int .i64 d.journal.sure] 46)) wr ∧ g = .int .i64 m ∧ m = bestUp d.slots n) (fun _ k _ => d.slots.length - (intOf k).toNat)
  case atStart => exact ⟨0, -1, rfl, by omega, Below.refl _ _, rfl, rfl⟩
  case round =>
    obtain ⟨n, m, rfl, hn, hbel, rfl, hmx⟩ := hrel
    obtain ⟨X, rfl⟩ := hbel.ext
    have hlo := bestUp_lo d.slots n
    have hhi := bestUp_hi d.slots n
    rw [← hmx] at hlo hhi
    have HM := Lib.hid hmx
    clear hmx
    by_cases hlt : (n : Int) < d.slots.length
    · have hk : n < d.slots.length := by omega
      obtain ⟨b, off, csx, rfl, hbly, hrd, hcell⟩ := HX.out n hk
      have hst := bestUp_step d.slots n hk
      generalize d.slots[n] = e at hrd hst
      have HD := Lib.hid hrd
      obtain ⟨sa, sc, rfl⟩ := vSlot_shape hrd
      clear hrd
      have y0 := hcell 0 _ rfl
      have y1 := hcell 1 _ rfl
      have y2 := hcell 2 _ rfl
      clear hcell
      simp only [show vSlot.k = 3 from rfl, Nat.add_zero] at y0 y1 y2
      rw [← HM.out] at hst
      have HS := Lib.hid hst
      clear hst
      cases hw : e.whole with
      | false =>
        have HW := Lib.hid hw
        rw [hw] at y2
        clear hw
        go_wp2
        go_quiet (fail)
        go_wp2
        go_roundw
        case rel => exact ⟨n + 1, _, by go_num, by omega, (by repeat (first | with_reducible exact Below.refl _ _ | with_reducible apply Below.ofExt | with_reducible apply Below.ofAlloc | with_reducible apply Below.drew | with_reducible apply Below.ofDrewN | with_reducible assumption | (with_reducible refine Below.setCell ?_ (by first | exact Nat.le_refl _ | (simp [go_sem]; done) | (simp [go_sem]; omega)) _))), rfl, by rw [HS.out]; rw [HW.out]; rfl⟩
        case measure => simp [intOf]; omega
      | true =>
        have HW := Lib.hid hw
        rw [hw] at y2
        clear hw
        by_cases hb : m < 0
        · have hm1 : m = -1 := by omega
          have HB : Hid (decide (m < 0) = true) := by show decide (m < 0) = true; simp [hb]
          clear hlo hhi hb
          subst hm1
          go_wp2
          go_quiet (fail)
          go_wp2
          go_roundw
          case rel => exact ⟨n + 1, _, by go_num, by omega, (by repeat (first | with_reducible exact Below.refl _ _ | with_reducible apply Below.ofExt | with_reducible apply Below.ofAlloc | with_reducible apply Below.drew | with_reducible apply Below.ofDrewN | with_reducible assumption | (with_reducible refine Below.setCell ?_ (by first | exact Nat.le_refl _ | (simp [go_sem]; done) | (simp [go_sem]; omega)) _))), rfl, by rw [HS.out]; rw [HW.out, HB.out]; rfl⟩
          case measure => simp [intOf]; omega
        · obtain ⟨j, rfl⟩ : ∃ j : Nat, m = j := ⟨m.toNat, by omega⟩
          have HB : Hid (decide ((j : Int) < 0) = false) := by exact decide_eq_false hb
          have hj : j < d.slots.length := by omega
          obtain ⟨b2, off2, csy, eb, hbl2, hrd2, hcell2⟩ := HX.out j hj
          simp only [Option.some.injEq, Addr.mk.injEq, and_true] at eb
          obtain ⟨rfl, rfl⟩ := eb
          have hsq : seqAt d.slots ((j : Nat) : Int) = d.slots[j].seq := seqAt_get _ _ _
          generalize d.slots[j] = dj at hrd2 hsq
          obtain ⟨aj, cj, rfl⟩ := vSlot_shape hrd2
          clear hrd2
          have z0 := hcell2 0 _ rfl
          have z1 := hcell2 1 _ rfl
          have z2 := hcell2 2 _ rfl
          clear hcell2
          simp only [show vSlot.k = 3 from rfl, Nat.add_zero] at z0 z1 z2
          have HQ := Lib.hid hsq
          have hb1 : b < w.heap.size + 1 + X.bs.size := by omega
          have hb2 : ¬ b = w.heap.size + 1 + X.bs.size := by omega
          have hb3 : b < w.heap.size + 1 := by omega
          clear hsq
          by_cases hg : dj.seq < e.seq
          · have HG : Hid (decide (dj.seq < e.seq) = true) := decide_eq_true hg
            go_wp2
            go_quiet (fail)
            go_wp2
            go_roundw
            case rel => exact ⟨n + 1, _, by go_num, by omega, (by repeat (first | with_reducible exact Below.refl _ _ | with_reducible apply Below.ofExt | with_reducible apply Below.ofAlloc | with_reducible apply Below.drew | with_reducible apply Below.ofDrewN | with_reducible assumption | (with_reducible refine Below.setCell ?_ (by first | exact Nat.le_refl _ | (simp [go_sem]; done) | (simp [go_sem]; omega)) _))), rfl, by rw [HS.out]; rw [HW.out, HB.out, HQ.out, HG.out]; rfl⟩
            case measure => simp [intOf]; omega
          · have HG : Hid (decide (dj.seq < e.seq) = false) := decide_eq_false hg
            go_wp2
            go_quiet (fail)
            go_wp2
            go_roundw
            case rel => exact ⟨n + 1, _, by go_num, by omega, (by repeat (first | with_reducible exact Below.refl _ _ | with_reducible apply Below.ofExt | with_reducible apply Below.ofAlloc | with_reducible apply Below.drew | with_reducible apply Below.ofDrewN | with_reducible assumption | (with_reducible refine Below.setCell ?_ (by first | exact Nat.le_refl _ | (simp [go_sem]; done) | (simp [go_sem]; omega)) _))), rfl, by rw [HS.out]; rw [HW.out, HB.out, HQ.out, HG.out]; rfl⟩
            case measure => simp [intOf]; omega
    · go_wp2
      go_ret
      have e : n = d.slots.length := by omega
      subst e
      exact ⟨by rw [← HM.out]; rfl, Below.then (by repeat (first | with_reducible exact Below.refl _ _ | with_reducible apply Below.ofExt | with_reducible apply Below.ofAlloc | with_reducible apply Below.drew | with_reducible apply Below.ofDrewN | with_reducible assumption | (with_reducible refine Below.setCell ?_ (by first | exact Nat.le_refl _ | (simp [go_sem]; done) | (simp [go_sem]; omega)) _))) hbel⟩
end Go.Proofs.YtedgenmbdjadkaaGreatDoor
namespace Go.Proofs.YtedgenmbdjadkaaGreatDoor
open Go.RowKit
/-- the lists are of one length, and p holds of each pair -/
def sameL {α : Type} (p : α → α → Bool) (xs ys : List α) : Bool := decide (xs.length = ys.length) && (xs.zip ys).all fun z => p z.1 z.2
theorem all_take_step {α : Type} (p : α → Bool) (xs : List α) (n : Nat) (h : n < xs.length) : (xs.take (n + 1)).all p = ((xs.take n).all p && p xs[n]) := by
  simp only [List.take_succ_eq_append_getElem h, List.all_append, List.all_cons, List.all_nil, Bool.and_true]
theorem all_take_false {α : Type} (p : α → Bool) (xs : List α) (n : Nat) (h : (xs.take n).all p = false) : xs.all p = false := by
  cases hp : xs.all p with
  | false => rfl
  | true =>
    rw [List.all_eq_true] at hp
    have : (xs.take n).all p = true := by
      rw [List.all_eq_true]
      exact fun x hx => hp x (List.mem_of_mem_take hx)
    rw [this] at h
    cases h
theorem sameL_len {α : Type} {p : α → α → Bool} {xs ys : List α} (h : xs.length ≠ ys.length) : sameL p xs ys = false := by
  unfold sameL
  simp [h]
theorem sameL_all {α : Type} {p : α → α → Bool} {xs ys : List α} (h : xs.length = ys.length) : sameL p xs ys = (xs.zip ys).all fun z => p z.1 z.2 := by
  unfold sameL
  simp [h]
theorem zip_step {α : Type} (p : α → α → Bool) (xs ys : List α) (n : Nat) (h : n < xs.length) (h' : n < ys.length) : ((xs.zip ys).take (n + 1)).all (fun z => p z.1 z.2) = (((xs.zip ys).take n).all (fun z => p z.1 z.2) && p xs[n] ys[n]) := by
  rw [all_take_step _ _ n (by rw [List.length_zip]; omega)]
  simp
end Go.Proofs.YtedgenmbdjadkaaGreatDoor
namespace Go.Proofs.YtedgenmbdjadkaaGreatDoor
open Go.ChangeShapes Go.WideShapes Go.ChangeAt Go.RowKit

def slotOk (x : SlotD) : Bool := !x.whole || (inB x.seq 0 99999 && storeOk x.cells)
def diskOk (d : DiskD) : Bool := d.slots.all slotOk && (decide ((d.slots.length : Int) = 2) && (d.slots.any SlotD.whole && journalOk d.journal))
theorem bestUp_any' (ds : List SlotD) : ∀ n, n ≤ ds.length → decide (0 ≤ bestUp ds n) = (ds.take n).any SlotD.whole
  | 0, _ => by rw [bestUp]; rfl
  | n + 1, h => by
    have ih := bestUp_any' ds n (by omega)
    have hn : n < ds.length := by omega
    rw [bestUp_step ds n hn, List.take_succ_eq_append_getElem hn, List.any_append, ← ih]
    simp only [List.any_cons, List.any_nil, Bool.or_false]
    cases hw : ds[n].whole with
    | false => simp
    | true =>
      simp only [Bool.true_and, Bool.or_true]
      split
      · simp
      · next h =>
        simp only [Bool.or_eq_true, decide_eq_true_eq, not_or] at h
        simp
        omega
theorem bestUp_any (ds : List SlotD) : ds.any SlotD.whole = decide (0 ≤ bestUp ds ds.length) := by
  rw [bestUp_any' ds ds.length (Nat.le_refl _), List.take_length]
theorem diskOk_no (d : DiskD) (h : d.slots.all slotOk = false) : diskOk d = false := by unfold diskOk; rw [h]; rfl
set_option maxRecDepth 100000 in
set_option maxHeartbeats 2000000 in
theorem impl_DiskOk (cs : List Value) (d : DiskD) (w : World) (hs : vDisk.rd w cs d) :
    Calls Tryz.prog 58 #[.agg cs.toArray] w fun e w' => e = .returned (.bool (diskOk d)) ∧ Below w.heap.size w w' := by
  obtain ⟨s0, rfl, h0, z0⟩ := hs
  obtain ⟨ao, cap, rfl, hc1, hc2, hnil, hcell⟩ := vSlice.shape h0
  have HX := Lib.hid hcell
  clear hcell hnil h0
  unfold maxLen at hc2
  by_cases hl : d.slots.length = 2
  case neg =>
    have hq : diskOk d = false := by
      unfold diskOk
      rw [decide_eq_false (by omega)]
      simp
    rw [hq]
    clear hq
    have g1 : ((d.slots.length : Int) == 2) = false := by simp; omega
    have g2 : ((d.slots.length : Int) != 2) = true := by simp; omega
    have g3 : ¬ (d.slots.length : Int) = 2 := by omega
    go_enter Tryz.func58, Tryz.ntmps58
    go_wp2
    go_ret
    exact ⟨rfl, (by repeat (first | with_reducible exact Below.refl _ _ | with_reducible apply Below.ofExt | with_reducible apply Below.ofAlloc | with_reducible apply Below.drew | with_reducible apply Below.ofDrewN | with_reducible assumption | (with_reducible refine Below.setCell ?_ (by first | exact Nat.le_refl _ | (simp [go_sem]; done) | (simp [go_sem]; omega)) _)))⟩
  have hd2 : decide ((d.slots.length : Int) = 2) = true := decide_eq_true (by omega)
  have HD2 := Lib.hid hd2
  clear hd2
  have g1 : ((d.slots.length : Int) == 2) = true := by simp; omega
  have g2 : ((d.slots.length : Int) != 2) = false := by simp; omega
  have l0 : 0 < d.slots.length := by omega
  have l1 : 1 < d.slots.length := by omega
  have l2 : (1 : Int) < d.slots.length := by omega
  have l3 : (0 : Int) < d.slots.length := by omega
  obtain ⟨b, off, csx, rfl, hblx, hrdx, hcellx⟩ := HX.out 0 l0
  obtain ⟨b2, off2, csy, eb, hbly, hrdy, hcelly⟩ := HX.out 1 l1
  simp only [Option.some.injEq, Addr.mk.injEq, and_true] at eb
  obtain ⟨rfl, rfl⟩ := eb
  have hany : d.slots.any SlotD.whole = (d.slots[0].whole || d.slots[1].whole) := by
    have : d.slots = [d.slots[0], d.slots[1]] := by
      apply List.ext_getElem
      · simp [hl]
      · intro i h1 h2
        have : i = 0 ∨ i = 1 := by omega
        rcases this with rfl | rfl <;> rfl
    conv => lhs; rw [this]
    simp
  generalize d.slots[0] = x at hrdx hany
  generalize d.slots[1] = y at hrdy hany
  have HY := Lib.hid hany
  clear hany hl
  obtain ⟨xa, xc, rfl⟩ := vSlot_shape hrdx
  obtain ⟨ya, yc, rfl⟩ := vSlot_shape hrdy
  have c2 := hcellx 2 _ rfl
  have e2 := hcelly 2 _ rfl
  clear hcellx hcelly hrdx hrdy
  simp only [show vSlot.k = 3 from rfl, Nat.add_zero, Nat.zero_mul, Nat.one_mul] at c2 e2
  by_cases hw : x.whole = false ∧ y.whole = false
  case pos =>
    have hq : diskOk d = false := by
      unfold diskOk
      rw [HY.out, hw.1, hw.2]
      simp
    rw [hq]
    clear hq
    rw [hw.1] at c2
    rw [hw.2] at e2
    go_enter Tryz.func58, Tryz.ntmps58
    go_wp2
    go_ret
    exact ⟨rfl, (by repeat (first | with_reducible exact Below.refl _ _ | with_reducible apply Below.ofExt | with_reducible apply Below.ofAlloc | with_reducible apply Below.drew | with_reducible apply Below.ofDrewN | with_reducible assumption | (with_reducible refine Below.setCell ?_ (by first | exact Nat.le_refl _ | (simp [go_sem]; done) | (simp [go_sem]; omega)) _)))⟩
  have hq : diskOk d = (d.slots.all slotOk && journalOk d.journal) := by
    unfold diskOk
    have : (x.whole || y.whole) = true := by
      cases h1 : x.whole <;> cases h2 : y.whole <;> simp_all
    rw [HY.out, this, HD2.out]
    rfl
  have HQQ := Lib.hid hq
  clear hq HY
  have hc3 : (x.whole = true ∧ y.whole = true) ∨ (x.whole = true ∧ y.whole = false) ∨ (x.whole = false ∧ y.whole = true) := by
    cases h1 : x.whole <;> cases h2 : y.whole <;> simp_all
  rcases hc3 with ⟨hw1, hw2⟩ | ⟨hw1, hw2⟩ | ⟨hw1, hw2⟩
  all_goals
    rw [hw1] at c2
    rw [hw2] at e2
    clear hw hw1 hw2
    go_enter Tryz.func58, Tryz.ntmps58
    go_wp2
    go_loopw [28] (fun k wr => ∃ (n : Nat), k = .int .i64 n ∧ n ≤ d.slots.length ∧ Below (w.alloc (.cells #[.slice (some ⟨b, off, none⟩) d.slots.length cap, .string d.journal.text, .int .i64 d.journal.sure] 46)).heap.size (w.alloc (.cells #[.slice (some ⟨b, off, none⟩) d.slots.length cap, .string d.journal.text, .int .i64 d.journal.sure] 46)) wr ∧ (d.slots.take n).all slotOk = true) (fun k _ => d.slots.length - (intOf k).toNat)
    case atStart => exact ⟨0, rfl, by omega, Below.refl _ _, rfl⟩
    case round =>
      obtain ⟨n, rfl, hn, hbel, hall⟩ := hrel
      obtain ⟨X, rfl⟩ := hbel.ext
      have HA := Lib.hid hall
      clear hall
      by_cases hlt : (n : Int) < d.slots.length
      case pos =>
        have hk : n < d.slots.length := by omega
        obtain ⟨b3, off3, csx, eb, hblx, hrdx, hcellx⟩ := HX.out n hk
        simp only [Option.some.injEq, Addr.mk.injEq, and_true] at eb
        obtain ⟨rfl, rfl⟩ := eb
        have hst := all_take_step slotOk d.slots n hk
        generalize d.slots[n] = x at hrdx hst
        have HST := Lib.hid hst
        clear hst
        obtain ⟨s1, rfl, hcl⟩ := hrdx
        obtain ⟨xa, xc, rfl⟩ := vSlice.form hcl
        have HC := Lib.hid hcl
        clear hcl
        have c0 := hcellx 0 _ rfl
        have c1 := hcellx 1 _ rfl
        have c2 := hcellx 2 _ rfl
        clear hcellx
        simp only [show vSlot.k = 3 from rfl, Nat.add_zero] at c0 c1 c2
        have q1 : b < w.heap.size + 1 := by omega
        have hq : slotOk x = slotOk x := rfl
        conv at hq => rhs; unfold slotOk
        cases hw : x.whole with
        | false =>
          rw [hw] at hq c2
          have HQ : Hid (slotOk x = true) := by show _ = _; rw [hq]; rfl
          clear hq hw
          go_wp2
          go_roundw
          case rel => exact ⟨n + 1, by go_num, by omega, (by repeat (first | with_reducible exact Below.refl _ _ | with_reducible apply Below.ofExt | with_reducible apply Below.ofAlloc | with_reducible apply Below.drew | with_reducible apply Below.ofDrewN | with_reducible assumption | (with_reducible refine Below.setCell ?_ (by first | exact Nat.le_refl _ | (simp [go_sem]; done) | (simp [go_sem]; omega)) _))), by rw [HST.out, HA.out, HQ.out]; rfl⟩
          case measure => simp [intOf]; omega
        | true =>
          rw [hw] at hq c2
          clear hw
          cases hi : inB x.seq 0 99999 with
          | false =>
            have HQ : Hid (slotOk x = false) := by show _ = _; rw [hq, hi]; rfl
            have HI := Lib.hid hi
            clear hq hi
            go_wp2_with fail
            (go_at_call 38; refine (impl_within _ _ _ _).mono ?_; rintro e w' ⟨rfl, rfl⟩)
            rw [HI.out]
            go_wp2
            go_ret
            exact ⟨by rw [diskOk_no _ (all_take_false _ d.slots (n + 1) (by rw [HST.out, HQ.out, Bool.and_false]))]; rfl, (by repeat (first | with_reducible exact Below.refl _ _ | with_reducible apply Below.ofExt | with_reducible apply Below.ofAlloc | with_reducible apply Below.drew | with_reducible apply Below.ofDrewN | with_reducible assumption | (with_reducible refine Below.setCell ?_ (by first | exact Nat.le_refl _ | (simp [go_sem]; done) | (simp [go_sem]; omega)) _)))⟩
          | true =>
            have HI := Lib.hid hi
            cases hs2 : storeOk x.cells with
            | false =>
              have HQ : Hid (slotOk x = false) := by show _ = _; rw [hq, hi, hs2]; rfl
              have HS := Lib.hid hs2
              clear hq hi hs2
              go_wp2_with fail
              (go_at_call 38; refine (impl_within _ _ _ _).mono ?_; rintro e w' ⟨rfl, rfl⟩)
              rw [HI.out]
              go_wp2_with fail
              (go_at_call 86; refine (impl_StoreOk _ x.cells _ (by (try simp only [← Array.append_assoc]); (repeat (first | with_reducible exact HC.out | with_reducible apply View.rdMerge | with_reducible apply View.rdExt | with_reducible apply View.rdAlloc | with_reducible apply View.rdDrew | with_reducible apply View.rdDrewN)); all_goals exact (0 : Nat))).mono ?_; rintro e w' ⟨rfl, hb⟩; obtain ⟨X, rfl⟩ := hb.ext; clear hb)
              rw [HS.out]
              go_wp2
              go_ret
              exact ⟨by rw [diskOk_no _ (all_take_false _ d.slots (n + 1) (by rw [HST.out, HQ.out, Bool.and_false]))]; rfl, (by repeat (first | with_reducible exact Below.refl _ _ | with_reducible apply Below.ofExt | with_reducible apply Below.ofAlloc | with_reducible apply Below.drew | with_reducible apply Below.ofDrewN | with_reducible assumption | (with_reducible refine Below.setCell ?_ (by first | exact Nat.le_refl _ | (simp [go_sem]; done) | (simp [go_sem]; omega)) _)))⟩
            | true =>
              have HQ : Hid (slotOk x = true) := by show _ = _; rw [hq, hi, hs2]; rfl
              have HS := Lib.hid hs2
              clear hq hi hs2
              go_wp2_with fail
              (go_at_call 38; refine (impl_within _ _ _ _).mono ?_; rintro e w' ⟨rfl, rfl⟩)
              rw [HI.out]
              go_wp2_with fail
              (go_at_call 86; refine (impl_StoreOk _ x.cells _ (by (try simp only [← Array.append_assoc]); (repeat (first | with_reducible exact HC.out | with_reducible apply View.rdMerge | with_reducible apply View.rdExt | with_reducible apply View.rdAlloc | with_reducible apply View.rdDrew | with_reducible apply View.rdDrewN)); all_goals exact (0 : Nat))).mono ?_; rintro e w' ⟨rfl, hb⟩; obtain ⟨X, rfl⟩ := hb.ext; clear hb)
              rw [HS.out]
              go_wp2
              go_roundw
              case rel => exact ⟨n + 1, by go_num, by omega, (by repeat (first | with_reducible exact Below.refl _ _ | with_reducible apply Below.ofExt | with_reducible apply Below.ofAlloc | with_reducible apply Below.drew | with_reducible apply Below.ofDrewN | with_reducible assumption | (with_reducible refine Below.setCell ?_ (by first | exact Nat.le_refl _ | (simp [go_sem]; done) | (simp [go_sem]; omega)) _))), by rw [HST.out, HA.out, HQ.out]; rfl⟩
              case measure => simp [intOf]; omega
      case neg =>
        have e : n = d.slots.length := by omega
        have ha := HA.out
        rw [e, List.take_length] at ha
        have HQ : Hid (diskOk d = journalOk d.journal) := by show _ = _; rw [HQQ.out, ha]; rfl
        clear ha
        go_wp2_with fail
        (go_at_call 28; refine (impl_JournalOk d.journal.text d.journal.sure _ z0).mono ?_; rintro e w' ⟨rfl, hb⟩; obtain ⟨X, rfl⟩ := hb.ext; clear hb)
        go_wp2
        go_ret
        exact ⟨by rw [HQ.out]; rfl, (by repeat (first | with_reducible exact Below.refl _ _ | with_reducible apply Below.ofExt | with_reducible apply Below.ofAlloc | with_reducible apply Below.drew | with_reducible apply Below.ofDrewN | with_reducible assumption | (with_reducible refine Below.setCell ?_ (by first | exact Nat.le_refl _ | (simp [go_sem]; done) | (simp [go_sem]; omega)) _)))⟩
end Go.Proofs.YtedgenmbdjadkaaGreatDoor
namespace Go.Proofs.YtedgenmbdjadkaaGreatDoor
open Go.ChangeShapes Go.WideShapes Go.ChangeAt Go.RowKit

theorem vCell_one : ∀ d : CellD, ∀ u ∈ CellD.row d, u.oneCell' = true := fun d u hu => by simp [CellD.row] at hu; rcases hu with rfl | rfl <;> rfl
def rCell : RowOf CellD := ⟨CellD.row, 2, fun _ => rfl, vCell_one⟩
/-- what is owned reads as a row that begins at its block -/
theorem rdl_of_own {α : Type} {row : α → List Value} {k : Nat} {ok : α → Prop} {hk : ∀ d, (row d).length = k} {h1 : ∀ d, ∀ u ∈ row d, u.oneCell' = true} {R : RowOf α} (hr : R.row = row) {e : TypeId} {w : World} {fp : List Nat} {v : Value} {ds : List α}
    (h : (vSlice (vRow row k ok hk h1) e).own w fp [v] ds) : RdL R w v ds := by
  subst hr
  rcases h with ⟨hv, rfl, _⟩ | ⟨b, cap, blk, css, fps, hv, hb, h2, h3, h4, h5, h6, h7, h8, h9⟩
  · cases hv
    exact RdL.nil _ _
  · cases hv
    refine .inr ⟨b, 0, cap, rfl, h2, h3, fun j u hj => ?_⟩
    have e : css = ds.map R.row := List.ext_getElem (by simp [h7]) (fun i a c => by
      have := (h9 i (by omega) a (by omega)).2.1
      simpa using this)
    rw [e, ← List.flatMap_def] at h5
    rw [← h5, List.getElem?_take] at hj
    split at hj
    · rw [World.cell?_of_get hb, Nat.zero_add]
      simpa using hj
    · cases hj
theorem own_of_OwnR {α : Type} {row : α → List Value} {k : Nat} {ok : α → Prop} {hk : ∀ d, (row d).length = k} {h1 : ∀ d, ∀ u ∈ row d, u.oneCell' = true} {R : RowOf α} (hr : R.row = row) (hkk : R.k = k) {e : TypeId} {w : World} {B : Nat} {v : Value} {xs : List α} (h : OwnL R e w B v xs) (hok : ∀ d ∈ xs, ok d) :
    ∃ fp : List Nat, (vSlice (vRow row k ok hk h1) e).own w fp [v] xs ∧ fp.Nodup ∧ ∀ b ∈ fp, B ≤ b := by
  subst hr hkk
  rcases h.2 with ⟨rfl, h0⟩ | ⟨g, cap, cur, rfl, hg, hh, hn, hm, hsz, ht⟩
  · have : xs = [] := List.eq_nil_of_length_eq_zero h0
    subst this
    exact ⟨[], .inl ⟨rfl, rfl, rfl⟩, List.nodup_nil, by simp⟩
  · exact ⟨[g], vSlice.ownRow hh rfl hn hm hsz ht hok, by simp, by simpa using hg⟩
theorem vCells_ok {v : Value} {xs : List CellD} {w : World} {e : TypeId} (h : (vSlice vCell e).rd w [v] xs) : ∀ c ∈ xs, c.ok := by
  obtain ⟨_, _, _, _, _, _, hcell⟩ := vSlice.shape h
  intro c hc
  obtain ⟨i, hi, rfl⟩ := List.getElem_of_mem hc
  obtain ⟨_, _, _, _, _, h, _⟩ := hcell i hi
  exact h.2
theorem own_of_cells {w : World} {B : Nat} {v : Value} {xs : List CellD} {e : TypeId} (h : OwnL rCell e w B v xs) (hok : ∀ d ∈ xs, d.ok) : ∃ fp : List Nat, (vSlice vCell e).own w fp [v] xs ∧ fp.Nodup ∧ ∀ b ∈ fp, B ≤ b :=
  own_of_OwnR (R := rCell) (row := CellD.row) (k := 2) rfl rfl (ok := CellD.ok) (hk := fun _ => rfl) (h1 := vCell_one) h hok
set_option maxRecDepth 100000 in
theorem impl_CloneCells (v : Value) (xs : List CellD) (w : World) (hs : RdL rCell w v xs) (hl : xs.length ≤ 1048576) :
    Calls Tryz.prog 60 #[v] w fun e w' => ∃ v', e = .returned v' ∧ OwnL rCell 39 w' w.heap.size v' xs ∧ Below w.heap.size w w' := by
  obtain ⟨ao, cap, rfl, hc1, hc2, hnil, hne⟩ := hs.shape
  have HS := Lib.hid hs
  clear hs hne
  have qT : ∀ (w : World) (a : Option Addr) (n c n' c' : Nat), (binOp .eql 35 (.slice a n c) (.slice none n' c')).run Tryz.prog w = .ok (.bool a.isNone) w := fun w a n c n' c' => Lib.run_eql_slice_nil w _ _ a n c n' c' Tryz.underlying35
  cases ao with
  | none =>
    obtain ⟨rfl, rfl⟩ := hnil rfl
    go_enter Tryz.func60, Tryz.ntmps60
    go_wp2
    go_ret
    exact ⟨_, rfl, OwnL.nil rCell _ _ _, (by repeat (first | with_reducible exact Below.refl _ _ | with_reducible apply Below.ofExt | with_reducible apply Below.ofAlloc | with_reducible apply Below.drew | with_reducible apply Below.ofDrewN | with_reducible assumption | (with_reducible refine Below.setCell ?_ (by first | exact Nat.le_refl _ | (simp [go_sem]; done) | (simp [go_sem]; omega)) _)))⟩
  | some a =>
    clear hnil
    go_enter Tryz.func60, Tryz.ntmps60
    go_wp2_with (at_builtin; refine Stop.here ?_)
    refine wpList_appL rfl _ _ _ rfl (R := rCell) (e := 39) Tryz.elemCellS (B := w.heap.size) (OwnL.empty rCell _ w) rfl (HS.out.alloc _) rfl (by simp only [List.length_nil]; omega) (by simp only [List.length_nil]; unfold maxLen; omega) (by simp) ?_
    intro v4 w4 hown4 hgr4 _
    have hb4 : Below w.heap.size w w4 := Below.appL (a := w) (R := rCell) (e := 39) (by repeat (first | with_reducible exact Below.refl _ _ | with_reducible apply Below.ofExt | with_reducible apply Below.ofAlloc | with_reducible apply Below.drew | with_reducible apply Below.ofDrewN | with_reducible assumption | (with_reducible refine Below.setCell ?_ (by first | exact Nat.le_refl _ | (simp [go_sem]; done) | (simp [go_sem]; omega)) _))) hgr4 (OwnL.empty rCell _ w)
    go_wp2
    go_ret
    exact ⟨_, rfl, hown4, hb4⟩
end Go.Proofs.YtedgenmbdjadkaaGreatDoor
namespace Go.Proofs.YtedgenmbdjadkaaGreatDoor
open Go.ChangeShapes Go.WideShapes Go.ChangeAt Go.RowKit

theorem bytes_toList (s : ByteArray) : s.toList = s.data.toList := ByteArray.toList_eq s
theorem OwnL.merge2 {α : Type} {R : RowOf α} {e : TypeId} {w : World} {B : Nat} {v : Value} {xs : List α} {bs cs : Array Obj} {d0 dr : Nat} (h : OwnL R e (w.ext ⟨bs, d0⟩) B v xs) : OwnL R e (w.ext ⟨bs ++ cs, dr⟩) B v xs := by
  have := h.ext ⟨cs, dr⟩
  rwa [World.ext_ext] at this
theorem OwnL.drC {α : Type} {R : RowOf α} {e : TypeId} {w : World} {B : Nat} {v : Value} {xs : List α} {X : Ext} {d : Nat} (h : OwnL R e (w.ext X) B v xs) : OwnL R e (w.ext ⟨X.bs, d⟩) B v xs := by
  have := h.ext ⟨#[], d⟩
  rwa [World.ext_ext, Array.append_empty] at this
end Go.Proofs.YtedgenmbdjadkaaGreatDoor
namespace Go.Proofs.YtedgenmbdjadkaaGreatDoor
open Go.ChangeShapes Go.WideShapes Go.ChangeAt Go.RowKit

theorem any_take_step {α : Type} (p : α → Bool) (xs : List α) (n : Nat) (h : n < xs.length) : (xs.take (n + 1)).any p = ((xs.take n).any p || p xs[n]) := by
  simp only [List.take_succ_eq_append_getElem h, List.any_append, List.any_cons, List.any_nil, Bool.or_false]
theorem any_take_true {α : Type} (p : α → Bool) (xs : List α) (n : Nat) (h : (xs.take n).any p = true) : xs.any p = true := by
  rw [List.any_eq_true] at h ⊢
  obtain ⟨x, hx, hp⟩ := h
  exact ⟨x, List.mem_of_mem_take hx, hp⟩
/-- the place of the first that p holds of, or -1 -/
def firstIdx {α : Type} (p : α → Bool) (ds : List α) : Int := if ds.any p then ds.findIdx p else -1
theorem firstIdx_none {α : Type} (p : α → Bool) (ds : List α) (h : ds.any p = false) : firstIdx p ds = -1 := by unfold firstIdx; rw [h]; rfl
theorem firstIdx_found {α : Type} (p : α → Bool) (ds : List α) (n : Nat) (hn : n < ds.length) (h : (ds.take n).any p = false) (h2 : p ds[n] = true) : firstIdx p ds = n := by
  have ha : ds.any p = true := any_take_true p ds (n + 1) (by rw [any_take_step p ds n hn, h2, Bool.or_true])
  unfold firstIdx
  rw [if_pos ha]
  congr 1
  rw [List.findIdx_eq hn]
  refine ⟨h2, fun j hj => ?_⟩
  cases hp : p ds[j] with
  | false => rfl
  | true =>
    rw [List.any_eq_false] at h
    exact absurd hp (h _ (by rw [List.mem_take_iff_getElem]; exact ⟨j, by omega, rfl⟩))
theorem firstIdx_ge {α : Type} (p : α → Bool) (ds : List α) : decide (0 ≤ firstIdx p ds) = ds.any p := by
  unfold firstIdx
  cases h : ds.any p with
  | true => rw [if_pos rfl]; simp
  | false => simp
end Go.Proofs.YtedgenmbdjadkaaGreatDoor
