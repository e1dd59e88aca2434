/- Texts of this claim, merged: the laws of the walks and what they stand on. Each condition stands in its theorem. -/
import Derived.Test.YtedgenmbdjadkaaGreatDoorRows
import Derived.WalkKit
import Derived.ProofKit
import Derived.OpenShut
import Derived.WalkLawsBesides
import Derived.WalkSpells
import Derived.Lib.Split
import Derived.Lib.CountLaws
import Derived.Lib.SplitLaws
import Derived.OrdersHeld
import Derived.Lib.AppendStr
import Derived.Lib.FrozenHead
import Derived.Laws.IdiomStrings
import Derived.Deep.QuietTactic
import Derived.BigQuiet
import Derived.Lib.Hide
import Derived.Lib.HexFns
import Derived.Lib.ItoaNum
import Derived.Lib.AppendIntMem
set_option linter.unusedVariables false
set_option linter.unusedSimpArgs false
namespace Go.Proofs.YtedgenmbdjadkaaGreatDoor
open Go.ChangeShapes Go.WideShapes Go.ChangeAt Go.RowKit

theorem Tryz.own : ownKnob Tryz.prog.godebug = none := by kernel_rfl
theorem Tryz.laidOut : laidOutB Tryz.prog = true := by kernel_rfl

/-- What a law's walk gives. -/
def Yes (W : World) : Ending → World → Prop := fun e W' => e = .returned (.bool true) ∧ Below W.heap.size W W'

theorem trodAll_stays {H : Type} {enc : TypeId × Value → H} {P : Program} (hl : laidOutB P = true) {W W' : World} (hb : Below W.heap.size W W') :
    ∀ (ts : List TypeId) (vs : List Value) (ds : List (DataW H)) (ps : List MemPlace), (∀ t ∈ ts, P.readableRec t = true ∧ t < P.types.size) →
      (∀ x ∈ ps, x.block < W.heap.size) → DataW.TrodAll enc P W 0 (fun _ => true) true ts vs ds ps →
      DataW.TrodAll enc P W' 0 (fun b => decide (b < W.heap.size)) true ts vs ds ps
  | [], [], [], _, _, _, h => h
  | t :: ts, v :: vs, d :: ds, _, hr, hlt, ⟨p, q, h1, h2, e⟩ => by
    subst e
    exact ⟨p, q, Below.trod hl (hr t (by simp)).1 (hr t (by simp)).2 h1 hb (fun x hx => hlt x (by simp [hx])),
      trodAll_stays hl hb ts vs ds q (fun t ht => hr t (by simp [ht])) (fun x hx => hlt x (by simp [hx])) h2, rfl⟩
  | [], _ :: _, _, _, _, _, h => h.elim
  | [], [], _ :: _, _, _, _, h => h.elim
  | _ :: _, [], _, _, _, _, h => h.elim
  | _ :: _, _ :: _, [], _, _, _, h => h.elim

theorem law_post {H : Type} {enc : TypeId × Value → H} {P : Program} (hl : laidOutB P = true) {f : Func} {s : ChangeSpec} {W W' : World} {args : Array Value} {ds gs : List (DataW H)} {before : List MemPlace}
    (hW : DataW.Whole enc P f.params.toList s.vars false W args.toList ds gs before) (hv : s.vars = [])
    (hr : ∀ t ∈ f.params.toList, P.readableRec t = true ∧ t < P.types.size)
    (hres : DataW.TrodAll enc P W' W.heap.size (fun _ => false) false f.resultTypes.toList ((Value.bool true).resultList f.resultTypes.size) (s.fn H (ds ++ gs)).results [])
    (hargs : (s.fn H (ds ++ gs)).args = ds) (hvars : (s.fn H (ds ++ gs)).vars = []) (hb : Below W.heap.size W W') :
    s.post enc P f false true false false W args (.bool true) W' := by
  have hW' := hW
  obtain ⟨p, q, hA, hV, hpq, _, _⟩ := hW'
  rw [hv] at hV
  have hq : gs = [] ∧ q = [] := by
    cases gs with
    | nil => exact ⟨rfl, hV⟩
    | cons g gs => exact hV.elim
  obtain ⟨rfl, rfl⟩ := hq
  simp only [List.append_nil] at hpq
  subst hpq
  refine ⟨ds, [], before, [], before, [], hW, hres, ?_, ?_, hb.frame _, fun h => by cases h⟩
  · rw [hargs]
    exact trodAll_stays hl hb _ _ _ _ hr (fun x hx => hW.lt x hx) hA
  · rw [hv, hvars]
    rfl
end Go.Proofs.YtedgenmbdjadkaaGreatDoor
namespace Go.Proofs.YtedgenmbdjadkaaGreatDoor
open Go.Lib

/-- the pieces between the bytes c: one at least -/
def splitL (c : UInt8) : List UInt8 → List (List UInt8)
  | [] => [[]]
  | b :: l => if b = c then [] :: splitL c l else match splitL c l with
    | [] => [[b]]
    | x :: xs => (b :: x) :: xs
theorem splitL_ne (c : UInt8) : ∀ l, splitL c l ≠ []
  | [] => by simp [splitL]
  | b :: l => by
    unfold splitL
    split
    · simp
    · split <;> simp
theorem splitL_none (c : UInt8) : ∀ l : List UInt8, c ∉ l → splitL c l = [l]
  | [], _ => rfl
  | b :: l, h => by
    have hb : b ≠ c := fun e => h (by rw [e]; simp)
    have hl : c ∉ l := fun e => h (List.mem_cons_of_mem _ e)
    unfold splitL
    rw [if_neg hb, splitL_none c l hl]
theorem splitL_app (c : UInt8) : ∀ (a l : List UInt8), c ∉ a → splitL c (a ++ c :: l) = a :: splitL c l
  | [], l, _ => by
    show splitL c (c :: l) = _
    conv => lhs; unfold splitL
    rw [if_pos rfl]
  | b :: a, l, h => by
    have hb : b ≠ c := fun e => h (by rw [e]; simp)
    have ha : c ∉ a := fun e => h (List.mem_cons_of_mem _ e)
    show splitL c (b :: (a ++ c :: l)) = _
    conv => lhs; unfold splitL
    rw [if_neg hb, splitL_app c a l ha]
theorem index_cons (c b : UInt8) (l : List UInt8) : index (b :: l) [c] = if b = c then 0 else if index l [c] = -1 then -1 else index l [c] + 1 := by
  have e : index (b :: l) [c] = if [c].isPrefixOf (b :: l) then 0 else if index l [c] == -1 then -1 else index l [c] + 1 := rfl
  rw [e]
  by_cases h : b = c
  · subst h
    rw [if_pos (by simp [List.isPrefixOf]), if_pos rfl]
  · rw [if_neg (by simp [List.isPrefixOf]; exact fun e => h e.symm), if_neg h]
    by_cases h2 : index l [c] = -1
    · rw [if_pos (by rw [h2]; rfl), if_pos h2]
    · rw [if_neg (by simpa using h2), if_neg h2]
theorem index_miss_iff (c : UInt8) : ∀ l : List UInt8, index l [c] = -1 ↔ c ∉ l
  | [] => by simp [index]
  | b :: l => by
    rw [index_cons]
    have ih := index_miss_iff c l
    have hg := index_ge l [c]
    by_cases h : b = c
    · rw [if_pos h]
      simp [h]
    · rw [if_neg h]
      by_cases h2 : index l [c] = -1
      · rw [if_pos h2]
        have := ih.1 h2
        simp only [true_iff]
        intro hm
        rcases List.mem_cons.1 hm with e | e
        · exact h e.symm
        · exact this e
      · rw [if_neg h2]
        refine ⟨fun e => by omega, fun hm => absurd (ih.2 fun hh => hm (List.mem_cons_of_mem _ hh)) h2⟩
theorem index_at (c : UInt8) : ∀ (l : List UInt8) (i : Nat), index l [c] = i → l = l.take i ++ c :: l.drop (i + 1) ∧ c ∉ l.take i
  | [], i, h => by simp [index] at h
  | b :: l, i, h => by
    rw [index_cons] at h
    by_cases hb : b = c
    · rw [if_pos hb] at h
      have : i = 0 := by omega
      subst this
      subst hb
      exact ⟨by simp, by simp⟩
    · rw [if_neg hb] at h
      by_cases h2 : index l [c] = -1
      · rw [if_pos h2] at h; omega
      · rw [if_neg h2] at h
        have hg := index_ge l [c]
        obtain ⟨j, hj⟩ : ∃ j : Nat, i = j + 1 := ⟨i - 1, by omega⟩
        subst hj
        obtain ⟨e1, e2⟩ := index_at c l j (by omega)
        refine ⟨?_, ?_⟩
        · show b :: l = b :: (l.take j ++ c :: l.drop (j + 1))
          rw [← e1]
        · intro hm
          rcases List.mem_cons.1 hm with e | e
          · exact hb e.symm
          · exact e2 e
theorem splitK_eq (c : UInt8) : ∀ (k : Nat) (l : List UInt8), count l [c] = k → splitK [c] 0 k l = splitL c l
  | k, l, hk => by
    by_cases hm : index l [c] = -1
    · have h0 := count_miss hm
      rw [hk] at h0
      subst h0
      rw [splitL_none c l ((index_miss_iff c l).1 hm)]
      rfl
    · have hg := index_ge l [c]
      obtain ⟨i, hi⟩ : ∃ i : Nat, index l [c] = i := ⟨(index l [c]).toNat, by omega⟩
      have hc := count_hit (by simp) hi
      obtain ⟨e1, e2⟩ := index_at c l i hi
      cases k with
      | zero => omega
      | succ k =>
        have ih := splitK_eq c k (l.drop (i + 1)) (by simp only [List.length_singleton] at hc; omega)
        conv => lhs; unfold splitK
        rw [if_neg (by simpa using hm), hi]
        simp only [Int.toNat_natCast, List.length_singleton, Nat.add_zero]
        rw [ih]
        conv => rhs; rw [e1]
        rw [splitL_app c _ _ e2]
theorem splitB_eq (c : UInt8) (s : ByteArray) : (splitB ⟨#[c]⟩ 0 (countB s ⟨#[c]⟩) s).map (·.data.toList) = splitL c s.data.toList := by
  rw [splitB_data]
  exact splitK_eq c _ _ rfl
theorem _root_.Go.Lib.cut_eq (c : UInt8) (l : List UInt8) : cut l [c] = if c ∈ l then (l.take (index l [c]).toNat, l.drop ((index l [c]).toNat + 1), true) else (l, [], false) := by
  unfold cut
  have hg := index_ge l [c]
  by_cases h : c ∈ l
  · have : index l [c] ≠ -1 := fun e => (index_miss_iff c l).1 e h
    rw [if_pos (by omega), if_pos h]
    rfl
  · rw [if_neg (by rw [(index_miss_iff c l).2 h]; omega), if_neg h]
theorem _root_.Go.Lib.cut_app (c : UInt8) (a l : List UInt8) (h : c ∉ a) : cut (a ++ c :: l) [c] = (a, l, true) := by
  have hi : index (a ++ c :: l) [c] = a.length := by
    induction a with
    | nil => show index (c :: l) [c] = 0; rw [index_cons, if_pos rfl]
    | cons b a ih =>
      have hb : b ≠ c := fun e => h (by rw [e]; simp)
      have := ih fun e => h (List.mem_cons_of_mem _ e)
      show index (b :: (a ++ c :: l)) [c] = _
      rw [index_cons, if_neg hb, this, if_neg (by omega)]
      simp
  rw [cut_eq, if_pos (by simp), hi]
  simp
end Go.Proofs.YtedgenmbdjadkaaGreatDoor
namespace Go
open Go.RowKit

/-- what a call may add: new blocks, and the count of draws -/
structure Ext where
  bs : Array Obj
  dr : Nat
instance : Inhabited Ext := ⟨⟨#[], 0⟩⟩

def World.ext (w : World) (X : Ext) : World := { w with heap := w.heap ++ X.bs, drawn := X.dr }

/- sums of the walk: a block stands below every later heap size; two blocks differ -/
@[go_sem] theorem sum_lt0 (a  : Nat) : (a < a + 1) = True := eq_true (by omega)
@[go_sem] theorem sum_ne0 (a  : Nat) : (a = a + 1) = False := eq_false (by omega)
@[go_sem] theorem sum_en0 (a  : Nat) : (a + 1 = a) = False := eq_false (by omega)
@[go_sem] theorem sum_lt1 (a x0 : Nat) : (a < a + 1 + x0) = True := eq_true (by omega)
@[go_sem] theorem sum_ne1 (a x0 : Nat) : (a = a + 1 + x0) = False := eq_false (by omega)
@[go_sem] theorem sum_en1 (a x0 : Nat) : (a + 1 + x0 = a) = False := eq_false (by omega)
@[go_sem] theorem sum_le1 (a x0 : Nat) : (a ≤ a + x0) = True := eq_true (by omega)
@[go_sem] theorem sum_lt2 (a x0 x1 : Nat) : (a < a + 1 + x0 + x1) = True := eq_true (by omega)
@[go_sem] theorem sum_ne2 (a x0 x1 : Nat) : (a = a + 1 + x0 + x1) = False := eq_false (by omega)
@[go_sem] theorem sum_en2 (a x0 x1 : Nat) : (a + 1 + x0 + x1 = a) = False := eq_false (by omega)
@[go_sem] theorem sum_le2 (a x0 x1 : Nat) : (a ≤ a + x0 + x1) = True := eq_true (by omega)
@[go_sem] theorem sum_lt3 (a x0 x1 x2 : Nat) : (a < a + 1 + x0 + x1 + x2) = True := eq_true (by omega)
@[go_sem] theorem sum_ne3 (a x0 x1 x2 : Nat) : (a = a + 1 + x0 + x1 + x2) = False := eq_false (by omega)
@[go_sem] theorem sum_en3 (a x0 x1 x2 : Nat) : (a + 1 + x0 + x1 + x2 = a) = False := eq_false (by omega)
@[go_sem] theorem sum_le3 (a x0 x1 x2 : Nat) : (a ≤ a + x0 + x1 + x2) = True := eq_true (by omega)
@[go_sem] theorem sum_lt4 (a x0 x1 x2 x3 : Nat) : (a < a + 1 + x0 + x1 + x2 + x3) = True := eq_true (by omega)
@[go_sem] theorem sum_ne4 (a x0 x1 x2 x3 : Nat) : (a = a + 1 + x0 + x1 + x2 + x3) = False := eq_false (by omega)
@[go_sem] theorem sum_en4 (a x0 x1 x2 x3 : Nat) : (a + 1 + x0 + x1 + x2 + x3 = a) = False := eq_false (by omega)
@[go_sem] theorem sum_le4 (a x0 x1 x2 x3 : Nat) : (a ≤ a + x0 + x1 + x2 + x3) = True := eq_true (by omega)
@[go_sem] theorem sum_lt5 (a x0 x1 x2 x3 x4 : Nat) : (a < a + 1 + x0 + x1 + x2 + x3 + x4) = True := eq_true (by omega)
@[go_sem] theorem sum_ne5 (a x0 x1 x2 x3 x4 : Nat) : (a = a + 1 + x0 + x1 + x2 + x3 + x4) = False := eq_false (by omega)
@[go_sem] theorem sum_en5 (a x0 x1 x2 x3 x4 : Nat) : (a + 1 + x0 + x1 + x2 + x3 + x4 = a) = False := eq_false (by omega)
@[go_sem] theorem sum_le5 (a x0 x1 x2 x3 x4 : Nat) : (a ≤ a + x0 + x1 + x2 + x3 + x4) = True := eq_true (by omega)
@[go_sem] theorem sum_lt6 (a x0 x1 x2 x3 x4 x5 : Nat) : (a < a + 1 + x0 + x1 + x2 + x3 + x4 + x5) = True := eq_true (by omega)
@[go_sem] theorem sum_ne6 (a x0 x1 x2 x3 x4 x5 : Nat) : (a = a + 1 + x0 + x1 + x2 + x3 + x4 + x5) = False := eq_false (by omega)
@[go_sem] theorem sum_en6 (a x0 x1 x2 x3 x4 x5 : Nat) : (a + 1 + x0 + x1 + x2 + x3 + x4 + x5 = a) = False := eq_false (by omega)
@[go_sem] theorem sum_le6 (a x0 x1 x2 x3 x4 x5 : Nat) : (a ≤ a + x0 + x1 + x2 + x3 + x4 + x5) = True := eq_true (by omega)
@[go_sem] theorem sum_lt7 (a x0 x1 x2 x3 x4 x5 x6 : Nat) : (a < a + 1 + x0 + x1 + x2 + x3 + x4 + x5 + x6) = True := eq_true (by omega)
@[go_sem] theorem sum_ne7 (a x0 x1 x2 x3 x4 x5 x6 : Nat) : (a = a + 1 + x0 + x1 + x2 + x3 + x4 + x5 + x6) = False := eq_false (by omega)
@[go_sem] theorem sum_en7 (a x0 x1 x2 x3 x4 x5 x6 : Nat) : (a + 1 + x0 + x1 + x2 + x3 + x4 + x5 + x6 = a) = False := eq_false (by omega)
@[go_sem] theorem sum_le7 (a x0 x1 x2 x3 x4 x5 x6 : Nat) : (a ≤ a + x0 + x1 + x2 + x3 + x4 + x5 + x6) = True := eq_true (by omega)
@[go_sem] theorem sum_lt8 (a x0 x1 x2 x3 x4 x5 x6 x7 : Nat) : (a < a + 1 + x0 + x1 + x2 + x3 + x4 + x5 + x6 + x7) = True := eq_true (by omega)
@[go_sem] theorem sum_ne8 (a x0 x1 x2 x3 x4 x5 x6 x7 : Nat) : (a = a + 1 + x0 + x1 + x2 + x3 + x4 + x5 + x6 + x7) = False := eq_false (by omega)
@[go_sem] theorem sum_en8 (a x0 x1 x2 x3 x4 x5 x6 x7 : Nat) : (a + 1 + x0 + x1 + x2 + x3 + x4 + x5 + x6 + x7 = a) = False := eq_false (by omega)
@[go_sem] theorem sum_le8 (a x0 x1 x2 x3 x4 x5 x6 x7 : Nat) : (a ≤ a + x0 + x1 + x2 + x3 + x4 + x5 + x6 + x7) = True := eq_true (by omega)
@[go_sem] theorem sum_lt9 (a x0 x1 x2 x3 x4 x5 x6 x7 x8 : Nat) : (a < a + 1 + x0 + x1 + x2 + x3 + x4 + x5 + x6 + x7 + x8) = True := eq_true (by omega)
@[go_sem] theorem sum_ne9 (a x0 x1 x2 x3 x4 x5 x6 x7 x8 : Nat) : (a = a + 1 + x0 + x1 + x2 + x3 + x4 + x5 + x6 + x7 + x8) = False := eq_false (by omega)
@[go_sem] theorem sum_en9 (a x0 x1 x2 x3 x4 x5 x6 x7 x8 : Nat) : (a + 1 + x0 + x1 + x2 + x3 + x4 + x5 + x6 + x7 + x8 = a) = False := eq_false (by omega)
@[go_sem] theorem sum_le9 (a x0 x1 x2 x3 x4 x5 x6 x7 x8 : Nat) : (a ≤ a + x0 + x1 + x2 + x3 + x4 + x5 + x6 + x7 + x8) = True := eq_true (by omega)
@[go_sem] theorem sum_lt10 (a x0 x1 x2 x3 x4 x5 x6 x7 x8 x9 : Nat) : (a < a + 1 + x0 + x1 + x2 + x3 + x4 + x5 + x6 + x7 + x8 + x9) = True := eq_true (by omega)
@[go_sem] theorem sum_ne10 (a x0 x1 x2 x3 x4 x5 x6 x7 x8 x9 : Nat) : (a = a + 1 + x0 + x1 + x2 + x3 + x4 + x5 + x6 + x7 + x8 + x9) = False := eq_false (by omega)
@[go_sem] theorem sum_en10 (a x0 x1 x2 x3 x4 x5 x6 x7 x8 x9 : Nat) : (a + 1 + x0 + x1 + x2 + x3 + x4 + x5 + x6 + x7 + x8 + x9 = a) = False := eq_false (by omega)
@[go_sem] theorem sum_le10 (a x0 x1 x2 x3 x4 x5 x6 x7 x8 x9 : Nat) : (a ≤ a + x0 + x1 + x2 + x3 + x4 + x5 + x6 + x7 + x8 + x9) = True := eq_true (by omega)
@[go_sem] theorem sum_lt11 (a x0 x1 x2 x3 x4 x5 x6 x7 x8 x9 x10 : Nat) : (a < a + 1 + x0 + x1 + x2 + x3 + x4 + x5 + x6 + x7 + x8 + x9 + x10) = True := eq_true (by omega)
@[go_sem] theorem sum_ne11 (a x0 x1 x2 x3 x4 x5 x6 x7 x8 x9 x10 : Nat) : (a = a + 1 + x0 + x1 + x2 + x3 + x4 + x5 + x6 + x7 + x8 + x9 + x10) = False := eq_false (by omega)
@[go_sem] theorem sum_en11 (a x0 x1 x2 x3 x4 x5 x6 x7 x8 x9 x10 : Nat) : (a + 1 + x0 + x1 + x2 + x3 + x4 + x5 + x6 + x7 + x8 + x9 + x10 = a) = False := eq_false (by omega)
@[go_sem] theorem sum_le11 (a x0 x1 x2 x3 x4 x5 x6 x7 x8 x9 x10 : Nat) : (a ≤ a + x0 + x1 + x2 + x3 + x4 + x5 + x6 + x7 + x8 + x9 + x10) = True := eq_true (by omega)
@[go_sem] theorem sum_lt12 (a x0 x1 x2 x3 x4 x5 x6 x7 x8 x9 x10 x11 : Nat) : (a < a + 1 + x0 + x1 + x2 + x3 + x4 + x5 + x6 + x7 + x8 + x9 + x10 + x11) = True := eq_true (by omega)
@[go_sem] theorem sum_ne12 (a x0 x1 x2 x3 x4 x5 x6 x7 x8 x9 x10 x11 : Nat) : (a = a + 1 + x0 + x1 + x2 + x3 + x4 + x5 + x6 + x7 + x8 + x9 + x10 + x11) = False := eq_false (by omega)
@[go_sem] theorem sum_en12 (a x0 x1 x2 x3 x4 x5 x6 x7 x8 x9 x10 x11 : Nat) : (a + 1 + x0 + x1 + x2 + x3 + x4 + x5 + x6 + x7 + x8 + x9 + x10 + x11 = a) = False := eq_false (by omega)
@[go_sem] theorem sum_le12 (a x0 x1 x2 x3 x4 x5 x6 x7 x8 x9 x10 x11 : Nat) : (a ≤ a + x0 + x1 + x2 + x3 + x4 + x5 + x6 + x7 + x8 + x9 + x10 + x11) = True := eq_true (by omega)

@[go_sem] theorem World.ext_size (w : World) (X : Ext) : (w.ext X).heap.size = w.heap.size + X.bs.size := by
  show (w.heap ++ X.bs).size = _
  simp
theorem World.ext_nil (w : World) (d : Nat) (h : d = w.drawn) : w.ext ⟨#[], d⟩ = w := by subst h; unfold World.ext; simp
theorem World.ext_size_le (w : World) (X : Ext) : w.heap.size ≤ (w.ext X).heap.size := by rw [World.ext_size]; omega

theorem World.ext_get (w : World) (X : Ext) {b : Nat} (h : b < w.heap.size) : (w.ext X).heap[b]? = w.heap[b]? := by
  show (w.heap ++ X.bs)[b]? = _
  rw [Array.getElem?_append_left h]

@[go_sem] theorem World.cell?_ext (w : World) (X : Ext) (b o : Nat) (h : b < w.heap.size) : (w.ext X).cell? ⟨b, o, none⟩ = w.cell? ⟨b, o, none⟩ :=
  World.cell?_of_block (w := w) (w.ext_get X h)
@[go_sem] theorem World.frozen?_ext (w : World) (X : Ext) (b o : Nat) (h : b < w.heap.size) : (w.ext X).frozen? ⟨b, o, none⟩ = w.frozen? ⟨b, o, none⟩ :=
  World.frozen?_of_block (w := w) (w.ext_get X h)
@[go_sem] theorem World.drew_ext (w : World) (X : Ext) : (w.ext X).drew = w.ext ⟨X.bs, X.dr + 1⟩ := rfl
@[go_sem] theorem World.ext_drew (w : World) (X : Ext) : w.drew.ext X = w.ext X := rfl
@[go_sem] theorem World.ext_ext (w : World) (X Y : Ext) : (w.ext X).ext Y = w.ext ⟨X.bs ++ Y.bs, Y.dr⟩ := by unfold World.ext; simp only [Array.append_assoc]
@[go_sem] theorem World.setCell_ext (w : World) (X : Ext) (b o : Nat) (v : Value) (h : b < w.heap.size) : (w.ext X).setCell ⟨b, o, none⟩ v = (w.setCell ⟨b, o, none⟩ v).ext X := by
  have e : ∀ f : Obj → Obj, (w.heap ++ X.bs).modify b f = w.heap.modify b f ++ X.bs := by
    intro f
    apply Array.ext_getElem?
    intro i
    rw [Array.getElem?_modify]
    rcases Nat.lt_or_ge i w.heap.size with hi | hi
    · rw [Array.getElem?_append_left hi, Array.getElem?_append_left (by simpa using hi), Array.getElem?_modify]
    · rw [Array.getElem?_append_right hi, Array.getElem?_append_right (by simpa using hi), if_neg (by omega)]
      simp
  simp only [World.setCell, World.ext, e]

/-- block p anew -/
def World.setB (w : World) (p : Nat) (o : Obj) : World := { w with heap := w.heap.setIfInBounds p o }
@[go_sem] theorem World.setB_size (w : World) (p : Nat) (o : Obj) : (w.setB p o).heap.size = w.heap.size := by simp [World.setB]
theorem World.setB_get (w : World) (p : Nat) (o : Obj) (b : Nat) (h : b ≠ p) : (w.setB p o).heap[b]? = w.heap[b]? := by
  show (w.heap.setIfInBounds p o)[b]? = _
  rw [Array.getElem?_setIfInBounds_ne (Ne.symm h)]
theorem World.setB_at (w : World) (p : Nat) (o : Obj) (h : p < w.heap.size) : (w.setB p o).heap[p]? = some o := by
  show (w.heap.setIfInBounds p o)[p]? = _
  simp [h]
@[go_sem] theorem World.setB_ext (w : World) (X : Ext) (p : Nat) (o : Obj) (h : p < w.heap.size) : (w.ext X).setB p o = (w.setB p o).ext X := by
  unfold World.ext World.setB
  simp only [Array.setIfInBounds_append_left h]
@[go_sem] theorem World.setB_alloc_at (w : World) (p : Nat) (o o' : Obj) (h : p = w.heap.size) : (w.alloc o).setB p o' = w.alloc o' := by
  subst h
  have e : (w.heap.push o).setIfInBounds w.heap.size o' = w.heap.push o' := by
    apply Array.ext_getElem?
    intro i
    rw [Array.getElem?_setIfInBounds, Array.getElem?_push, Array.getElem?_push]
    by_cases h : w.heap.size = i
    · subst h; simp
    · rw [if_neg h]; simp [Ne.symm h]
  show ({ w with heap := (w.heap.push o).setIfInBounds w.heap.size o' } : World) = { w with heap := w.heap.push o' }
  rw [e]
@[go_sem] theorem World.setB_alloc_past (w : World) (p : Nat) (o o' : Obj) (h : p < w.heap.size) : (w.alloc o).setB p o' = (w.setB p o').alloc o := by
  have e : (w.heap.push o).setIfInBounds p o' = (w.heap.setIfInBounds p o').push o := by
    apply Array.ext_getElem?
    intro i
    rw [Array.getElem?_setIfInBounds, Array.getElem?_push, Array.getElem?_push, Array.getElem?_setIfInBounds, Array.size_setIfInBounds]
    by_cases h1 : p = i
    · subst h1; simp [Nat.ne_of_lt h, h, Nat.lt_succ_of_lt h]
    · rw [if_neg h1, if_neg h1]
  show ({ w with heap := (w.heap.push o).setIfInBounds p o' } : World) = { w with heap := (w.heap.setIfInBounds p o').push o }
  rw [e]
@[go_sem] theorem World.setB_setB (w : World) (p : Nat) (o o' : Obj) : (w.setB p o).setB p o' = w.setB p o' := by
  unfold World.setB
  simp
@[go_sem] theorem World.setB_drew (w : World) (p : Nat) (o : Obj) : w.drew.setB p o = (w.setB p o).drew := rfl
@[go_sem] theorem World.cell?_setB_ne (w : World) (p : Nat) (o : Obj) (b i : Nat) (h : b ≠ p) : (w.setB p o).cell? ⟨b, i, none⟩ = w.cell? ⟨b, i, none⟩ :=
  World.cell?_of_block (w := w) (w.setB_get p o b h)
@[go_sem] theorem World.frozen?_setB_ne (w : World) (p : Nat) (o : Obj) (b i : Nat) (h : b ≠ p) : (w.setB p o).frozen? ⟨b, i, none⟩ = w.frozen? ⟨b, i, none⟩ :=
  World.frozen?_of_block (w := w) (w.setB_get p o b h)

@[go_sem] theorem World.cell?_setB_at (w : World) (p i : Nat) (cs : Array Value) (t : TypeId) (f : Nat × Nat) (h : p < w.heap.size) : (w.setB p (.cells cs t f)).cell? ⟨p, i, none⟩ = cs[i]? := by
  simp [World.cell?, World.setB_at w p _ h]
@[go_sem] theorem World.frozen?_setB_at (w : World) (p i : Nat) (cs : Array Value) (t : TypeId) (h : p < w.heap.size) : (w.setB p (.cells cs t (0, 0))).frozen? ⟨p, i, none⟩ = false := by
  simp [World.frozen?, World.setB_at w p _ h]
@[go_sem] theorem World.setCell_setB_at (w : World) (p i : Nat) (v : Value) (cs : Array Value) (t : TypeId) (f : Nat × Nat) (h : p < w.heap.size) :
    (w.setB p (.cells cs t f)).setCell ⟨p, i, none⟩ v = w.setB p (.cells (cs.setIfInBounds i v) t f) := by
  have e : (w.heap.setIfInBounds p (.cells cs t f)).modify p (fun | .cells c e fr => .cells (c.setIfInBounds i v) e fr | o => o) = w.heap.setIfInBounds p (.cells (cs.setIfInBounds i v) t f) := by
    apply Array.ext_getElem?
    intro k
    rw [Array.getElem?_modify, Array.getElem?_setIfInBounds, Array.getElem?_setIfInBounds]
    by_cases h1 : p = k
    · subst h1; simp [h]
    · simp [h1]
  unfold World.setCell World.setB
  dsimp only
  rw [← e]
  rfl
@[go_sem] theorem World.setCell_setB_ne (w : World) (p b i : Nat) (v : Value) (o : Obj) (h : b ≠ p) :
    (w.setB p o).setCell ⟨b, i, none⟩ v = (w.setCell ⟨b, i, none⟩ v).setB p o := by
  have e : ∀ f : Obj → Obj, (w.heap.setIfInBounds p o).modify b f = (w.heap.modify b f).setIfInBounds p o := fun f => by
    apply Array.ext_getElem?
    intro k
    rw [Array.getElem?_modify, Array.getElem?_setIfInBounds, Array.getElem?_setIfInBounds, Array.getElem?_modify, Array.size_modify]
    by_cases h1 : p = k
    · subst h1; simp [h]
    · simp [h1]
  unfold World.setCell World.setB
  dsimp only
  rw [← e]
theorem World.setB_self {w : World} {p : Nat} {o : Obj} (h : w.heap[p]? = some o) : w.setB p o = w := by
  have e : w.heap.setIfInBounds p o = w.heap := by
    apply Array.ext_getElem?
    intro k
    rw [Array.getElem?_setIfInBounds]
    by_cases h1 : p = k
    · subst h1
      have := (Array.getElem?_eq_some_iff.1 h).1
      rw [if_pos rfl, if_pos this, h]
    · rw [if_neg h1]
  unfold World.setB
  rw [e]
theorem World.at_block {P : Program} {f : FuncId} {args : Array Value} {w : World} {p : Nat} {o : Obj} {R : Ending → World → Prop} (h : w.heap[p]? = some o) (H : Calls P f args (w.setB p o) R) : Calls P f args w R := by
  rw [World.setB_self h] at H
  exact H
theorem Code.at_block {P : Program} {c : Code} {Q : Exit → Act → World → Prop} {a : Act} {w : World} {p : Nat} {o : Obj} (h : w.heap[p]? = some o) (H : c.wp P Q a (w.setB p o)) : c.wp P Q a w := by
  rw [World.setB_self h] at H
  exact H
theorem World.lt_of_get {w : World} {p : Nat} {o : Obj} (h : w.heap[p]? = some o) : p < w.heap.size := (Array.getElem?_eq_some_iff.1 h).1

theorem RowKit.Below.ext {w w' : World} (h : Below w.heap.size w w') : ∃ X, w' = w.ext X := by
  refine ⟨⟨w'.heap.extract w.heap.size w'.heap.size, w'.drawn⟩, ?_⟩
  have hh : w'.heap = w.heap ++ w'.heap.extract w.heap.size w'.heap.size := by
    apply Array.ext_getElem?
    intro i
    rcases Nat.lt_or_ge i w.heap.size with hi | hi
    · rw [Array.getElem?_append_left hi, h.block i hi]
    · rw [Array.getElem?_append_right hi, Array.getElem?_extract]
      have := h.size
      by_cases h2 : i < w'.heap.size
      · rw [if_pos (by omega)]
        congr 1
        omega
      · rw [if_neg (by omega)]
        simp; omega
  obtain ⟨h1, h2, h3, h4, h5⟩ := h
  cases w'; cases w
  simp only [World.ext] at *
  subst h1 h2 h3
  congr

namespace RowKit
theorem Below.ofExt {a w : World} (h : Below a.heap.size a w) (X : Ext) : Below a.heap.size a (w.ext X) :=
  h.trans ⟨rfl, rfl, rfl, w.ext_size_le X, fun _ hk => w.ext_get X (Nat.lt_of_lt_of_le hk h.size)⟩
theorem Below.ofAlloc {a w : World} (h : Below a.heap.size a w) (o : Obj) : Below a.heap.size a (w.alloc o) := h.alloc h.size o
theorem Below.then {a w w' : World} (h : Below a.heap.size a w) (h' : Below w.heap.size w w') : Below a.heap.size a w' := h.trans (h'.mono h.size)
end RowKit
end Go
namespace Go.Proofs.YtedgenmbdjadkaaGreatDoor
theorem ret_int {k : IntKind} {a b : Int} (h : a = b) : Ending.returned (.int k a) = .returned (.int k b) := by rw [h]
theorem ret_bool {a b : Bool} (h : a = b) : Ending.returned (.bool a) = .returned (.bool b) := by rw [h]
theorem ret_str {a b : ByteArray} (h : a = b) : Ending.returned (.string a) = .returned (.string b) := by rw [h]
theorem beq_str (a b : ByteArray) : (a.toList == b.toList) = decide (a = b) := by
  rw [Bool.eq_iff_iff, beq_iff_eq, decide_eq_true_eq, ByteArray.toList_eq, ByteArray.toList_eq]
  constructor
  · intro h; cases a; cases b; simp_all
  · rintro rfl; rfl
theorem take_snoc (s : ByteArray) (k : Nat) (h : k < s.size) : s.data.toList.take (k + 1) = s.data.toList.take k ++ [s[k]] := by
  rw [List.take_succ_eq_append_getElem (by simpa using h)]; rfl
end Go.Proofs.YtedgenmbdjadkaaGreatDoor
namespace Go
open Go.RowKit

/-- slice value v has n elements; its cells (all elements' cells in a row) are cs -/
def Sl (w : World) (v : Value) (n : Nat) (cs : List Value) : Prop :=
  (v = .slice none 0 0 ∧ n = 0 ∧ cs = []) ∨
  ∃ b off cap, v = .slice (some ⟨b, off, none⟩) n cap ∧ n ≤ cap ∧ cap ≤ maxLen ∧ ∀ j u, cs[j]? = some u → w.cell? ⟨b, off + j, none⟩ = some u

theorem Sl.ext {w : World} {v : Value} {n : Nat} {cs : List Value} (h : Sl w v n cs) (X : Ext) : Sl (w.ext X) v n cs := by
  rcases h with h | ⟨b, off, cap, hv, h1, h2, h3⟩
  · exact .inl h
  · refine .inr ⟨b, off, cap, hv, h1, h2, fun j u hj => ?_⟩
    have hc := h3 j u hj
    rw [World.cell?_ext w X b (off + j) (World.block_lt_of_cell? w ⟨b, off + j, none⟩ hc)]
    exact hc

theorem Sl.alloc {w : World} {v : Value} {n : Nat} {cs : List Value} (h : Sl w v n cs) (o : Obj) : Sl (w.alloc o) v n cs := by
  rcases h with h | ⟨b, off, cap, hv, h1, h2, h3⟩
  · exact .inl h
  · refine .inr ⟨b, off, cap, hv, h1, h2, fun j u hj => ?_⟩
    have hc := h3 j u hj
    rw [World.cell?_alloc_past o b (off + j) (World.block_lt_of_cell? w ⟨b, off + j, none⟩ hc)]
    exact hc

theorem Sl.drew {w : World} {v : Value} {n : Nat} {cs : List Value} (h : Sl w v n cs) : Sl w.drew v n cs := h

theorem Sl.setB {w : World} {v : Value} {n : Nat} {cs : List Value} (h : Sl w v n cs) {p : Nat} (hp : v.ownBlock ≠ some p) (o : Obj) : Sl (w.setB p o) v n cs := by
  rcases h with h | ⟨b, off, cap, hv, h1, h2, h3⟩
  · exact .inl h
  · refine .inr ⟨b, off, cap, hv, h1, h2, fun j u hj => ?_⟩
    subst hv
    rw [World.cell?_setB_ne w p o b (off + j) (fun e => hp (by simp [Value.ownBlock, e]))]
    exact h3 j u hj

/-- the value's block is an old one -/
theorem Sl.lt {w : World} {v : Value} {n : Nat} {cs : List Value} (h : Sl w v n cs) (hc : cs ≠ []) : ∀ b, v.ownBlock = some b → b < w.heap.size := by
  intro b hb
  rcases h with ⟨rfl, _, _⟩ | ⟨b', off, cap, rfl, h1, h2, h3⟩
  · simp [Value.ownBlock] at hb
  · simp only [Value.ownBlock, Option.some.injEq] at hb
    subst hb
    cases cs with
    | nil => exact absurd rfl hc
    | cons u r => exact World.block_lt_of_cell? w ⟨b', off + 0, none⟩ (h3 0 u rfl)

/-- a block known whole -/
theorem Sl.of_block {w : World} {b n : Nat} {cs : List Value} {t : TypeId} {f : Nat × Nat} (h : w.heap[b]? = some (.cells cs.toArray t f)) (hm : n ≤ maxLen) : Sl w (.slice (some ⟨b, 0, none⟩) n n) n cs := by
  refine .inr ⟨b, 0, n, rfl, Nat.le_refl _, hm, fun j u hj => ?_⟩
  simp only [World.cell?, h, Nat.zero_add]
  simpa using hj

theorem Sl.below {w w' : World} {v : Value} {n : Nat} {cs : List Value} (h : Sl w v n cs) (hb : Below w.heap.size w w') : Sl w' v n cs := by
  obtain ⟨X, rfl⟩ := hb.ext
  exact h.ext X

/-- the shape of a slice value, nil or not -/
theorem Sl.shape {w : World} {v : Value} {n : Nat} {cs : List Value} (h : Sl w v n cs) : ∃ ao cap, v = .slice ao n cap ∧ n ≤ cap ∧ cap ≤ maxLen ∧ (ao = none → cap = 0 ∧ n = 0) ∧
    (0 < n → ∃ b off, ao = some ⟨b, off, none⟩ ∧ ∀ j u, cs[j]? = some u → w.cell? ⟨b, off + j, none⟩ = some u) := by
  rcases h with ⟨rfl, rfl, rfl⟩ | ⟨b, off, cap, rfl, h1, h2, h3⟩
  · exact ⟨none, 0, rfl, Nat.le_refl _, Nat.zero_le _, fun _ => ⟨rfl, rfl⟩, fun h => absurd h (by omega)⟩
  · exact ⟨some ⟨b, off, none⟩, cap, rfl, h1, h2, (fun h => by cases h), fun _ => ⟨b, off, rfl, h3⟩⟩

def bytesOf (l : List UInt8) : List Value := l.map fun c => .int .u8 c.toNat
end Go
namespace Go

/-- the worlds that come of w by growth alone -/
def Sx (w0 : World) (w : World) : Prop := ∃ X, w = w0.ext X
theorem Sx.drew (w : World) : Sx w w.drew := ⟨⟨#[], w.drawn + 1⟩, by show World.drew w = World.ext w _; unfold World.drew World.ext; simp only [Array.append_empty]⟩
theorem Sx.ext {w0 w : World} (h : Sx w0 w) (X : Ext) : Sx w0 (w.ext X) := by
  obtain ⟨Y, rfl⟩ := h
  exact ⟨⟨Y.bs ++ X.bs, X.dr⟩, by unfold World.ext; simp only [Array.append_assoc]⟩
theorem Sx.alloc {w0 w : World} (h : Sx w0 w) (o : Obj) : Sx w0 (w.alloc o) := by
  obtain ⟨Y, rfl⟩ := h
  exact ⟨⟨Y.bs.push o, Y.dr⟩, by unfold World.ext World.alloc; simp only [Array.append_push]⟩
theorem Sx.merge (w : World) (Y : Ext) (bs : Array Obj) (d : Nat) : Sx (w.ext Y) (w.ext ⟨Y.bs ++ bs, d⟩) := ⟨⟨bs, d⟩, by rw [World.ext_ext]⟩
theorem Sx.more {w0 w : World} {xs bs : Array Obj} {d : Nat} (h : Sx w0 (w.ext ⟨xs, 0⟩)) : Sx w0 (w.ext ⟨xs ++ bs, d⟩) := by
  have := h.ext ⟨bs, d⟩
  rwa [World.ext_ext] at this
theorem Sx.same (w : World) (xs : Array Obj) (d0 d1 : Nat) : Sx (w.ext ⟨xs, d0⟩) (w.ext ⟨xs, d1⟩) := ⟨⟨#[], d1⟩, by rw [World.ext_ext]; simp⟩
theorem Sx.draw {w0 w : World} (h : Sx w0 w) : Sx w0 w.drew := by
  obtain ⟨Y, rfl⟩ := h
  exact ⟨⟨Y.bs, Y.dr + 1⟩, rfl⟩

section
variable {P : Program} {ops : Array Oper} {Q : Exit → Act → World → Prop} {S : World → Prop} {n : Nat}

/-- what an operation leaves: its value, and the world as it was; a call that only reads among them -/
def RetQ (P : Program) (w : World) (v : Value) : Result Next → Prop
  | .ok (.value u) w' => u = v ∧ w' = w
  | .ok (.enter f args) w' => w' = w ∧ Calls P f args w fun e w'' => e = .returned v ∧ w'' = w
  | _ => False
theorem RetQ_enter (P : Program) (w w' : World) (v : Value) (f : FuncId) (args : Array Value) : RetQ P w v (.ok (.enter f args) w') = (w' = w ∧ Calls P f args w fun e w'' => e = .returned v ∧ w'' = w) := rfl
theorem RetQ_value (P : Program) (w w' : World) (v u : Value) : RetQ P w v (.ok (.value u) w') = (u = v ∧ w' = w) := rfl
attribute [go_sem] RetQ_enter RetQ_value
/-- in every world of S the operation leaves v and the world as it was -/
def YieldsQ (P : Program) (ops : Array Oper) (S : World → Prop) (o : Oper) (v : Value) (a : Act) : Prop :=
  (Region.wanted o (yielded ops a.tmps) = true ∧ ∀ w, S w → RetQ P w v ((execOp a.eval o).run P w)) ∨
  (Region.wanted o (yielded ops a.tmps) = false ∧ v = undef)
theorem YieldsQ.wpOp {i : Nat} {o : Oper} {v : Value} {a : Act} (hi : ops[i]? = some o) (hy : YieldsQ P ops S o v a)
    {K : Act → World → Prop} {w : World} (hS : S w) (h : K (a.put o.dst v) w) : wpOp P ops Q i K a w := by
  unfold Go.wpOp
  simp only [hi]
  rcases hy with ⟨hw, hv⟩ | ⟨hw, rfl⟩
  · simp only [hw, if_true]
    refine .inl ?_
    have hv := hv w hS
    unfold Oper.wp
    generalize (execOp a.eval o).run P w = r at hv
    cases r with
    | ok n w' =>
      cases n with
      | value u => simp only [RetQ] at hv; obtain ⟨rfl, rfl⟩ := hv; exact h
      | enter f args =>
        simp only [RetQ] at hv
        obtain ⟨rfl, hv⟩ := hv
        refine Calls.mono hv fun e w'' he => ?_
        obtain ⟨rfl, rfl⟩ := he
        exact h
      | _ => exact hv.elim
    | halt x w' => exact hv.elim
  · simp only [hw, Bool.false_eq_true, if_false]; exact h
theorem YieldsQ.of_same {o : Oper} {v : Value} {a a' : Act} (hy : YieldsQ P ops S o v a) (he : execOp a'.eval o = execOp a.eval o)
    (hw : Region.wanted o (yielded ops a'.tmps) = Region.wanted o (yielded ops a.tmps)) : YieldsQ P ops S o v a' := by
  unfold YieldsQ at *
  rw [he, hw]
  exact hy
theorem wpOp_putQ {j : Nat} {oi oj : Oper} {v : Value} (hj : ops[j]? = some oj) (hap : oi.apart ops oj = true)
    (hsi : ∀ cs b, oi.op ≠ .select cs b) (hsj : ∀ cs b, oj.op ≠ .select cs b)
    (hQ : ∀ c a w, Q (.panic c) (a.put oi.dst v) w → Q (.panic c) a w) {K : Act → World → Prop} {a : Act} {w : World}
    (hy : YieldsQ P ops S oi v a) (h : wpOp P ops Q j K (a.put oi.dst v) w) :
    wpOp P ops Q j (fun a' w' => YieldsQ P ops S oi v a' ∧ K (a'.put oi.dst v) w') a w := by
  obtain ⟨h1, h2, h3⟩ := Oper.apart_spec hap
  have keep : ∀ (a : Act), YieldsQ P ops S oi v a → ∀ u, YieldsQ P ops S oi v (a.put oj.dst u) := fun a hy u =>
    hy.of_same (execOp_put oi hsi a oj.dst u h3) (wanted_put oi a oj.dst u h3)
  have keepD : ∀ d, YieldsQ P ops S oi v { a with defers := d :: a.defers } := fun d => hy.of_same rfl rfl
  unfold wpOp at *
  simp only [hj] at *
  rw [wanted_put oj a oi.dst v h1] at h
  split
  · rename_i hw
    simp only [hw, if_true] at h
    rcases h with h | ⟨hasks, hlets⟩
    case inr => exact .inr ⟨by unfold Oper.asks at *; rw [execOp_put oj hsj a oi.dst v h1] at hasks; exact hasks, hlets⟩
    refine .inl ?_
    unfold Oper.wp at *
    rw [execOp_put oj hsj a oi.dst v h1] at h
    generalize (execOp a.eval oj).run P w = r at *
    cases r with
    | ok n w' =>
      cases n <;> simp only [Oper.upon] at h ⊢
      case value u => exact ⟨keep a hy u, by rw [← Act.put_comm a v u h2]; exact h⟩
      case skip => exact ⟨keep a hy _, by rw [← Act.put_comm a v undef h2]; exact h⟩
      case defer d =>
        refine ⟨keep _ (keepD d) _, ?_⟩
        rw [← Act.put_comm _ v undef h2, ← Act.put_defers]
        exact h
      case enter f args =>
        refine Calls.mono h fun e w'' he => ?_
        cases e with
        | returned u => exact ⟨keep a hy u, by rw [← Act.put_comm a v u h2]; exact he⟩
        | panicked c => exact hQ _ _ _ he
        | outgrown => exact he
      case row row args => exact Rows.mono h fun u w'' he => ⟨keep a hy u, by rw [← Act.put_comm a v u h2]; exact he⟩
    | halt x w' =>
      cases x <;> simp only [Oper.upon] at h ⊢
      case panic u => exact hQ _ _ _ h
  · rename_i hw
    simp only [hw] at h
    exact ⟨keep a hy _, by rw [← Act.put_comm a v undef h2]; exact h⟩

/-- whatever order is picked, and S holds behind each operation below n -/
def wpAnyB (P : Program) (ops : Array Oper) (Q : Exit → Act → World → Prop) (S : World → Prop) (n : Nat) : Nat → Array Bool → Act → World → Prop
  | 0, listed, a, w => Region.ready .any ops listed = [] ∧ Q .normal a w
  | fuel + 1, listed, a, w =>
    (Region.ready .any ops listed = [] → Q .normal a w) ∧
    ∀ i ∈ Region.ready .any ops listed, wpOp P ops Q i (fun a' w' => (i < n → S w') ∧ wpAnyB P ops Q S n fuel (listed.setIfInBounds i true) a' w') a w

theorem wpAny_of_B : ∀ (fuel : Nat) (listed : Array Bool) (a : Act) (w : World), wpAnyB P ops Q S n fuel listed a w → wpAny P .any ops Q fuel listed a w
  | 0, _, _, _, h => h
  | fuel + 1, _, _, _, h => ⟨h.1, fun i hi => wpOp_mono (fun a' w' h' => wpAny_of_B fuel _ a' w' h'.2) (h.2 i hi)⟩

/-- all from n on wait for i -/
def tailWaits (ops : Array Oper) (n i : Nat) : Bool :=
  (List.range ops.size).all fun j => decide (j < n) || match ops[j]? with
    | some o => o.after.any fun e => Region.binds .any e && e.on == i
    | none => true

theorem tailWaits_spec {i j : Nat} {o : Oper} (h : tailWaits ops n i = true) (hj : ops[j]? = some o) (hn : n ≤ j) : ∃ e ∈ o.after, Region.binds .any e = true ∧ e.on = i := by
  have hlt : j < ops.size := (Array.getElem?_eq_some_iff.1 hj).1
  have h1 := List.all_eq_true.1 h j (List.mem_range.2 hlt)
  simp only [hj, Bool.or_eq_true, decide_eq_true_eq] at h1
  rcases h1 with h1 | h1
  · omega
  · obtain ⟨e, he, hb⟩ := Array.any_eq_true'.1 h1
    simp only [Bool.and_eq_true, beq_iff_eq] at hb
    exact ⟨e, he, hb.1, hb.2⟩

theorem unlisted_not {listed : Array Bool} {i : Nat} (h0 : listed.getD i true = false) (h1 : listed.getD i false = true) : False := by
  rcases Nat.lt_or_ge i listed.size with h' | h'
  · simp [h'] at h0 h1; rw [h0] at h1; cases h1
  · simp [Array.getElem?_eq_none h'] at h1

theorem wpAnyB_first {i : Nat} {oi : Oper} {v : Value} (hi : ops[i]? = some oi) (hs : Region.noSelect ops = true)
    (hQ : ∀ c a w, Q (.panic c) (a.put oi.dst v) w → Q (.panic c) a w) (ht : tailWaits ops n i = true) :
    ∀ (fuel : Nat) (listed : Array Bool) (a : Act) (w : World),
      (∀ j oj, ops[j]? = some oj → j ≠ i → listed.getD j true = false → (∀ e ∈ oj.after, Region.binds .any e = true → e.on ≠ i) → oi.apart ops oj = true) →
      i ∈ Region.ready .any ops listed → YieldsQ P ops S oi v a → S w →
      wpAnyB P ops Q S n fuel (listed.setIfInBounds i true) (a.put oi.dst v) w → wpAnyB P ops Q S n (fuel + 1) listed a w := by
  have hsel := Region.noSelect_spec hs
  intro fuel
  induction fuel with
  | zero =>
    intro listed a w _ hr hy hS H
    refine ⟨fun h => (by rw [h] at hr; cases hr), fun j hj => ?_⟩
    by_cases hji : j = i
    · subst hji; exact hy.wpOp hi hS ⟨fun _ => hS, H⟩
    · have := ready_mono hj hji
      rw [H.1] at this
      cases this
  | succ fuel ih =>
    intro listed a w hfree hr hy hS H
    refine ⟨fun h => (by rw [h] at hr; cases hr), fun j hj => ?_⟩
    by_cases hji : j = i
    · subst hji; exact hy.wpOp hi hS ⟨fun _ => hS, H⟩
    · have h1 := H.2 j (ready_mono hj hji)
      obtain ⟨hjun, oj, hoj, hall⟩ := mem_ready.1 hj
      have hnot : ∀ e ∈ oj.after, Region.binds .any e = true → e.on ≠ i := fun e he hb heq =>
        unlisted_not (mem_ready.1 hr).1 (heq ▸ hall e he hb)
      have hjn : j < n := by
        rcases Nat.lt_or_ge j n with h | h
        · exact h
        · obtain ⟨e, he, hb, hon⟩ := tailWaits_spec ht hoj h
          exact absurd hon (hnot e he hb)
      have h2 := wpOp_putQ hoj (hfree j oj hoj hji hjun hnot) (fun cs b => hsel i oi cs b hi) (fun cs b => hsel j oj cs b hoj) hQ hy h1
      have hfree' : ∀ k ok, ops[k]? = some ok → k ≠ i → (listed.setIfInBounds j true).getD k true = false →
          (∀ e ∈ ok.after, Region.binds .any e = true → e.on ≠ i) → oi.apart ops ok = true := fun k ok hk hki hun hno => by
        refine hfree k ok hk hki ?_ hno
        by_cases hjk : j = k
        · subst hjk; exact hjun
        · rw [getD_set_ne true hjk] at hun; exact hun
      refine wpOp_mono (fun a' w' h3 => ⟨fun _ => h3.2.1 hjn, ih (listed.setIfInBounds j true) a' w' hfree' (ready_mono hr (Ne.symm hji)) h3.1 (h3.2.1 hjn) ?_⟩) h2
      rw [Array.setIfInBounds_comm _ _ hji]
      exact h3.2.2

/-- the worlds of a class, each named -/
def Sf {ι : Type} (F : ι → World) (w : World) : Prop := ∃ x, w = F x
/-- one value in every world of the class, the world as it was -/
def Oper.quietV {ι : Type} (P : Program) (o : Oper) (a : Act) (F : ι → World) (next : Act → Prop) : Prop :=
  ∃ v, (∀ x, (execOp a.eval o).run P (F x) = .ok (.value v) (F x)) ∧ next (a.put o.dst v)
attribute [go_sem] Oper.quietV
/-- the same, a call that only reads among them -/
def Oper.quietX {ι : Type} (P : Program) (o : Oper) (a : Act) (F : ι → World) (next : Act → Prop) : Prop :=
  ∃ v, (∀ x, RetQ P (F x) v ((execOp a.eval o).run P (F x))) ∧ next (a.put o.dst v)
attribute [go_sem] Oper.quietX

/-- the one walk: (i, true): taken first; (i, false): comes up alone -/
def wpOrd {ι : Type} (P : Program) (ops : Array Oper) (Q : Exit → Act → World → Prop) (F : ι → World) (n : Nat) : List (Nat × Bool) → Act → World → Prop
  | [], a, w => Q .normal a w
  | (i, true) :: r, a, w => match ops[i]? with
    | none => False
    | some o => if Region.wanted o (yielded ops a.tmps) then o.quietX P a F (fun a' => wpOrd P ops Q F n r a' w) else wpOrd P ops Q F n r (a.put o.dst undef) w
  | (i, false) :: r, a, w => match ops[i]? with
    | none => False
    | some o => if Region.wanted o (yielded ops a.tmps) then o.wp P a w (fun a' w' => (i < n → Sf F w') ∧ wpOrd P ops Q F n r a' w') Q else wpOrd P ops Q F n r (a.put o.dst undef) w

def ordOk (ops : Array Oper) (n : Nat) : List (Nat × Bool) → Array Bool → Bool
  | [], listed => (Region.ready .any ops listed).isEmpty
  | (i, true) :: r, listed => decide (i < n) && (Region.ready .any ops listed).contains i && Region.free .any ops listed i && tailWaits ops n i && ordOk ops n r (listed.setIfInBounds i true)
  | (i, false) :: r, listed => (decide (i < n) || r.all fun x => decide (n ≤ x.1)) && (match Region.ready .any ops listed with | [j] => j == i | _ => false) && ordOk ops n r (listed.setIfInBounds i true)

theorem wpAnyB_of_ord {ι : Type} {F : ι → World} (hs : Region.noSelect ops = true) (hQ : ∀ c (a : Act) (d : Option Tmp) (v : Value) w, Q (.panic c) (a.put d v) w → Q (.panic c) a w) :
    ∀ (ord : List (Nat × Bool)) (listed : Array Bool) (a : Act) (w : World), ordOk ops n ord listed = true → ((∃ x ∈ ord, x.1 < n) → Sf F w) → wpOrd P ops Q F n ord a w →
      wpAnyB P ops Q (Sf F) n ord.length listed a w
  | [], listed, a, w, hok, _, h => by
    simp only [ordOk, List.isEmpty_iff] at hok
    exact ⟨hok, h⟩
  | (i, true) :: r, listed, a, w, hok, hS, h => by
    simp only [ordOk, Bool.and_eq_true, decide_eq_true_eq] at hok
    obtain ⟨⟨⟨⟨hin, hr⟩, hf⟩, ht⟩, hok⟩ := hok
    have hw := hS ⟨(i, true), by simp, hin⟩
    simp only [wpOrd] at h
    cases ho : ops[i]? with
    | none => simp [ho] at h
    | some o =>
      simp only [ho] at h
      have again := fun a' h' => wpAnyB_of_ord hs hQ r (listed.setIfInBounds i true) a' w hok (fun _ => hw) h'
      by_cases hwt : Region.wanted o (yielded ops a.tmps) = true
      · simp only [hwt, if_true] at h
        obtain ⟨v, hv, hk⟩ := h
        exact wpAnyB_first ho hs (fun c a w => hQ c a _ _ w) ht _ listed a w (Region.free_spec ho hf) (by simpa using hr)
          (Or.inl ⟨hwt, fun w' hw' => by obtain ⟨X, rfl⟩ := hw'; exact hv X⟩) hw (again _ hk)
      · have hwt' : Region.wanted o (yielded ops a.tmps) = false := by simpa using hwt
        simp only [hwt', Bool.false_eq_true, if_false] at h
        exact wpAnyB_first ho hs (fun c a w => hQ c a _ _ w) ht _ listed a w (Region.free_spec ho hf) (by simpa using hr)
          (Or.inr ⟨hwt', rfl⟩) hw (again _ h)
  | (i, false) :: r, listed, a, w, hok, hS, h => by
    simp only [ordOk, Bool.and_eq_true, Bool.or_eq_true, decide_eq_true_eq] at hok
    obtain ⟨⟨hin, hr⟩, hok⟩ := hok
    have hr' : Region.ready .any ops listed = [i] := by
      split at hr
      · rename_i j hj; rw [hj]; simp at hr; rw [hr]
      · cases hr
    refine ⟨fun h0 => (by rw [h0] at hr'; cases hr'), fun j hj => ?_⟩
    rw [hr', List.mem_singleton] at hj
    subst hj
    simp only [wpOrd] at h
    cases ho : ops[j]? with
    | none => simp [ho] at h
    | some o =>
      simp only [ho] at h
      unfold wpOp
      simp only [ho]
      have again := fun (a' : Act) (w' : World) (hw' : (∃ x ∈ r, x.1 < n) → Sf F w') h' => wpAnyB_of_ord (F := F) hs hQ r (listed.setIfInBounds j true) a' w' hok hw' h'
      have later : (∃ x ∈ r, x.1 < n) → j < n := fun ⟨x, hx, hxn⟩ => by
        rcases hin with h1 | h1
        · exact h1
        · have := List.all_eq_true.1 h1 x hx
          simp only [decide_eq_true_eq] at this
          omega
      by_cases hwt : Region.wanted o (yielded ops a.tmps) = true
      · simp only [hwt, if_true] at h ⊢
        exact Or.inl (Oper.wp_mono (fun a' w' h' => ⟨h'.1, again a' w' (fun hx => h'.1 (later hx)) h'.2⟩) h)
      · have hwt' : Region.wanted o (yielded ops a.tmps) = false := by simpa using hwt
        simp only [hwt', Bool.false_eq_true, if_false] at h ⊢
        exact ⟨fun hj => hS ⟨(j, false), by simp, hj⟩, again _ _ (fun hx => hS ⟨(j, false), by simp, later hx⟩) h⟩

/-- no way out by panic -/
def NoPan (Q : Exit → Act → World → Prop) : Exit → Act → World → Prop
  | .panic _, _, _ => False
  | e, a, w => Q e a w

theorem wp_region_ordF {ι : Type} (F : ι → World) {id : Nat} {l : List Oper} {a : Act} {w : World} (ord : List (Nat × Bool)) (n : Nat) (hm : P.follows .mixedOrders = true)
    (hok : (ordOk l.toArray n ord (Array.replicate l.toArray.size false) && Region.noSelect l.toArray && ord.length == l.toArray.size) = true)
    (h0 : Sf F w.drew) (h : wpOrd P l.toArray (NoPan Q) F n ord a w.drew) : (Code.region id l.toArray true).wp P Q a w := by
  simp only [Bool.and_eq_true, beq_iff_eq] at hok
  have h1 : (Code.region id l.toArray true).wp P (NoPan Q) a w := by
    refine wp_region_any hm ?_
    rw [← hok.2]
    exact wpAny_of_B _ _ _ _ (wpAnyB_of_ord hok.1.2 (fun _ _ _ _ _ h => h) ord _ a _ (hok.2 ▸ hok.1.1) (fun _ => h0) h)
  exact Code.wp_mono (fun e a w h => by cases e <;> first | exact h | exact h.elim) h1

theorem wp_region_ord {id : Nat} {l : List Oper} {a : Act} {w : World} (ord : List (Nat × Bool)) (n : Nat) (hm : P.follows .mixedOrders = true)
    (hok : (ordOk l.toArray n ord (Array.replicate l.toArray.size false) && Region.noSelect l.toArray && ord.length == l.toArray.size) = true)
    (h : wpOrd P l.toArray (NoPan Q) (fun X => w.ext X) n ord a w.drew) : (Code.region id l.toArray true).wp P Q a w := wp_region_ordF (fun X => w.ext X) ord n hm hok (Sx.drew w) h

section
variable {ι : Type} {F : ι → World} {r : List (Nat × Bool)} {a : Act} {w : World} {o : Oper} {i : Nat}
theorem wpOrd_at_block {ι : Type} {P : Program} {ops : Array Oper} {Q : Exit → Act → World → Prop} {F : ι → World} {n : Nat} {r : List (Nat × Bool)} {a : Act} {w : World} {p : Nat} {o : Obj} (h : w.heap[p]? = some o) (H : wpOrd P ops Q F n r a (w.setB p o)) : wpOrd P ops Q F n r a w := by
  rw [World.setB_self h] at H
  exact H
theorem wpOrd_nil (h : Q .normal a w) : wpOrd P ops (NoPan Q) F n [] a w := h
/-- an operation that only reads -/
theorem wpOrd_quiet (ho : ops[i]? = some o)
    (h : ∀ K : Act → Prop, (∀ a, wpOrd P ops Q F n r a w → K a) → if Region.wanted o (yielded ops a.tmps) then o.quietV P a F K else K (a.put o.dst undef)) :
    wpOrd P ops Q F n ((i, true) :: r) a w := by
  simp only [wpOrd, ho]
  have := h _ (fun _ h => h)
  by_cases hwt : Region.wanted o (yielded ops a.tmps) = true
  · simp only [hwt, if_true] at this ⊢
    obtain ⟨v, h1, h2⟩ := this
    exact ⟨v, fun x => by rw [h1 x]; exact ⟨rfl, rfl⟩, h2⟩
  · simp only [hwt, Bool.false_eq_true, if_false] at this ⊢
    exact this
/-- a call that only reads -/
theorem wpOrd_look (ho : ops[i]? = some o)
    (h : ∀ K : Act → Prop, (∀ a, wpOrd P ops Q F n r a w → K a) → if Region.wanted o (yielded ops a.tmps) then o.quietX P a F K else K (a.put o.dst undef)) :
    wpOrd P ops Q F n ((i, true) :: r) a w := by
  simp only [wpOrd, ho]
  exact h _ (fun _ h => h)
/-- a call, an allocation -/
theorem wpOrd_grow (ho : ops[i]? = some o)
    (h : ∀ K : Act → World → Prop, (∀ a w, Sf F w → wpOrd P ops Q F n r a w → K a w) → if Region.wanted o (yielded ops a.tmps) then o.wp P a w K Q else K (a.put o.dst undef) w) : wpOrd P ops Q F n ((i, false) :: r) a w := by
  simp only [wpOrd, ho]
  have := h (fun a w => Sf F w ∧ wpOrd P ops Q F n r a w) (fun _ _ h1 h2 => ⟨h1, h2⟩)
  by_cases hwt : Region.wanted o (yielded ops a.tmps) = true
  · simp only [hwt, if_true] at this ⊢
    exact Oper.wp_mono (fun a' w' h' => ⟨fun _ => h'.1, h'.2⟩) this
  · simp only [hwt, Bool.false_eq_true, if_false] at this ⊢
    exact this.2
/-- an operation of the tail -/
theorem wpOrd_tail (ho : ops[i]? = some o) (hi : decide (n ≤ i) = true)
    (h : ∀ K : Act → World → Prop, (∀ a w, wpOrd P ops Q F n r a w → K a w) → if Region.wanted o (yielded ops a.tmps) then o.wp P a w K Q else K (a.put o.dst undef) w) :
    wpOrd P ops Q F n ((i, false) :: r) a w := by
  simp only [wpOrd, ho]
  simp only [decide_eq_true_eq] at hi
  have := h (fun a w => wpOrd P ops Q F n r a w) (fun _ _ h1 => h1)
  by_cases hwt : Region.wanted o (yielded ops a.tmps) = true
  · simp only [hwt, if_true] at this ⊢
    exact Oper.wp_mono (fun a' w' h' => ⟨fun h0 => by omega, h'⟩) this
  · simp only [hwt, Bool.false_eq_true, if_false] at this ⊢
    exact this
end
end
/-- block p anew, and growth -/
def Got (p : Nat) (w : World) (o : Obj) (w' : World) : Prop := ∃ X, w' = (w.setB p o).ext X
theorem Got.mk (p : Nat) (w : World) (o : Obj) : Got p w o (w.setB p o) := ⟨⟨#[], w.drawn⟩, by unfold World.ext World.setB; simp⟩
theorem Got.ext {p : Nat} {w w' : World} {o : Obj} (h : Got p w o w') (X : Ext) : Got p w o (w'.ext X) := by
  obtain ⟨Y, rfl⟩ := h
  exact ⟨_, World.ext_ext _ Y X⟩
theorem Got.drew {p : Nat} {w w' : World} {o : Obj} (h : Got p w o w') : Got p w o w'.drew := by
  obtain ⟨Y, rfl⟩ := h
  exact ⟨_, World.drew_ext _ Y⟩
theorem Got.alloc {p : Nat} {w w' : World} {o : Obj} (h : Got p w o w') (x : Obj) : Got p w o (w'.alloc x) := by
  obtain ⟨Y, rfl⟩ := h
  exact ⟨⟨Y.bs.push x, Y.dr⟩, by unfold World.ext World.alloc; simp only [Array.append_push]⟩
end Go
namespace Go
open Go.RowKit

theorem World.ownsRow.ext {w : World} {base : Nat} {e : TypeId} {size : Nat} {v : Value} {n : Nat} {xs : List Value} (h : w.ownsRow base e size v n xs) (X : Ext) : (w.ext X).ownsRow base e size v n xs :=
  h.kept (row := none) ⟨rfl, rfl, rfl, w.ext_size_le X, fun k hk _ => w.ext_get X hk⟩ (by cases hv : v.ownBlock <;> simp)
theorem World.ownsRow.setB {w : World} {base : Nat} {e : TypeId} {size : Nat} {v : Value} {n : Nat} {xs : List Value} (h : w.ownsRow base e size v n xs) {p : Nat} (hp : v.ownBlock ≠ some p) (o : Obj) : (w.setB p o).ownsRow base e size v n xs :=
  h.kept (row := some p) ⟨rfl, rfl, rfl, by rw [World.setB_size]; exact Nat.le_refl _, fun k hk hne => w.setB_get p o k (fun e => hne (by rw [e]))⟩ (by cases hv : v.ownBlock <;> simp_all)
theorem World.ownsRow.base {w : World} {base base' : Nat} {e : TypeId} {size : Nat} {v : Value} {n : Nat} {xs : List Value} (h : w.ownsRow base e size v n xs) (hb : base' ≤ base) : w.ownsRow base' e size v n xs := by
  refine ⟨h.1, ?_⟩
  rcases h.2 with h2 | ⟨g, cap, cur, hv, hg, r⟩
  · exact .inl h2
  · exact .inr ⟨g, cap, cur, hv, Nat.le_trans hb hg, r⟩

theorem addr_add (b o j : Nat) : (⟨b, o, none⟩ : Addr).add j = ⟨b, o + j, none⟩ := by unfold Addr.add; split <;> simp_all

/-- what is owned reads -/
theorem World.ownsRow.sl {w : World} {base : Nat} {e : TypeId} {size : Nat} {v : Value} {n : Nat} {xs : List Value} (h : w.ownsRow base e size v n xs) : Sl w v n xs := by
  have h' := h
  obtain ⟨hl, h2⟩ := h'
  rcases h2 with ⟨rfl, rfl⟩ | ⟨g, cap, cur, rfl, hg, hh, hn, hc, hs, ht⟩
  · exact .inl ⟨rfl, rfl, List.eq_nil_of_length_eq_zero (by simpa using hl)⟩
  · refine .inr ⟨g, 0, cap, rfl, hn, hc, fun j u hj => ?_⟩
    have := h.cells (g := g) rfl j u hj
    rw [addr_add] at this
    exact this

/-- what a block that was laid just now reads as -/
theorem Sl.new (w : World) (cs : List Value) (t : TypeId) (n : Nat) (hm : n ≤ maxLen) : Sl (w.alloc (.cells cs.toArray t)) (.slice (some ⟨w.heap.size, 0, none⟩) n n) n cs :=
  Sl.of_block (t := t) (f := (0, 0)) (by show (w.heap.push _)[w.heap.size]? = _; simp) hm
theorem Sl.lit (w : World) (cs : Array Value) (t : TypeId) (n : Nat) (hm : n ≤ maxLen) : Sl (w.alloc (.cells cs t)) (.slice (some ⟨w.heap.size, 0, none⟩) n n) n cs.toList :=
  Sl.new w cs.toList t n hm

/-- a part of a slice -/
theorem Sl.cut {w : World} {b off : Nat} {cs : List Value} (k : Nat) (h : ∀ j u, cs[j]? = some u → w.cell? ⟨b, off + j, none⟩ = some u) (lo hi c : Nat) (h2 : hi - lo ≤ c) (hc : c ≤ maxLen) :
    Sl w (.slice (some ⟨b, off + lo * k, none⟩) (hi - lo) c) (hi - lo) ((cs.drop (lo * k)).take ((hi - lo) * k)) := by
  refine .inr ⟨b, off + lo * k, c, rfl, h2, hc, fun j u hj => ?_⟩
  rw [List.getElem?_take] at hj
  split at hj
  · rw [List.getElem?_drop] at hj
    rw [Nat.add_assoc]
    exact h _ _ hj
  · cases hj

/-- the element type of a slice type, as the program's table has it -/
structure Elem (P : Program) (t e : TypeId) (size bytes : Nat) : Prop where
  ht : P.underlying t = some (.slice e)
  hi : ∃ i z, P.info? e = some i ∧ i.zero = some z ∧ i.size = size ∧ i.bytes = bytes ∧ z.cells.size = size
  pos : 0 < size
theorem Elem.of {P : Program} {t e : TypeId} {size bytes : Nat} (z : Value) (ht : P.underlying t = some (.slice e)) (h : (P.info? e).map (fun i => (i.zero, i.size, i.bytes)) = some (some z, size, bytes)) (hz : z.cells.size = size) (pos : 0 < size) : Elem P t e size bytes := by
  obtain ⟨i, h1, h2, h3, h4⟩ := info_parts h
  exact ⟨ht, ⟨i, z, h1, h2, h3, h4, hz⟩, pos⟩

theorem Elem.make {P : Program} {t e : TypeId} {size bytes : Nat} (E : Elem P t e size bytes) (n : Nat) (hb : bytes * n ≤ 281474976710656) (h63 : n ≤ 9223372036854775807) :
    ∃ cs : Array Value, cs.size = n * size ∧ ∀ W : World, (Instr.makeSlice t (.int .i64 (n : Int)) (.int .i64 (n : Int))).run P W = .ok (.slice (some ⟨W.heap.size, 0, none⟩) n n) (W.alloc (.cells cs e)) := by
  obtain ⟨i, z, h1, h2, rfl, rfl, h5⟩ := E.hi
  refine ⟨madeCells z.cells (n * i.size), size_madeCells _ _, fun W => ?_⟩
  have hb' : (i.bytes : Int) * (n : Int) ≤ 281474976710656 := by
    have h : ((i.bytes * n : Nat) : Int) ≤ 281474976710656 := by omega
    rwa [Int.natCast_mul] at h
  have hr := run_make (P := P) W t e i z E.ht h1 h2 .i64 .i64 n n (by omega) (by omega) hb' (by omega)
  simp only [Int.toNat_natCast] at hr
  exact hr

/-- the walk stands here -/
def Stop (p : Prop) : Prop := p
theorem Stop.here {p : Prop} (h : Stop p) : p := h

section
variable {P : Program}
theorem run_app {w : World} {t ty e : TypeId} {size bytes : Nat} (E : Elem P t e size bytes) {base : Nat} {v : Value} {n : Nat} {xs : List Value} (hown : w.ownsRow base e size v n xs)
    {x : Value} {m : Nat} {news : List Value} (hx : Sl w x m news) (hl : news.length = m * size) (h1 : ∀ u ∈ news, u.oneCell' = true) (hb : (n + m) * bytes ≤ 140737488355328) (h63 : n + m ≤ maxLen) (hbase : base ≤ w.heap.size) :
    ∃ v' w', (Builtin.append_ #[t, t] ty #[v, x]).run P w = .ok v' w' ∧ w'.ownsRow base e size v' (n + m) (xs ++ news) ∧ w.grownBy w' v.ownBlock ∧ (v' = .slice none 0 0 ↔ v = .slice none 0 0 ∧ m = 0) := by
  obtain ⟨i, z, hi, hz, hs, hby, hzs⟩ := E.hi
  rcases hx with ⟨rfl, rfl, rfl⟩ | ⟨b, off, cap, rfl, _, _, hc⟩
  · exact ⟨v, w, run_append_owned_none w base t ty e i size E.ht hi v n xs hown, by simpa using hown, ⟨rfl, rfl, rfl, Nat.le_refl _, fun _ _ _ => rfl⟩, by simp⟩
  · exact run_append_own w base t ty e i z size bytes E.ht hi hz hs hby hzs E.pos v n xs hown ⟨b, off, none⟩ m cap news hl (fun j u hj => by rw [addr_add]; exact hc j u hj) h1 h63 hb hbase

theorem wp_app {w : World} {o : Oper} {a : Act} {K : Act → World → Prop} {Q : Exit → Act → World → Prop} (s x : Operand) (t : TypeId)
    (ho : o.op = .call { callee := .builtin .append, args := #[s, x], argTypes := #[t, t] })
    {e : TypeId} {size bytes : Nat} (E : Elem P t e size bytes) {base : Nat} {v : Value} {n : Nat} {xs : List Value} (hs : a.eval s = v) (hown : w.ownsRow base e size v n xs)
    {vx : Value} {m : Nat} {news : List Value} (hvx : a.eval x = vx) (hx : Sl w vx m news) (hl : news.length = m * size) (h1 : ∀ u ∈ news, u.oneCell' = true) (hb : (n + m) * bytes ≤ 140737488355328) (h63 : n + m ≤ maxLen) (hbase : base ≤ w.heap.size)
    (h : ∀ v' w', w'.ownsRow base e size v' (n + m) (xs ++ news) → w.grownBy w' v.ownBlock → (v' = .slice none 0 0 ↔ v = .slice none 0 0 ∧ m = 0) → K (a.put o.dst v') w') : o.wp P a w K Q := by
  obtain ⟨v', w', hr, h2, h3, h4⟩ := run_app (P := P) (ty := o.type) E hown hx hl h1 hb h63 hbase
  unfold Oper.wp execOp
  simp only [ho, resolve, invoke, builtin, Sem.run_bind, Sem.run_pure, Result.andThen_ok, List.map_toArray, List.map_cons, List.map_nil, hs, hvx, hr]
  exact h v' w' h2 h3 h4

theorem wpList_app {w : World} {ops : Array Oper} {rest : List Oper} {o : Oper} {a : Act} {Q : Exit → Act → World → Prop} (hgd : o.guard = none) (s x : Operand) (t : TypeId)
    (ho : o.op = .call { callee := .builtin .append, args := #[s, x], argTypes := #[t, t] })
    {e : TypeId} {size bytes : Nat} (E : Elem P t e size bytes) {base : Nat} {v : Value} {n : Nat} {xs : List Value} (hs : a.eval s = v) (hown : w.ownsRow base e size v n xs)
    {vx : Value} {m : Nat} {news : List Value} (hvx : a.eval x = vx) (hx : Sl w vx m news) (hl : news.length = m * size) (h1 : ∀ u ∈ news, u.oneCell' = true) (hb : (n + m) * bytes ≤ 140737488355328) (h63 : n + m ≤ maxLen) (hbase : base ≤ w.heap.size)
    (h : ∀ v' w', w'.ownsRow base e size v' (n + m) (xs ++ news) → w.grownBy w' v.ownBlock → (v' = .slice none 0 0 ↔ v = .slice none 0 0 ∧ m = 0) → wpList P ops Q rest (a.put o.dst v') w') : wpList P ops Q (o :: rest) a w :=
  wpList_plain hgd fun _ hK => wp_app s x t ho E hs hown hvx hx hl h1 hb h63 hbase (fun v' w' a1 a2 a3 => hK _ _ (h v' w' a1 a2 a3))
end

/-- behind an append to what is the call's own: below, all is as it was -/
theorem RowKit.Below.app {a w w' : World} {v : Value} {e : TypeId} {size n : Nat} {xs : List Value} (h : Below a.heap.size a w) (hg : w.grownBy w' v.ownBlock) (ho : w.ownsRow a.heap.size e size v n xs) : Below a.heap.size a w' :=
  h.grown hg h.size (fun k hk => (ho.lt k hk).1)
end Go
namespace Go
open Go.RowKit

/-- how a value of one Go type lies in cells -/
structure RowOf (α : Type) where
  row : α → List Value
  k : Nat
  len : ∀ x, (row x).length = k
  one : ∀ x, ∀ u ∈ row x, u.oneCell' = true

variable {α : Type}

theorem RowOf.flat_len (R : RowOf α) (xs : List α) : (xs.flatMap R.row).length = xs.length * R.k := by
  induction xs with
  | nil => simp
  | cons x xs ih => simp only [List.flatMap_cons, List.length_append, R.len, ih, List.length_cons, Nat.add_mul]; omega
theorem RowOf.flat_one (R : RowOf α) (xs : List α) : ∀ u ∈ xs.flatMap R.row, u.oneCell' = true := by
  intro u hu
  obtain ⟨x, _, hx⟩ := List.mem_flatMap.1 hu
  exact R.one x u hx
theorem RowOf.flat_get (R : RowOf α) : ∀ (xs : List α) (i j : Nat) (u : Value) (hi : i < xs.length), (R.row xs[i])[j]? = some u → (xs.flatMap R.row)[i * R.k + j]? = some u
  | [], i, _, _, hi, _ => absurd hi (by simp)
  | x :: xs, 0, j, u, _, h => by
    have hj : j < (R.row x).length := (List.getElem?_eq_some_iff.1 h).1
    rw [List.flatMap_cons, List.getElem?_append_left (by omega)]
    simpa using h
  | x :: xs, i + 1, j, u, hi, h => by
    rw [List.flatMap_cons, List.getElem?_append_right (by rw [R.len, Nat.add_mul]; omega), R.len]
    rw [show (i + 1) * R.k + j - R.k = i * R.k + j by rw [Nat.add_mul]; omega]
    exact R.flat_get xs i j u (by simpa using hi) (by simpa using h)
theorem RowOf.flat_drop (R : RowOf α) (xs : List α) (i : Nat) : (xs.flatMap R.row).drop (i * R.k) = (xs.drop i).flatMap R.row := by
  induction xs generalizing i with
  | nil => simp
  | cons x xs ih =>
    cases i with
    | zero => simp
    | succ i =>
      rw [List.flatMap_cons, List.drop_succ_cons, ← ih i, Nat.add_mul, Nat.one_mul, Nat.add_comm, ← List.drop_drop]
      congr 1
      rw [← R.len x]
      exact List.drop_left
theorem RowOf.flat_take (R : RowOf α) (xs : List α) (i : Nat) : (xs.flatMap R.row).take (i * R.k) = (xs.take i).flatMap R.row := by
  induction xs generalizing i with
  | nil => simp
  | cons x xs ih =>
    cases i with
    | zero => simp
    | succ i =>
      rw [List.flatMap_cons, List.take_succ_cons, List.flatMap_cons, ← ih i, Nat.add_mul, Nat.one_mul, List.take_append, R.len]
      rw [List.take_of_length_le (by rw [R.len]; omega), show i * R.k + R.k - R.k = i * R.k by omega]

/-- slice value v reads as xs -/
def RdL (R : RowOf α) (w : World) (v : Value) (xs : List α) : Prop := Sl w v xs.length (xs.flatMap R.row)
/-- slice value v, in a block from B on, is the call's own and holds xs -/
def OwnL (R : RowOf α) (e : TypeId) (w : World) (B : Nat) (v : Value) (xs : List α) : Prop := w.ownsRow B e R.k v xs.length (xs.flatMap R.row)

section
variable {R : RowOf α} {w : World} {v : Value} {xs : List α} {e : TypeId} {B : Nat}
theorem RdL.ext (h : RdL R w v xs) (X : Ext) : RdL R (w.ext X) v xs := Sl.ext h X
theorem RdL.alloc (h : RdL R w v xs) (o : Obj) : RdL R (w.alloc o) v xs := Sl.alloc h o
theorem RdL.drew (h : RdL R w v xs) : RdL R w.drew v xs := h
theorem RdL.below {w' : World} (h : RdL R w v xs) (hb : Below w.heap.size w w') : RdL R w' v xs := Sl.below h hb
theorem RdL.setB (h : RdL R w v xs) {p : Nat} (hp : v.ownBlock ≠ some p) (o : Obj) : RdL R (w.setB p o) v xs := Sl.setB h hp o
theorem RdL.nil (R : RowOf α) (w : World) : RdL R w (.slice none 0 0) [] := .inl ⟨rfl, rfl, rfl⟩
theorem OwnL.rd (h : OwnL R e w B v xs) : RdL R w v xs := World.ownsRow.sl h
theorem OwnL.ext (h : OwnL R e w B v xs) (X : Ext) : OwnL R e (w.ext X) B v xs := World.ownsRow.ext h X
theorem OwnL.alloc (h : OwnL R e w B v xs) (o : Obj) : OwnL R e (w.alloc o) B v xs := World.ownsRow.alloc h o
theorem OwnL.drew (h : OwnL R e w B v xs) : OwnL R e w.drew B v xs := h
theorem OwnL.setB (h : OwnL R e w B v xs) {p : Nat} (hp : v.ownBlock ≠ some p) (o : Obj) : OwnL R e (w.setB p o) B v xs := World.ownsRow.setB h hp o
theorem OwnL.nil (R : RowOf α) (e : TypeId) (w : World) (B : Nat) : OwnL R e w B (.slice none 0 0) [] := by
  have := World.ownsRow_nil w B e R.k
  unfold OwnL
  simpa using this
theorem OwnL.empty (R : RowOf α) (e : TypeId) (w : World) : OwnL R e (w.alloc (.cells #[] e)) w.heap.size (.slice (some ⟨w.heap.size, 0, none⟩) 0 0) [] :=
  World.ownsRow_lit w #[] 0 (Nat.le_refl _) (by decide) (by simp)
theorem OwnL.lt (h : OwnL R e w B v xs) : ∀ k, v.ownBlock = some k → B ≤ k ∧ k < w.heap.size := World.ownsRow.lt h
theorem OwnL.base {B' : Nat} (h : OwnL R e w B v xs) (hb : B' ≤ B) : OwnL R e w B' v xs := World.ownsRow.base h hb
/-- kept, where only blocks other than its own are written -/
theorem OwnL.kept {w' : World} {row : Option Nat} (h : OwnL R e w B v xs) (hg : w.grownBy w' row) (hne : v.ownBlock = none ∨ v.ownBlock ≠ row) : OwnL R e w' B v xs := World.ownsRow.kept h hg hne
theorem RdL.kept {w' : World} {row : Option Nat} (h : RdL R w v xs) (hg : w.grownBy w' row) (hne : v.ownBlock = none ∨ v.ownBlock ≠ row) : RdL R w' v xs := by
  rcases h with h | ⟨b, off, cap, rfl, h1, h2, h3⟩
  · exact .inl h
  · refine .inr ⟨b, off, cap, rfl, h1, h2, fun j u hj => ?_⟩
    have hc := h3 j u hj
    rw [World.cell?_of_block (w := w) (hg.block b (World.block_lt_of_cell? w ⟨b, off + j, none⟩ hc) (by simpa [Value.ownBlock] using hne))]
    exact hc

/-- the one element of 'append(s, x)' -/
theorem RdL.one (R : RowOf α) (w : World) (x : α) (cs : Array Value) (hcs : cs = (R.row x).toArray) (e : TypeId) : RdL R (w.alloc (.cells cs e)) (.slice (some ⟨w.heap.size, 0, none⟩) 1 1) [x] := by
  subst hcs
  unfold RdL
  have := Sl.new w (R.row x) e 1 (by decide)
  simpa using this
/-- a literal -/
theorem RdL.lit (R : RowOf α) (w : World) (xs : List α) (n : Nat) (hn : n = xs.length) (hm : n ≤ maxLen) (cs : Array Value) (hcs : cs = (xs.flatMap R.row).toArray) (e : TypeId) : RdL R (w.alloc (.cells cs e)) (.slice (some ⟨w.heap.size, 0, none⟩) n n) xs := by
  subst hcs hn
  exact Sl.new w _ e _ hm
theorem OwnL.lit (R : RowOf α) (w : World) (xs : List α) (n : Nat) (hn : n = xs.length) (hm : n ≤ maxLen) (cs : Array Value) (hcs : cs = (xs.flatMap R.row).toArray) (e : TypeId) : OwnL R e (w.alloc (.cells cs e)) w.heap.size (.slice (some ⟨w.heap.size, 0, none⟩) n n) xs := by
  subst hcs hn
  have := World.ownsRow_lit (e := e) (size := R.k) w (xs.flatMap R.row).toArray xs.length (base := w.heap.size) (Nat.le_refl _) hm (by simp [R.flat_len])
  simpa [OwnL] using this

/-- the shape of a slice value, nil or not -/
theorem RdL.shape (h : RdL R w v xs) : ∃ ao cap, v = .slice ao xs.length cap ∧ xs.length ≤ cap ∧ cap ≤ maxLen ∧ (ao = none → cap = 0 ∧ xs = []) ∧
    (xs ≠ [] → ∃ b off, ao = some ⟨b, off, none⟩ ∧ (0 < R.k → b < w.heap.size) ∧ ∀ (i : Nat) (hi : i < xs.length) (j : Nat) (u : Value), (R.row xs[i])[j]? = some u → w.cell? ⟨b, off + i * R.k + j, none⟩ = some u) := by
  obtain ⟨ao, cap, rfl, h1, h2, h3, h4⟩ := Sl.shape h
  refine ⟨ao, cap, rfl, h1, h2, fun h => ⟨(h3 h).1, List.eq_nil_of_length_eq_zero (h3 h).2⟩, fun hne => ?_⟩
  obtain ⟨b, off, rfl, hc⟩ := h4 (by cases xs; exact absurd rfl hne; simp)
  refine ⟨b, off, rfl, fun hk => ?_, fun i hi j u hj => ?_⟩
  · have h0 : 0 < (xs.flatMap R.row).length := by
      rw [R.flat_len]
      exact Nat.mul_pos (by cases xs; exact absurd rfl hne; simp) hk
    exact World.block_lt_of_cell? w ⟨b, off + 0, none⟩ (hc 0 _ (List.getElem?_eq_getElem h0))
  · rw [Nat.add_assoc]
    exact hc _ _ (R.flat_get xs i j u hi hj)

/-- a part of a slice: v[lo:hi] -/
theorem RdL.cut {b off n cap : Nat} (h : RdL R w (.slice (some ⟨b, off, none⟩) n cap) xs) (lo hi c : Nat) (h1 : hi ≤ xs.length) (h2 : hi - lo ≤ c) (hc : c ≤ maxLen) :
    RdL R w (.slice (some ⟨b, off + lo * R.k, none⟩) (hi - lo) c) ((xs.drop lo).take (hi - lo)) := by
  have hcell : ∀ j u, (xs.flatMap R.row)[j]? = some u → w.cell? ⟨b, off + j, none⟩ = some u := by
    rcases h with ⟨h, _⟩ | ⟨b', off', cap', h, _, _, h3⟩
    · cases h
    · cases h; exact h3
  have hl : ((xs.drop lo).take (hi - lo)).length = hi - lo := by simp; omega
  have h3 := Sl.cut R.k hcell lo hi c h2 hc
  unfold RdL
  rw [hl, ← R.flat_take, ← R.flat_drop]
  exact h3
end

section
variable {P : Program}
theorem wp_appL {R : RowOf α} {w : World} {o : Oper} {a : Act} {K : Act → World → Prop} {Q : Exit → Act → World → Prop} (s x : Operand) (t : TypeId)
    (ho : o.op = .call { callee := .builtin .append, args := #[s, x], argTypes := #[t, t] })
    {e : TypeId} {bytes : Nat} (E : Elem P t e R.k bytes) {B : Nat} {v : Value} {xs : List α} (hown : OwnL R e w B v xs) (hs : a.eval s = v)
    {vx : Value} {ys : List α} (hx : RdL R w vx ys) (hvx : a.eval x = vx) (hb : (xs.length + ys.length) * bytes ≤ 140737488355328) (h63 : xs.length + ys.length ≤ maxLen) (hbase : B ≤ w.heap.size)
    (h : ∀ v' w', OwnL R e w' B v' (xs ++ ys) → w.grownBy w' v.ownBlock → (v' = .slice none 0 0 ↔ v = .slice none 0 0 ∧ ys = []) → K (a.put o.dst v') w') : o.wp P a w K Q := by
  refine wp_app s x t ho E hs hown hvx hx (R.flat_len ys) (R.flat_one ys) hb h63 hbase fun v' w' h1 h2 h3 => h v' w' ?_ h2 ?_
  · unfold OwnL
    rw [List.length_append, List.flatMap_append]
    exact h1
  · rw [h3]
    simp

theorem wpList_appL {R : RowOf α} {w : World} {ops : Array Oper} {rest : List Oper} {o : Oper} {a : Act} {Q : Exit → Act → World → Prop} (hgd : o.guard = none) (s x : Operand) (t : TypeId)
    (ho : o.op = .call { callee := .builtin .append, args := #[s, x], argTypes := #[t, t] })
    {e : TypeId} {bytes : Nat} (E : Elem P t e R.k bytes) {B : Nat} {v : Value} {xs : List α} (hown : OwnL R e w B v xs) (hs : a.eval s = v)
    {vx : Value} {ys : List α} (hx : RdL R w vx ys) (hvx : a.eval x = vx) (hb : (xs.length + ys.length) * bytes ≤ 140737488355328) (h63 : xs.length + ys.length ≤ maxLen) (hbase : B ≤ w.heap.size)
    (h : ∀ v' w', OwnL R e w' B v' (xs ++ ys) → w.grownBy w' v.ownBlock → (v' = .slice none 0 0 ↔ v = .slice none 0 0 ∧ ys = []) → wpList P ops Q rest (a.put o.dst v') w') : wpList P ops Q (o :: rest) a w :=
  wpList_plain hgd fun _ hK => wp_appL s x t ho E hown hs hx hvx hb h63 hbase (fun v' w' a1 a2 a3 => hK _ _ (h v' w' a1 a2 a3))
end
theorem RowKit.Below.appL {R : RowOf α} {a w w' : World} {v : Value} {e : TypeId} {xs : List α} (h : Below a.heap.size a w) (hg : w.grownBy w' v.ownBlock) (ho : OwnL R e w a.heap.size v xs) : Below a.heap.size a w' :=
  Below.app h hg ho

/-! ### the Go types -/
def rStr : RowOf ByteArray := ⟨fun s => [.string s], 1, fun _ => rfl, by simp [Value.oneCell']⟩
def rInt : RowOf Int := ⟨fun n => [.int .i64 n], 1, fun _ => rfl, by simp [Value.oneCell']⟩
def rByte : RowOf UInt8 := ⟨fun c => [.int .u8 c.toNat], 1, fun _ => rfl, by simp [Value.oneCell']⟩

theorem RdL.shapeS {w : World} {v : Value} {xs : List ByteArray} (h : RdL rStr w v xs) : ∃ ao cap, v = .slice ao xs.length cap ∧ xs.length ≤ cap ∧ cap ≤ maxLen ∧ (ao = none → cap = 0 ∧ xs = []) ∧
    (xs ≠ [] → ∃ b off, ao = some ⟨b, off, none⟩ ∧ b < w.heap.size ∧ ∀ (i : Nat) (hi : i < xs.length), w.cell? ⟨b, off + i, none⟩ = some (.string xs[i])) := by
  obtain ⟨ao, cap, h0, h1, h2, h3, h4⟩ := h.shape
  refine ⟨ao, cap, h0, h1, h2, h3, fun hne => ?_⟩
  obtain ⟨b, off, e, hb, hc⟩ := h4 hne
  exact ⟨b, off, e, hb (by decide), fun i hi => by simpa [rStr] using hc i hi 0 _ rfl⟩
theorem RdL.shapeI {w : World} {v : Value} {xs : List Int} (h : RdL rInt w v xs) : ∃ ao cap, v = .slice ao xs.length cap ∧ xs.length ≤ cap ∧ cap ≤ maxLen ∧ (ao = none → cap = 0 ∧ xs = []) ∧
    (xs ≠ [] → ∃ b off, ao = some ⟨b, off, none⟩ ∧ b < w.heap.size ∧ ∀ (i : Nat) (hi : i < xs.length), w.cell? ⟨b, off + i, none⟩ = some (.int .i64 xs[i])) := by
  obtain ⟨ao, cap, h0, h1, h2, h3, h4⟩ := h.shape
  refine ⟨ao, cap, h0, h1, h2, h3, fun hne => ?_⟩
  obtain ⟨b, off, e, hb, hc⟩ := h4 hne
  exact ⟨b, off, e, hb (by decide), fun i hi => by simpa [rInt] using hc i hi 0 _ rfl⟩
theorem RdL.shapeB {w : World} {v : Value} {xs : List UInt8} (h : RdL rByte w v xs) : ∃ ao cap, v = .slice ao xs.length cap ∧ xs.length ≤ cap ∧ cap ≤ maxLen ∧ (ao = none → cap = 0 ∧ xs = []) ∧
    (xs ≠ [] → ∃ b off, ao = some ⟨b, off, none⟩ ∧ b < w.heap.size ∧ ∀ (i : Nat) (hi : i < xs.length), w.cell? ⟨b, off + i, none⟩ = some (.int .u8 xs[i].toNat)) := by
  obtain ⟨ao, cap, h0, h1, h2, h3, h4⟩ := h.shape
  refine ⟨ao, cap, h0, h1, h2, h3, fun hne => ?_⟩
  obtain ⟨b, off, e, hb, hc⟩ := h4 hne
  exact ⟨b, off, e, hb (by decide), fun i hi => by simpa [rByte] using hc i hi 0 _ rfl⟩
theorem RdL.cut1 {α : Type} {R : RowOf α} {w : World} {xs : List α} (hk : R.k = 1) {b off n cap : Nat} (h : RdL R w (.slice (some ⟨b, off, none⟩) n cap) xs) (lo hi c : Nat) (h1 : hi ≤ xs.length) (h2 : hi - lo ≤ c) (hc : c ≤ maxLen) :
    RdL R w (.slice (some ⟨b, off + lo, none⟩) (hi - lo) c) ((xs.drop lo).take (hi - lo)) := by
  have := RdL.cut h lo hi c h1 h2 hc
  simpa [hk] using this
/-- v[:hi] -/
theorem RdL.upto {α : Type} {R : RowOf α} {w : World} {xs : List α} {b off n cap : Nat} (h : RdL R w (.slice (some ⟨b, off, none⟩) n cap) xs) (hi c : Nat) (h1 : hi ≤ xs.length) (h2 : hi ≤ c) (hc : c ≤ maxLen) :
    RdL R w (.slice (some ⟨b, off, none⟩) hi c) (xs.take hi) := by
  have := RdL.cut h 0 hi c h1 (by omega) hc
  simpa using this
/-- nil, or somewhere -/
theorem RdL.cases {α : Type} {R : RowOf α} {w : World} {ao : Option Addr} {n cap : Nat} {xs : List α} (h : RdL R w (.slice ao n cap) xs) :
    (ao = none ∧ cap = 0 ∧ n = 0 ∧ xs = []) ∨ ∃ b off, ao = some ⟨b, off, none⟩ ∧ n = xs.length ∧ n ≤ cap ∧ cap ≤ maxLen := by
  rcases h with ⟨e, h0, _⟩ | ⟨b, off, c, e, h1, h2, _⟩
  · simp only [Value.slice.injEq] at e
    exact .inl ⟨e.1, e.2.2, e.2.1, List.eq_nil_of_length_eq_zero h0⟩
  · simp only [Value.slice.injEq] at e
    exact .inr ⟨b, off, e.1, e.2.1, by omega, by omega⟩
theorem RdL.zero {α : Type} (R : RowOf α) (w : World) (b off c : Nat) (h : c ≤ maxLen) : RdL R w (.slice (some ⟨b, off, none⟩) 0 c) [] := .inr ⟨b, off, c, rfl, Nat.zero_le _, h, fun j u hj => by simp at hj⟩
/-- the two worlds differ in block p alone -/
structure SameBut (p : Nat) (a b : World) : Prop where
  size : a.heap.size = b.heap.size
  block : ∀ k, k ≠ p → a.heap[k]? = b.heap[k]?
theorem SameBut.setB (p : Nat) (w : World) (o o' : Obj) : SameBut p (w.setB p o) (w.setB p o') :=
  ⟨by rw [World.setB_size, World.setB_size], fun k hk => by rw [World.setB_get w p o k hk, World.setB_get w p o' k hk]⟩
theorem SameBut.setBl (p : Nat) (w : World) (o : Obj) : SameBut p w (w.setB p o) :=
  ⟨by rw [World.setB_size], fun k hk => by rw [World.setB_get w p o k hk]⟩
theorem SameBut.ext {p : Nat} {a b : World} (h : SameBut p a b) (X : Ext) : SameBut p (a.ext X) (b.ext X) := by
  refine ⟨by rw [World.ext_size, World.ext_size, h.size], fun k hk => ?_⟩
  show (a.heap ++ X.bs)[k]? = (b.heap ++ X.bs)[k]?
  rw [Array.getElem?_append, Array.getElem?_append, h.size, h.block k hk]
theorem SameBut.alloc {p : Nat} {a b : World} (h : SameBut p a b) (o : Obj) : SameBut p (a.alloc o) (b.alloc o) := by
  refine ⟨by rw [World.size_alloc, World.size_alloc, h.size], fun k hk => ?_⟩
  show (a.heap.push o)[k]? = (b.heap.push o)[k]?
  rw [Array.getElem?_push, Array.getElem?_push, h.size, h.block k hk]
theorem RdL.same {α : Type} {R : RowOf α} {a b : World} {v : Value} {xs : List α} {p : Nat} (h : RdL R a v xs) (s : SameBut p a b) (hp : v.ownBlock ≠ some p) : RdL R b v xs := by
  rcases h with h | ⟨g, off, cap, rfl, h1, h2, h3⟩
  · exact .inl h
  · refine .inr ⟨g, off, cap, rfl, h1, h2, fun j u hj => ?_⟩
    rw [← h3 j u hj]
    exact World.cell?_of_block (w := a) (s.block g (fun e => hp (by simp [Value.ownBlock, e]))).symm
theorem RdL.got {α : Type} {R : RowOf α} {w w' : World} {v : Value} {xs : List α} {p : Nat} {o : Obj} (h : RdL R w v xs) (g : Got p w o w') (hp : v.ownBlock ≠ some p) : RdL R w' v xs := by
  obtain ⟨X, rfl⟩ := g
  exact (h.setB hp o).ext X
theorem Got.then {p : Nat} {w w1 w2 : World} {o o1 : Obj} (h1 : Got p w o1 w1) (h2 : Got p w1 o w2) (hp : p < w.heap.size) : Got p w o w2 := by
  obtain ⟨X, rfl⟩ := h1
  obtain ⟨Y, rfl⟩ := h2
  refine ⟨⟨X.bs ++ Y.bs, Y.dr⟩, ?_⟩
  rw [World.setB_ext _ _ _ _ (by rw [World.setB_size]; exact hp), World.setB_setB, World.ext_ext]
theorem Got.ofAlloc {p : Nat} {w w2 : World} {o b : Obj} (h : Got p (w.alloc b) o w2) (hp : p < w.heap.size) : Got p w o w2 := by
  obtain ⟨Y, rfl⟩ := h
  rw [World.setB_alloc_past _ _ _ _ hp]
  exact ((Got.mk p w o).alloc b).ext Y
theorem Got.ofBelow {p : Nat} {w w1 w2 : World} {o : Obj} (h1 : Got p w o w1) (h2 : Below w1.heap.size w1 w2) : Got p w o w2 := by
  obtain ⟨X, rfl⟩ := h2.ext
  exact h1.ext X
theorem Got.size {p : Nat} {w w1 : World} {o : Obj} (h : Got p w o w1) : w.heap.size ≤ w1.heap.size := by
  obtain ⟨X, rfl⟩ := h
  rw [World.ext_size, World.setB_size]
  omega
theorem Got.other {p : Nat} {w w1 : World} {o : Obj} (h : Got p w o w1) {b : Nat} (hb : b < w.heap.size) (hne : b ≠ p) : w1.heap[b]? = w.heap[b]? := by
  obtain ⟨X, rfl⟩ := h
  rw [World.ext_get _ _ (by rw [World.setB_size]; exact hb), World.setB_get _ _ _ _ hne]
theorem World.ext_setB_past (w : World) (X : Ext) (b : Nat) (o : Obj) (h : w.heap.size ≤ b) : (w.ext X).setB b o = w.ext ⟨X.bs.setIfInBounds (b - w.heap.size) o, X.dr⟩ := by
  unfold World.ext World.setB
  simp only [World.mk.injEq, true_and, and_true]
  apply Array.ext_getElem?
  intro i
  simp only [Array.getElem?_setIfInBounds, Array.getElem?_append, Array.size_append]
  by_cases e : b = i
  · subst e
    have h1 : ¬ b < w.heap.size := by omega
    by_cases hl : b < w.heap.size + X.bs.size
    · have h2 : b - w.heap.size < X.bs.size := by omega
      simp [h1, hl, h2]
    · have h2 : ¬ b - w.heap.size < X.bs.size := by omega
      simp [h1, hl, h2]
  · rw [if_neg e]
    by_cases hi : i < w.heap.size
    · rw [if_pos hi, if_pos hi]
    · rw [if_neg hi, if_neg hi, if_neg (by omega)]
theorem Got.past {p : Nat} {w w1 : World} {o : Obj} (h : Got p w o w1) {b : Nat} (hb : w.heap.size ≤ b) (o' : Obj) : Got p w o (w1.setB b o') := by
  obtain ⟨X, rfl⟩ := h
  exact ⟨_, World.ext_setB_past _ X b o' (by rw [World.setB_size]; exact hb)⟩
theorem RdL.past {α : Type} {R : RowOf α} {w : World} {v : Value} {xs : List α} {b : Nat} (h : RdL R w v xs) (hb : ∀ k, v.ownBlock = some k → k < b) (o : Obj) : RdL R (w.setB b o) v xs :=
  h.setB (fun e => absurd (hb b e) (Nat.lt_irrefl b)) o
theorem OwnL.got {α : Type} {R : RowOf α} {e : TypeId} {B : Nat} {w w' : World} {v : Value} {xs : List α} {p : Nat} {o : Obj} (h : OwnL R e w B v xs) (g : Got p w o w') (hp : v.ownBlock ≠ some p) : OwnL R e w' B v xs := by
  obtain ⟨X, rfl⟩ := g
  exact (h.setB hp o).ext X
theorem Got.app {α : Type} {R : RowOf α} {e : TypeId} {w w1 w2 : World} {v : Value} {xs : List α} {p : Nat} {o : Obj} (h : Got p w o w1) (hg : w1.grownBy w2 v.ownBlock) (ho : OwnL R e w1 w.heap.size v xs) : Got p w o w2 := by
  obtain ⟨X, rfl⟩ := h
  have ho' : OwnL R e ((w.setB p o).ext X) (w.setB p o).heap.size v xs := by rw [World.setB_size]; exact ho
  exact (Below.appL (a := w.setB p o) ((Below.refl _ _).ofExt X) hg ho').ext
theorem RdL.oneAt {α : Type} (R : RowOf α) (w : World) (x : α) (cs : Array Value) (hcs : cs = (R.row x).toArray) (e : TypeId) (b : Nat) (hb : b = w.heap.size) : RdL R (w.alloc (.cells cs e)) (.slice (some ⟨b, 0, none⟩) 1 1) [x] := by
  subst hb
  exact RdL.one R w x cs hcs e
theorem OwnL.oneAt {α : Type} (R : RowOf α) (w : World) (x : α) (cs : Array Value) (hcs : cs = (R.row x).toArray) (e : TypeId) (b : Nat) (hb : b = w.heap.size) : OwnL R e (w.alloc (.cells cs e)) w.heap.size (.slice (some ⟨b, 0, none⟩) 1 1) [x] := by
  subst hb
  exact OwnL.lit R w [x] 1 rfl (by decide) cs (by simpa using hcs) e
theorem OwnL.made {α : Type} (R : RowOf α) (e : TypeId) (w : World) (cs : Array Value) (X : Ext) (xs : List α) (hsz : cs.size = xs.length * R.k) (hc : cs.toList.take (xs.length * R.k) = xs.flatMap R.row) (hm : xs.length ≤ 9223372036854775807) (b : Nat) (hb : b = w.heap.size) :
    OwnL R e ((w.alloc (.cells cs e)).ext X) w.heap.size (.slice (some ⟨b, 0, none⟩) xs.length xs.length) xs := by
  subst hb
  refine OwnL.ext ?_ X
  refine ⟨R.flat_len xs, .inr ⟨w.heap.size, xs.length, cs, rfl, Nat.le_refl _, ?_, Nat.le_refl _, ?_, hsz, hc⟩⟩
  · show (w.heap.push (.cells cs e))[w.heap.size]? = _
    simp
  · unfold maxLen
    omega
theorem take_set1 {cs : Array Value} {n : Nat} {L : List Value} {v : Value} (h : cs.toList.take n = L) (hn : n < cs.size) : (cs.setIfInBounds n v).toList.take (n + 1) = L ++ [v] := by
  have hl : n < (cs.setIfInBounds n v).toList.length := by simpa using hn
  rw [List.take_succ_eq_append_getElem hl, ← h]
  congr 1
  · simp only [Array.toList_setIfInBounds]
    rw [List.take_set_of_le (Nat.le_refl n)]
  · simp
theorem RowOf.flat_step {α : Type} (R : RowOf α) (xs : List α) (n : Nat) (h : n < xs.length) : (xs.take (n + 1)).flatMap R.row = (xs.take n).flatMap R.row ++ R.row xs[n] := by
  simp only [List.take_succ_eq_append_getElem h, List.flatMap_append, List.flatMap_cons, List.flatMap_nil, List.append_nil]
theorem sum_take_step {α : Type} (f : α → Nat) (xs : List α) (n : Nat) (h : n < xs.length) : ((xs.take (n + 1)).map f).sum = ((xs.take n).map f).sum + f xs[n] := by
  simp only [List.take_succ_eq_append_getElem h, List.map_append, List.sum_append, List.map_cons, List.map_nil, List.sum_cons, List.sum_nil, Nat.add_zero]
theorem sum_take_le {α : Type} (f : α → Nat) (xs : List α) (n : Nat) : ((xs.take n).map f).sum ≤ (xs.map f).sum := by
  conv => rhs; rw [← List.take_append_drop n xs]
  rw [List.map_append, List.sum_append]
  omega
/-- the two worlds have one size, and agree from block B on -/
structure Agr (B : Nat) (a b : World) : Prop where
  size : a.heap.size = b.heap.size
  block : ∀ k, B ≤ k → a.heap[k]? = b.heap[k]?
theorem Agr.past {B : Nat} {a b : World} (h : a.heap.size = b.heap.size) (hb : a.heap.size ≤ B) : Agr B a b :=
  ⟨h, fun k hk => by rw [Array.getElem?_eq_none (by omega), Array.getElem?_eq_none (by omega)]⟩
theorem Agr.ext {B : Nat} {a b : World} (h : Agr B a b) (X : Ext) : Agr B (a.ext X) (b.ext X) := by
  refine ⟨by rw [World.ext_size, World.ext_size, h.size], fun k hk => ?_⟩
  show (a.heap ++ X.bs)[k]? = (b.heap ++ X.bs)[k]?
  rw [Array.getElem?_append, Array.getElem?_append, h.size, h.block k hk]
theorem Agr.alloc {B : Nat} {a b : World} (h : Agr B a b) (o : Obj) : Agr B (a.alloc o) (b.alloc o) := by
  refine ⟨by rw [World.size_alloc, World.size_alloc, h.size], fun k hk => ?_⟩
  show (a.heap.push o)[k]? = (b.heap.push o)[k]?
  rw [Array.getElem?_push, Array.getElem?_push, h.size, h.block k hk]
theorem OwnL.agr {α : Type} {R : RowOf α} {e : TypeId} {B : Nat} {a b : World} {v : Value} {xs : List α} (h : OwnL R e a B v xs) (g : Agr B a b) : OwnL R e b B v xs := by
  refine ⟨h.1, ?_⟩
  rcases h.2 with h | ⟨p, cap, cur, h1, h2, h3, h4⟩
  · exact .inl h
  · exact .inr ⟨p, cap, cur, h1, h2, (g.block p h2).symm.trans h3, h4⟩
/-- as RdL; an empty slice may lie anywhere: what a law is handed -/
def RdW {α : Type} (R : RowOf α) (w : World) (v : Value) (xs : List α) : Prop := RdL R w v xs ∨ (xs = [] ∧ ∃ a, v = .slice (some a) 0 0)
theorem RdW.ext {α : Type} {R : RowOf α} {w : World} {v : Value} {xs : List α} (h : RdW R w v xs) (X : Ext) : RdW R (w.ext X) v xs := h.imp (·.ext X) id
theorem RdW.alloc {α : Type} {R : RowOf α} {w : World} {v : Value} {xs : List α} (h : RdW R w v xs) (o : Obj) : RdW R (w.alloc o) v xs := h.imp (·.alloc o) id
theorem RdW.form {α : Type} {R : RowOf α} {w : World} {v : Value} {xs : List α} (h : RdW R w v xs) : ∃ ao cap, v = .slice ao xs.length cap := by
  rcases h with h | ⟨rfl, a, rfl⟩
  · obtain ⟨ao, cap, h, _⟩ := h.shape
    exact ⟨ao, cap, h⟩
  · exact ⟨_, _, rfl⟩
theorem RdW.shape {α : Type} {R : RowOf α} {w : World} {v : Value} {xs : List α} (h : RdW R w v xs) : ∃ ao cap, v = .slice ao xs.length cap ∧ xs.length ≤ cap ∧ cap ≤ maxLen ∧ (ao = none → cap = 0 ∧ xs = []) ∧
    (xs ≠ [] → ∃ b off, ao = some ⟨b, off, none⟩ ∧ (0 < R.k → b < w.heap.size) ∧ ∀ (i : Nat) (hi : i < xs.length) (j : Nat) (u : Value), (R.row xs[i])[j]? = some u → w.cell? ⟨b, off + i * R.k + j, none⟩ = some u) := by
  rcases h with h | ⟨rfl, a, rfl⟩
  · exact h.shape
  · exact ⟨some a, 0, rfl, Nat.le_refl _, Nat.zero_le _, (fun e => by cases e), fun e => absurd rfl e⟩
theorem RdW.shapeS {w : World} {v : Value} {xs : List ByteArray} (h : RdW rStr w v xs) : ∃ ao cap, v = .slice ao xs.length cap ∧ xs.length ≤ cap ∧ cap ≤ maxLen ∧ (ao = none → cap = 0 ∧ xs = []) ∧
    (xs ≠ [] → ∃ b off, ao = some ⟨b, off, none⟩ ∧ b < w.heap.size ∧ ∀ (i : Nat) (hi : i < xs.length), w.cell? ⟨b, off + i, none⟩ = some (.string xs[i])) := by
  obtain ⟨ao, cap, h0, h1, h2, h3, h4⟩ := h.shape
  refine ⟨ao, cap, h0, h1, h2, h3, fun hne => ?_⟩
  obtain ⟨b, off, e, hb, hc⟩ := h4 hne
  exact ⟨b, off, e, hb (by decide), fun i hi => by simpa [rStr] using hc i hi 0 _ rfl⟩
theorem World.cell?_of_get {w : World} {p i : Nat} {cs : Array Value} {t : TypeId} {f : Nat × Nat} (h : w.heap[p]? = some (.cells cs t f)) : w.cell? ⟨p, i, none⟩ = cs[i]? := by
  simp [World.cell?, h]
/-- block p may be anew -/
def SpF (w : World) (p : Nat) : Obj × Ext → World := fun x => (w.setB p x.1).ext x.2
attribute [go_sem] SpF
theorem Sp.start {w : World} {p : Nat} {o : Obj} (h : w.heap[p]? = some o) : Sf (SpF w p) w.drew := ⟨(o, ⟨#[], w.drawn + 1⟩), by unfold SpF; rw [World.setB_self h]; unfold World.ext World.drew; simp⟩
theorem Sp.got {w w1 w2 : World} {p : Nat} {o : Obj} (h : Sf (SpF w p) w1) (g : Got p w1 o w2) (hp : p < w.heap.size) : Sf (SpF w p) w2 := by
  obtain ⟨⟨o1, X⟩, rfl⟩ := h
  obtain ⟨Y, rfl⟩ := Got.then ⟨X, rfl⟩ g hp
  exact ⟨(o, Y), rfl⟩
theorem Sp.below {w w1 w2 : World} {p : Nat} (h : Sf (SpF w p) w1) (g : Below w1.heap.size w1 w2) : Sf (SpF w p) w2 := by
  obtain ⟨⟨o1, X⟩, rfl⟩ := h
  obtain ⟨Y, rfl⟩ := g.ext
  exact ⟨(o1, ⟨X.bs ++ Y.bs, Y.dr⟩), by unfold SpF; rw [World.ext_ext]⟩
theorem RdL.form {α : Type} {R : RowOf α} {w : World} {v : Value} {xs : List α} (h : RdL R w v xs) : ∃ ao cap, v = .slice ao xs.length cap := by
  rcases h with ⟨rfl, h, _⟩ | ⟨b, off, cap, rfl, _⟩
  · exact ⟨none, 0, by rw [h]⟩
  · exact ⟨_, _, rfl⟩
end Go
namespace Go
open Go.ChangeShapes Go.WideShapes Go.ChangeAt Go.RowKit
theorem bytesOf_length (l : List UInt8) : (bytesOf l).length = l.length := by simp [bytesOf]
theorem bytesOf_append (l m : List UInt8) : bytesOf (l ++ m) = bytesOf l ++ bytesOf m := by simp [bytesOf]
theorem bytesOf_one (l : List UInt8) : ∀ u ∈ bytesOf l, u.oneCell' = true := by
  intro u hu
  simp only [bytesOf, List.mem_map] at hu
  obtain ⟨c, _, rfl⟩ := hu
  rfl
theorem strCells_bytes (s : ByteArray) : Lib.strCells s = bytesOf s.data.toList := by
  unfold Lib.strCells bytesOf
  simp
theorem flat_B (l : List UInt8) : l.flatMap rByte.row = bytesOf l := by
  induction l with
  | nil => rfl
  | cons c l ih =>
    rw [List.flatMap_cons, ih]
    rfl
def MarkOk (fz : Nat × Nat) (n : Nat) : Prop := fz = (0, 0) ∨ n ≤ fz.1
/-- v is a slice of the call's own (made at block B or later) that holds the bytes l -/
def OwnB (e : TypeId) (w : World) (B : Nat) (v : Value) (l : List UInt8) : Prop :=
  (v = .slice none 0 0 ∧ l = []) ∨
  ∃ g cap cur fz, v = .slice (some ⟨g, 0, none⟩) l.length cap ∧ B ≤ g ∧ w.heap[g]? = some (.cells cur e fz) ∧ MarkOk fz cur.size ∧ l.length ≤ cap ∧ cap ≤ maxLen ∧ cur.size = cap ∧ cur.toList.take l.length = bytesOf l
theorem run_storeCells_atM (P : Program) (g o : Nat) (t : TypeId) (fz : Nat × Nat) : ∀ (vs : List Value) (i : Nat) (cur : Array Value) (w : World), w.heap[g]? = some (.cells cur t fz) → MarkOk fz cur.size → o + i + vs.length ≤ cur.size → (∀ v ∈ vs, v.oneCell' = true) →
    (storeCells ⟨g, o, none⟩ vs i).run P w = .ok () (w.setRow g (cur.toList.take (o + i) ++ vs ++ cur.toList.drop (o + i + vs.length)).toArray)
  | [], i, cur, w, hg, _, _, _ => by
    simp only [storeCells, List.append_nil, List.length_nil, Nat.add_zero, List.take_append_drop, Array.toArray_toList]
    rw [setRow_self w g cur t fz hg]
    rfl
  | v :: rest, i, cur, w, hg, hfz, hl, h1 => by
    have hi : o + i < cur.size := by simp at hl; omega
    have hadd : (⟨g, o, none⟩ : Addr).add i = ⟨g, o + i, none⟩ := by unfold Addr.add; split <;> simp_all
    have hcell : w.cell? ⟨g, o + i, none⟩ = some cur[o + i] := by simp [World.cell?, hg, hi]
    have hfro : w.frozen? ⟨g, o + i, none⟩ = false := by
      rcases hfz with rfl | hfz
      · simp [World.frozen?, hg]
      · obtain ⟨lo, hi'⟩ := fz
        simp only [World.frozen?, hg, Bool.and_eq_false_iff, decide_eq_false_iff_not]
        left
        simp only at hfz
        omega
    have hst : (store ((⟨g, o, none⟩ : Addr).add i) v).run P w = .ok () (w.setRow g (cur.setIfInBounds (o + i) v)) := by
      rw [hadd, run_store P w _ v _ (h1 v (by simp)), hcell]
      simp [hfro, setCell_eq_setRow w g (o + i) cur t fz v hg]
    have ih := run_storeCells_atM P g o t fz rest (i + 1) (cur.setIfInBounds (o + i) v) (w.setRow g (cur.setIfInBounds (o + i) v)) (setRow_heap w g cur _ t _ hg) (by simpa using hfz) (by simp at hl ⊢; omega) (fun x hx => h1 x (by simp [hx]))
    simp only [storeCells, Sem.run_bind, hst, Result.andThen_ok, ih, setRow_setRow]
    congr 3
    have e := list_seg_step cur.toList (o + i) v rest (by simp at hl ⊢; omega)
    simpa [Array.toList_setIfInBounds, Nat.add_assoc] using e
section
variable {e : TypeId} {w : World} {B : Nat} {v : Value} {l : List UInt8}
theorem OwnB.ofL (h : OwnL rByte e w B v l) : OwnB e w B v l := by
  have hf := flat_B l
  rcases h.2 with ⟨hv, hn⟩ | ⟨g, cap, cur, hv, hb, hg, hnc, hcm, hcs, ht⟩
  · exact .inl ⟨hv, List.eq_nil_of_length_eq_zero hn⟩
  · refine .inr ⟨g, cap, cur, (0, 0), hv, hb, hg, .inl rfl, hnc, hcm, by simpa [rByte] using hcs, ?_⟩
    rw [hf] at ht
    simpa [rByte] using ht
theorem OwnB.empty (e : TypeId) (w : World) : OwnB e (w.alloc (.cells #[] e)) w.heap.size (.slice (some ⟨w.heap.size, 0, none⟩) 0 0) [] := OwnB.ofL (OwnL.empty rByte e w)
theorem OwnB.nil (e : TypeId) (w : World) (B : Nat) : OwnB e w B (.slice none 0 0) [] := .inl ⟨rfl, rfl⟩
theorem OwnB.lt (h : OwnB e w B v l) : ∀ k, v.ownBlock = some k → B ≤ k ∧ k < w.heap.size := by
  intro k hk
  rcases h with ⟨rfl, _⟩ | ⟨g, cap, cur, fz, rfl, hb, hg, _⟩
  · simp [Value.ownBlock] at hk
  · simp [Value.ownBlock] at hk
    subst hk
    exact ⟨hb, (Array.getElem?_eq_some_iff.1 hg).1⟩
theorem OwnB.base {B' : Nat} (h : OwnB e w B v l) (hb : B' ≤ B) : OwnB e w B' v l := by
  rcases h with hn | ⟨g, cap, cur, fz, hv, h1, rest⟩
  · exact .inl hn
  · exact .inr ⟨g, cap, cur, fz, hv, Nat.le_trans hb h1, rest⟩
theorem OwnB.kept {w' : World} {row : Option Nat} (h : OwnB e w B v l) (hg : w.grownBy w' row) (hne : v.ownBlock = none ∨ v.ownBlock ≠ row) : OwnB e w' B v l := by
  rcases h with hn | ⟨g, cap, cur, fz, rfl, h1, h2, rest⟩
  · exact .inl hn
  · refine .inr ⟨g, cap, cur, fz, rfl, h1, ?_, rest⟩
    rw [hg.block g (Array.getElem?_eq_some_iff.1 h2).1 (by simpa [Value.ownBlock] using hne)]
    exact h2
theorem OwnB.ext (h : OwnB e w B v l) (X : Ext) : OwnB e (w.ext X) B v l := by
  rcases h with hn | ⟨g, cap, cur, fz, rfl, h1, h2, rest⟩
  · exact .inl hn
  · exact .inr ⟨g, cap, cur, fz, rfl, h1, (w.ext_get X (Array.getElem?_eq_some_iff.1 h2).1).trans h2, rest⟩
theorem OwnB.same {bs : Array Obj} {d0 dr : Nat} (h : OwnB e (w.ext ⟨bs, d0⟩) B v l) : OwnB e (w.ext ⟨bs, dr⟩) B v l := by
  have := h.ext ⟨#[], dr⟩
  rwa [World.ext_ext, Array.append_empty] at this
theorem OwnB.merge {bs cs : Array Obj} {d0 dr : Nat} (h : OwnB e (w.ext ⟨bs, d0⟩) B v l) : OwnB e (w.ext ⟨bs ++ cs, dr⟩) B v l := by
  have := h.ext ⟨cs, dr⟩
  rwa [World.ext_ext] at this
theorem OwnB.alloc (h : OwnB e w B v l) (o : Obj) : OwnB e (w.alloc o) B v l :=
  h.kept (World.grownBy_alloc w o none) (by cases hv : v.ownBlock <;> simp)
theorem OwnB.drew (h : OwnB e w B v l) : OwnB e w.drew B v l := h
theorem OwnB.below {w' : World} (h : OwnB e w B v l) (hb : Below w.heap.size w w') : OwnB e w' B v l := by
  obtain ⟨X, rfl⟩ := hb.ext
  exact h.ext X
theorem OwnB.form (h : OwnB e w B v l) : ∃ ao cap, v = .slice ao l.length cap := by
  rcases h with ⟨rfl, rfl⟩ | ⟨g, cap, cur, fz, rfl, _⟩
  · exact ⟨none, 0, rfl⟩
  · exact ⟨_, _, rfl⟩
theorem OwnB.sl (h : OwnB e w B v l) : Sl w v l.length (bytesOf l) := by
  rcases h with ⟨rfl, rfl⟩ | ⟨g, cap, cur, fz, rfl, hb, hg, _, hnc, hcm, hcs, ht⟩
  · exact .inl ⟨rfl, rfl, rfl⟩
  · refine .inr ⟨g, 0, cap, rfl, hnc, hcm, fun j u hj => ?_⟩
    have hl : j < l.length := by
      have := (List.getElem?_eq_some_iff.1 hj).1
      rwa [bytesOf_length] at this
    rw [← ht, List.getElem?_take, if_pos hl] at hj
    simp only [World.cell?, hg, Nat.zero_add]
    simpa using hj
theorem OwnB.rd (h : OwnB e w B v l) : RdL rByte w v l := by
  unfold RdL
  have hf := flat_B l
  rw [hf]
  exact h.sl
/-- a conversion from a string -/
theorem OwnB.ofString (e : TypeId) (w : World) (s : ByteArray) (hs : s.size ≤ 9223372036854775807) : OwnB e (w.alloc (.cells (bytesRow s (grownCap w s.size 0 e)) e ((bytesRow s (grownCap w s.size 0 e)).size, (bytesRow s (grownCap w s.size 0 e)).size + 1))) w.heap.size (.slice (some ⟨w.heap.size, 0, none⟩) s.size (grownCap w s.size 0 e)) s.data.toList := by
  have hge := grownCap_ge w s.size 0 e
  have hle := grownCap_le_maxLen w s.size 0 e (by unfold maxLen; exact hs)
  have hsz : s.data.toList.length = s.size := by simp
  generalize grownCap w s.size 0 e = cap at *
  refine .inr ⟨w.heap.size, cap, _, _, by rw [hsz], Nat.le_refl _, heap_alloc_new w _, .inr (Nat.le_refl _), by omega, hle, ?_, ?_⟩
  · have h2 : s.data.size = s.size := rfl
    simp only [bytesRow, Array.size_append, Array.size_map, Array.size_replicate, h2]
    omega
  · unfold bytesRow bytesOf
    rw [Array.toList_append, List.take_append_of_le_length (by simp)]
    rw [List.take_of_length_le (by simp)]
    simp
end
section
variable {P : Program} (w : World)
/-- an append, from another slice -/
theorem run_appB (t ty e : TypeId) (i : TypeInfo) (ht : P.underlying t = some (.slice e)) (hi : P.info? e = some i) (hz : i.zero = some (.int .u8 0)) (hsize : i.size = 1) (hby : i.bytes = 1)
    {B : Nat} {v : Value} {l : List UInt8} (hown : OwnB e w B v l) {x : Value} {m : List UInt8} (hx : Sl w x m.length (bytesOf m))
    (h63 : l.length + m.length ≤ maxLen) (hbytes : l.length + m.length ≤ 140737488355328) (hbase : B ≤ w.heap.size) :
    ∃ v' w', (Builtin.append_ #[t, t] ty #[v, x]).run P w = .ok v' w' ∧ OwnB e w' B v' (l ++ m) ∧ w.grownBy w' v.ownBlock := by
  have hsmall : l.length + m.length ≤ 9223372036854775807 := by simp only [maxLen] at h63; omega
  have grown : ∀ (old : Nat), old < l.length + m.length → ∀ (row : Option Nat),
      OwnB e (w.drew.alloc (.cells ((bytesOf l).toArray ++ (bytesOf m).toArray ++ Builtin.zeroCells (Value.int IntKind.u8 0).cells (grownCap w (l.length + m.length) old e - (l.length + m.length))) e)) B
        (.slice (some ⟨w.heap.size, 0, none⟩) (l.length + m.length) (grownCap w (l.length + m.length) old e)) (l ++ m) ∧
      w.grownBy (w.drew.alloc (.cells ((bytesOf l).toArray ++ (bytesOf m).toArray ++ Builtin.zeroCells (Value.int IntKind.u8 0).cells (grownCap w (l.length + m.length) old e - (l.length + m.length))) e)) row := by
    intro old ho row
    have hge := grownCap_ge w (l.length + m.length) old e
    have hcm : grownCap w (l.length + m.length) old e ≤ maxLen := grownCap_le_maxLen w (l.length + m.length) old e h63
    refine ⟨.inr ⟨w.heap.size, _, _, (0, 0), by rw [List.length_append], hbase, heap_alloc_new w.drew _, .inl rfl, by rw [List.length_append]; exact hge, hcm, ?_, ?_⟩, ⟨rfl, rfl, rfl, by simp, fun k hk _ => (World.grownBy_alloc w.drew _ none).block k hk (by simp)⟩⟩
    · have hz1 : (Value.int IntKind.u8 0).cells.size = 1 := rfl
      simp only [Array.size_append, List.size_toArray, size_zeroCells, hz1, bytesOf_length]
      omega
    · simp only [Array.toList_append]
      rw [bytesOf_append, List.take_append_of_le_length (by simp [bytesOf_length]), List.take_of_length_le (by simp [bytesOf_length])]
  have hempty : ∀ (ao : Option Addr) (n c : Nat), (Builtin.firstCells 1 0 (.slice ao n c)).run P w = .ok #[] w := by
    intro ao n c
    cases ao with
    | none => simp [Builtin.firstCells]
    | some a =>
      have := run_firstCells_some (P := P) w 1 0 a n c [] rfl (fun j u hj => by simp at hj)
      simpa using this
  rcases hx with ⟨rfl, hm0, _⟩ | ⟨bx, ox, cx, rfl, hmc, hcx, hcells⟩
  · -- nothing to append
    have hm : m = [] := List.eq_nil_of_length_eq_zero hm0
    subst hm
    rcases hown with ⟨rfl, rfl⟩ | ⟨g, cap, cur, fz, rfl, hbg, hg, hfz, hnc, hcm, hcs, htake⟩
    · refine ⟨.slice none 0 0, w, ?_, by simpa using OwnB.nil e w B, ⟨rfl, rfl, rfl, Nat.le_refl _, fun _ _ _ => rfl⟩⟩
      simp [Builtin.append_, run_underlying ht, sizeOf, typeInfo, hi, Builtin.lenOf, Builtin.firstCells, loadCells, loadCellsFrom]
    · refine ⟨_, w, ?_, by rw [List.append_nil]; exact .inr ⟨g, cap, cur, fz, rfl, hbg, hg, hfz, hnc, hcm, hcs, htake⟩, ⟨rfl, rfl, rfl, Nat.le_refl _, fun _ _ _ => rfl⟩⟩
      simp [Builtin.append_, run_underlying ht, sizeOf, typeInfo, hi, Builtin.lenOf, hnc, Builtin.firstCells, storeCells]
  · have hnews : ∀ j u, (bytesOf m)[j]? = some u → w.cell? ((⟨bx, ox, none⟩ : Addr).add j) = some u := fun j u hj => by rw [addr_add]; exact hcells j u hj
    rcases hown with ⟨rfl, rfl⟩ | ⟨g, cap, cur, fz, rfl, hbg, hg, hfz, hnc, hcm, hcs, htake⟩
    · by_cases hm : m.length = 0
      · have hme : m = [] := List.eq_nil_of_length_eq_zero hm
        subst hme
        refine ⟨.slice none 0 0, w, ?_, by simpa using OwnB.nil e w B, ⟨rfl, rfl, rfl, Nat.le_refl _, fun _ _ _ => rfl⟩⟩
        simp [Builtin.append_, run_underlying ht, sizeOf, typeInfo, hi, hsize, Builtin.lenOf, hempty, loadCells, loadCellsFrom]
      · have hr := run_append_nil (P := P) w t ty e i _ ht hi hz ⟨bx, ox, none⟩ m.length cx (bytesOf m) (by rw [bytesOf_length, hsize, Nat.mul_one]) hnews (by omega) (by simp at hsmall; omega) (by rw [hby]; simp at hbytes; omega)
        have hgr := grown 0 (by simp; omega) (Value.ownBlock (.slice none 0 0))
        simp only [List.length_nil, Nat.zero_add, List.nil_append] at hgr ⊢
        refine ⟨_, _, hr, ?_, ?_⟩
        · simpa [bytesOf] using hgr.1
        · simpa [bytesOf] using hgr.2
    · by_cases hroom : l.length + m.length ≤ cap
      · have hf := run_firstCells_some (P := P) w i.size m.length ⟨bx, ox, none⟩ m.length cx (bytesOf m) (by rw [bytesOf_length, hsize, Nat.mul_one]) hnews
        have hst := run_storeCells_atM P g l.length e fz (bytesOf m) 0 cur w hg hfz (by rw [bytesOf_length]; omega) (bytesOf_one m)
        simp only [Nat.add_zero, bytesOf_length] at hst
        refine ⟨.slice (some ⟨g, 0, none⟩) (l.length + m.length) cap, w.setRow g (cur.toList.take l.length ++ bytesOf m ++ cur.toList.drop (l.length + m.length)).toArray, ?_, .inr ⟨g, cap, _, fz, by rw [List.length_append], hbg, setRow_heap w g cur _ e _ hg, ?_, by rw [List.length_append]; exact hroom, hcm, ?_, ?_⟩, ⟨rfl, rfl, rfl, by simp, fun k _ hk => setRow_other w g k _ (fun e => hk (by simp [Value.ownBlock, e]))⟩⟩
        · rw [hsize] at hf
          simp [Builtin.append_, run_underlying ht, sizeOf, typeInfo, hi, hsize, Builtin.lenOf, hroom, hf, Addr.add_lit, hst]
        · have hsz : (cur.toList.take l.length ++ bytesOf m ++ cur.toList.drop (l.length + m.length)).toArray.size = cur.size := by
            simp only [List.size_toArray, List.length_append, List.length_take, List.length_drop, Array.length_toList, bytesOf_length]
            omega
          rw [hsz]
          exact hfz
        · simp only [List.size_toArray, List.length_append, List.length_take, List.length_drop, Array.length_toList, bytesOf_length]
          omega
        · rw [htake, bytesOf_append, List.take_append_of_le_length (by simp [bytesOf_length]), List.take_of_length_le (by simp [bytesOf_length])]
      · have holds : ∀ j u, (bytesOf l)[j]? = some u → w.cell? ((⟨g, 0, none⟩ : Addr).add j) = some u := by
          intro j u hj
          rw [addr_add]
          have hl : j < l.length := by
            have := (List.getElem?_eq_some_iff.1 hj).1
            rwa [bytesOf_length] at this
          rw [← htake, List.getElem?_take, if_pos hl] at hj
          simp only [World.cell?, hg, Nat.zero_add]
          simpa using hj
        have hr := run_append_grow (P := P) w t ty e i _ ht hi hz ⟨g, 0, none⟩ l.length cap (bytesOf l) (by rw [bytesOf_length, hsize, Nat.mul_one]) holds ⟨bx, ox, none⟩ m.length cx (bytesOf m) (by rw [bytesOf_length, hsize, Nat.mul_one]) hnews (by omega) (by omega) (by rw [hby]; exact growslice_fits (by omega) (by omega))
        have hgr := grown cap (by omega) (Value.ownBlock (.slice (some ⟨g, 0, none⟩) l.length cap))
        exact ⟨_, _, hr, hgr.1, hgr.2⟩
/-- an append, from a string -/
theorem run_appBs (t u ty e : TypeId) (i : TypeInfo) (ht : P.underlying t = some (.slice e)) (hu : P.underlying u = some .string) (hi : P.info? e = some i) (hz : i.zero = some (.int .u8 0)) (hsize : i.size = 1) (hby : i.bytes = 1)
    {B : Nat} {v : Value} {l : List UInt8} (hown : OwnB e w B v l) (s : ByteArray)
    (h63 : l.length + s.size ≤ maxLen) (hbytes : l.length + s.size ≤ 140737488355328) (hbase : B ≤ w.heap.size) :
    ∃ v' w', (Builtin.append_ #[t, u] ty #[v, .string s]).run P w = .ok v' w' ∧ OwnB e w' B v' (l ++ s.data.toList) ∧ w.grownBy w' v.ownBlock := by
  have hsz : s.data.toList.length = s.size := by simp
  rcases hown with ⟨rfl, rfl⟩ | ⟨g, cap, cur, fz, rfl, hbg, hg, hfz, hnc, hcm, hcs, htake⟩
  · obtain ⟨v', w', h1, h2, h3, h4⟩ := Lib.run_append_own_string (P := P) w B t u ty e i ht hu hi hz hsize hby (.slice none 0 0) 0 [] ⟨rfl, .inl ⟨rfl, rfl⟩⟩ s (by simpa using h63) (by simpa using hbytes) hbase
    refine ⟨v', w', h1, OwnB.ofL ?_, h3⟩
    unfold OwnL
    have hf := flat_B s.data.toList
    simp only [List.nil_append, Nat.zero_add] at h2 ⊢
    rw [hf, ← strCells_bytes, hsz]
    exact h2
  · have hsmall : l.length + s.size ≤ 9223372036854775807 := by simp only [maxLen] at h63; omega
    by_cases hroom : l.length + s.size ≤ cap
    · have hf := Lib.run_firstCells_string (P := P) w 1 s
      have hst := run_storeCells_atM P g l.length e fz (Lib.strCells s) 0 cur w hg hfz (by rw [Lib.strCells_length]; omega) (Lib.strCells_oneCell s)
      simp only [Nat.add_zero, Lib.strCells_length] at hst
      refine ⟨.slice (some ⟨g, 0, none⟩) (l.length + s.size) cap, w.setRow g (cur.toList.take l.length ++ Lib.strCells s ++ cur.toList.drop (l.length + s.size)).toArray, ?_, .inr ⟨g, cap, _, fz, by rw [List.length_append, hsz], hbg, setRow_heap w g cur _ e _ hg, ?_, by rw [List.length_append, hsz]; exact hroom, hcm, ?_, ?_⟩, ⟨rfl, rfl, rfl, by simp, fun k _ hk => setRow_other w g k _ (fun e => hk (by simp [Value.ownBlock, e]))⟩⟩
      · simp [Builtin.append_, run_underlying ht, run_underlying hu, sizeOf, typeInfo, hi, hsize, Builtin.lenOf, hroom, hf, Addr.add_lit, hst]
      · have hsz2 : (cur.toList.take l.length ++ Lib.strCells s ++ cur.toList.drop (l.length + s.size)).toArray.size = cur.size := by
          simp only [List.size_toArray, List.length_append, List.length_take, List.length_drop, Array.length_toList, Lib.strCells_length]
          omega
        rw [hsz2]
        exact hfz
      · simp only [List.size_toArray, List.length_append, List.length_take, List.length_drop, Array.length_toList, Lib.strCells_length]
        omega
      · rw [htake, strCells_bytes, bytesOf_append, List.take_append_of_le_length (by simp [bytesOf_length]), List.take_of_length_le (by simp [bytesOf_length])]
    · have holds : ∀ j u, (bytesOf l)[j]? = some u → w.cell? ((⟨g, 0, none⟩ : Addr).add j) = some u := by
        intro j u hj
        rw [addr_add]
        have hl : j < l.length := by
          have := (List.getElem?_eq_some_iff.1 hj).1
          rwa [bytesOf_length] at this
        rw [← htake, List.getElem?_take, if_pos hl] at hj
        simp only [World.cell?, hg, Nat.zero_add]
        simpa using hj
      have hr := Lib.run_append_grow_string (P := P) w t u ty e i (.int .u8 0) ht hu hi hz ⟨g, 0, none⟩ l.length cap (bytesOf l) (by rw [bytesOf_length, hsize, Nat.mul_one]) holds s (by omega) (by omega) (by rw [hby]; exact growslice_fits (by omega) (by omega))
      have hge := grownCap_ge w (l.length + s.size) cap e
      have hcm2 : grownCap w (l.length + s.size) cap e ≤ maxLen := grownCap_le_maxLen w (l.length + s.size) cap e h63
      refine ⟨_, _, hr, .inr ⟨w.heap.size, _, _, (0, 0), by rw [List.length_append, hsz], hbase, heap_alloc_new w.drew _, .inl rfl, by rw [List.length_append, hsz]; exact hge, hcm2, ?_, ?_⟩, ⟨rfl, rfl, rfl, by simp, fun k hk _ => (World.grownBy_alloc w.drew _ none).block k hk (by simp)⟩⟩
      · have hz1 : (Value.int IntKind.u8 0).cells.size = 1 := rfl
        simp only [Array.size_append, List.size_toArray, size_zeroCells, hz1, bytesOf_length, Lib.strCells_length]
        omega
      · simp only [Array.toList_append]
        rw [strCells_bytes, bytesOf_append, List.take_append_of_le_length (by simp [bytesOf_length]), List.take_of_length_le (by simp [bytesOf_length])]
/-- Go's []byte: a slice of uint8 -/
structure ByteT (P : Program) (t e : TypeId) : Prop where
  sl : P.underlying t = some (.slice e)
  el : P.underlying e = some (.int .u8)
  inf : ∃ i : TypeInfo, P.info? e = some i ∧ i.zero = some (.int .u8 0) ∧ i.size = 1 ∧ i.bytes = 1
theorem ByteT.of {t e : TypeId} (h1 : P.underlying t = some (.slice e)) (h2 : P.underlying e = some (.int .u8)) (h : (P.info? e).map (fun i => (i.zero, i.size, i.bytes)) = some (some (.int .u8 0), 1, 1)) : ByteT P t e := by
  refine ⟨h1, h2, ?_⟩
  cases hi : P.info? e with
  | none => rw [hi] at h; simp at h
  | some i =>
    rw [hi] at h
    simp at h
    exact ⟨i, rfl, h.1, h.2.1, h.2.2⟩
theorem wp_appB {t e : TypeId} (E : ByteT P t e) {o : Oper} {a : Act} {K : Act → World → Prop} {Q : Exit → Act → World → Prop} (s x : Operand)
    (ho : o.op = .call { callee := .builtin .append, args := #[s, x], argTypes := #[t, t] })
    {B : Nat} {v : Value} {l : List UInt8} (hown : OwnB e w B v l) (hs : a.eval s = v)
    {vx : Value} {m : List UInt8} (hx : Sl w vx m.length (bytesOf m)) (hvx : a.eval x = vx) (hb : l.length + m.length ≤ 140737488355328) (hbase : B ≤ w.heap.size)
    (h : ∀ v' w', OwnB e w' B v' (l ++ m) → w.grownBy w' v.ownBlock → K (a.put o.dst v') w') : o.wp P a w K Q := by
  obtain ⟨i, h1, h2, h3, h4⟩ := E.inf
  obtain ⟨v', w', hr, h5, h6⟩ := run_appB (P := P) w t o.type e i E.sl h1 h2 h3 h4 hown hx (by unfold maxLen; omega) hb hbase
  unfold Oper.wp execOp
  simp only [ho, resolve, invoke, builtin, Sem.run_bind, Sem.run_pure, Result.andThen_ok, List.map_toArray, List.map_cons, List.map_nil, hs, hvx, hr]
  exact h v' w' h5 h6
theorem wpList_appB {t e : TypeId} (E : ByteT P t e) {ops : Array Oper} {rest : List Oper} {o : Oper} {a : Act} {Q : Exit → Act → World → Prop} (hgd : o.guard = none) (s x : Operand)
    (ho : o.op = .call { callee := .builtin .append, args := #[s, x], argTypes := #[t, t] })
    {B : Nat} {v : Value} {l : List UInt8} (hown : OwnB e w B v l) (hs : a.eval s = v)
    {vx : Value} {m : List UInt8} (hx : Sl w vx m.length (bytesOf m)) (hvx : a.eval x = vx) (hb : l.length + m.length ≤ 140737488355328) (hbase : B ≤ w.heap.size)
    (h : ∀ v' w', OwnB e w' B v' (l ++ m) → w.grownBy w' v.ownBlock → wpList P ops Q rest (a.put o.dst v') w') : wpList P ops Q (o :: rest) a w :=
  wpList_plain hgd fun _ hK => wp_appB w E s x ho hown hs hx hvx hb hbase (fun v' w' a1 a2 => hK _ _ (h v' w' a1 a2))
theorem wp_appBs {t u e : TypeId} (E : ByteT P t e) (hu : P.underlying u = some .string) {o : Oper} {a : Act} {K : Act → World → Prop} {Q : Exit → Act → World → Prop} (s x : Operand)
    (ho : o.op = .call { callee := .builtin .append, args := #[s, x], argTypes := #[t, u] })
    {B : Nat} {v : Value} {l : List UInt8} (hown : OwnB e w B v l) (hs : a.eval s = v)
    {m : ByteArray} (hvx : a.eval x = .string m) (hb : l.length + m.size ≤ 140737488355328) (hbase : B ≤ w.heap.size)
    (h : ∀ v' w', OwnB e w' B v' (l ++ m.data.toList) → w.grownBy w' v.ownBlock → K (a.put o.dst v') w') : o.wp P a w K Q := by
  obtain ⟨i, h1, h2, h3, h4⟩ := E.inf
  obtain ⟨v', w', hr, h5, h6⟩ := run_appBs (P := P) w t u o.type e i E.sl hu h1 h2 h3 h4 hown m (by unfold maxLen; omega) hb hbase
  unfold Oper.wp execOp
  simp only [ho, resolve, invoke, builtin, Sem.run_bind, Sem.run_pure, Result.andThen_ok, List.map_toArray, List.map_cons, List.map_nil, hs, hvx, hr]
  exact h v' w' h5 h6
theorem wpList_appBs {t u e : TypeId} (E : ByteT P t e) (hu : P.underlying u = some .string) {ops : Array Oper} {rest : List Oper} {o : Oper} {a : Act} {Q : Exit → Act → World → Prop} (hgd : o.guard = none) (s x : Operand)
    (ho : o.op = .call { callee := .builtin .append, args := #[s, x], argTypes := #[t, u] })
    {B : Nat} {v : Value} {l : List UInt8} (hown : OwnB e w B v l) (hs : a.eval s = v)
    {m : ByteArray} (hvx : a.eval x = .string m) (hb : l.length + m.size ≤ 140737488355328) (hbase : B ≤ w.heap.size)
    (h : ∀ v' w', OwnB e w' B v' (l ++ m.data.toList) → w.grownBy w' v.ownBlock → wpList P ops Q rest (a.put o.dst v') w') : wpList P ops Q (o :: rest) a w :=
  wpList_plain hgd fun _ hK => wp_appBs w E hu s x ho hown hs hvx hb hbase (fun v' w' a1 a2 => hK _ _ (h v' w' a1 a2))
/-- a string out of bytes -/
theorem run_string_of {t u e : TypeId} (E : ByteT P t e) (hu : P.underlying u = some .string) {v : Value} {l : List UInt8} (h : Sl w v l.length (bytesOf l)) :
    (convert t u v).run P w = .ok (.string ⟨l.toArray⟩) w := by
  rcases h with ⟨rfl, hn, _⟩ | ⟨b, off, cap, rfl, _, _, hc⟩
  · have : l = [] := List.eq_nil_of_length_eq_zero hn
    subst this
    exact run_convert_bytes_nil w t e E.sl E.el 0 0 u hu
  · refine run_convert_bytes_back w t u e ⟨b, off, none⟩ cap l E.sl E.el hu (fun j hj => ?_)
    rw [addr_add]
    refine hc j _ ?_
    unfold bytesOf
    rw [List.getElem?_map, List.getElem?_eq_getElem hj]
    rfl
end
theorem RowKit.Below.appB {a w w' : World} {v : Value} {e : TypeId} {l : List UInt8} (h : Below a.heap.size a w) (hg : w.grownBy w' v.ownBlock) (ho : OwnB e w a.heap.size v l) : Below a.heap.size a w' := by
  refine ⟨hg.os.trans h.os, hg.tape.trans h.tape, hg.output.trans h.output, Nat.le_trans h.size hg.size, fun k hk => ?_⟩
  rw [hg.block k (Nat.lt_of_lt_of_le hk h.size) (fun e => by have := ho.lt k e.symm; omega)]
  exact h.block k hk
end Go
namespace Go
open Go.RowKit

@[go_sem] theorem World.drewN_ext (w : World) (X : Ext) (n : Nat) : (w.ext X).drewN n = w.ext ⟨X.bs, X.dr + n⟩ := rfl
theorem RowKit.Below.ofDrewN {a w : World} (h : Below a.heap.size a w) (n : Nat) : Below a.heap.size a (w.drewN n) := ⟨h.os, h.tape, h.output, h.size, h.block⟩
/-- the blocks of w are as they were in w' -/
def Grew (w w' : World) : Prop := ∀ b, b < w.heap.size → w'.heap[b]? = w.heap[b]?
theorem Grew.refl (w : World) : Grew w w := fun _ _ => rfl
theorem Grew.ext (w : World) (X : Ext) : Grew w (w.ext X) := fun _ h => w.ext_get X h
theorem Grew.alloc (w : World) (o : Obj) : Grew w (w.alloc o) := fun _ h => by
  show (w.heap.push o)[_]? = w.heap[_]?
  rw [Array.getElem?_push, if_neg (Nat.ne_of_lt h)]
theorem Grew.drew (w : World) : Grew w w.drew := fun _ _ => rfl
theorem Grew.below {w w' : World} (h : Below w.heap.size w w') : Grew w w' := fun b hb => h.block b hb
theorem Grew.cell {w w' : World} (g : Grew w w') {a : Addr} {v : Value} (h : w.cell? a = some v) : w'.cell? a = some v :=
  (World.cell?_of_block (g a.block (World.block_lt_of_cell? w a h))).trans h

structure View (α : Type) where
  k : Nat
  rd : World → List Value → α → Prop
  own : World → List Nat → List Value → α → Prop
  len : ∀ {w cs d}, rd w cs d → cs.length = k
  one : ∀ {w cs d}, rd w cs d → ∀ u ∈ cs, u.oneCell' = true
  grow : ∀ {w w' cs d}, rd w cs d → Grew w w' → rd w' cs d
  toRd : ∀ {w fp cs d}, own w fp cs d → rd w cs d
  frame : ∀ {w w' fp cs d}, own w fp cs d → (∀ b ∈ fp, w'.heap[b]? = w.heap[b]?) → own w' fp cs d
  lt : ∀ {w fp cs d}, own w fp cs d → ∀ b ∈ fp, b < w.heap.size

section
variable {α β : Type} {V : View α} {w w' : World} {cs : List Value} {fp : List Nat} {d : α}
theorem View.rdExt (h : V.rd w cs d) (X : Ext) : V.rd (w.ext X) cs d := V.grow h (Grew.ext w X)
theorem View.rdAlloc (h : V.rd w cs d) (o : Obj) : V.rd (w.alloc o) cs d := V.grow h (Grew.alloc w o)
theorem View.rdDrew (h : V.rd w cs d) : V.rd w.drew cs d := V.grow h (Grew.drew w)
theorem View.rdDrewN (h : V.rd w cs d) (n : Nat) : V.rd (w.drewN n) cs d := V.grow h (fun _ _ => rfl)
theorem View.rdBelow (h : V.rd w cs d) (hb : Below w.heap.size w w') : V.rd w' cs d := V.grow h (Grew.below hb)
theorem View.rdMerge {xs bs : Array Obj} {d0 dr : Nat} (h : V.rd (w.ext ⟨xs, d0⟩) cs d) : V.rd (w.ext ⟨xs ++ bs, dr⟩) cs d := by
  have := View.rdExt h ⟨bs, dr⟩
  rwa [World.ext_ext] at this
theorem View.ownGrow (h : V.own w fp cs d) (g : Grew w w') : V.own w' fp cs d := V.frame h fun b hb => g b (V.lt h b hb)
theorem View.ownExt (h : V.own w fp cs d) (X : Ext) : V.own (w.ext X) fp cs d := View.ownGrow h (Grew.ext w X)
theorem View.ownAlloc (h : V.own w fp cs d) (o : Obj) : V.own (w.alloc o) fp cs d := View.ownGrow h (Grew.alloc w o)
theorem View.ownMerge {xs bs : Array Obj} {d0 dr : Nat} (h : V.own (w.ext ⟨xs, d0⟩) fp cs d) : V.own (w.ext ⟨xs ++ bs, dr⟩) fp cs d := by
  have := View.ownExt h ⟨bs, dr⟩
  rwa [World.ext_ext] at this
end

/-- rows of cells, one for each element -/
def Rows' {α : Type} (rd : List Value → α → Prop) (css : List (List Value)) (ds : List α) : Prop :=
  css.length = ds.length ∧ ∀ i (hi : i < ds.length) (hc : i < css.length), rd css[i] ds[i]

theorem flatten_len {k : Nat} {css : List (List Value)} (h : ∀ i (hc : i < css.length), (css[i]).length = k) : css.flatten.length = css.length * k := by
  induction css with
  | nil => simp
  | cons c r ih =>
    rw [List.flatten_cons, List.length_append, ih (fun i hc => by have := h (i + 1) (by simpa using hc); rwa [List.getElem_cons_succ] at this), List.length_cons, Nat.add_mul]
    have := h 0 (by simp)
    simp at this
    omega
theorem flatten_get {k : Nat} {css : List (List Value)} (h : ∀ i (hc : i < css.length), (css[i]).length = k) (i : Nat) (hi : i < css.length) (j : Nat) (u : Value) (hu : css[i][j]? = some u) : css.flatten[i * k + j]? = some u := by
  induction css generalizing i with
  | nil => simp at hi
  | cons c r ih =>
    have h0 : c.length = k := h 0 (by simp)
    cases i with
    | zero =>
      have hj : j < c.length := by
        have := (List.getElem?_eq_some_iff.1 hu).1
        simpa using this
      rw [List.flatten_cons, List.getElem?_append_left (by omega)]
      simpa using hu
    | succ i =>
      rw [List.flatten_cons, List.getElem?_append_right (by rw [h0, Nat.add_mul]; omega), h0, show (i + 1) * k + j - k = i * k + j by rw [Nat.add_mul]; omega]
      exact ih (fun i hc => by have := h (i + 1) (by simpa using hc); rwa [List.getElem_cons_succ] at this) i (by simpa using hi) (by simpa using hu)

def vSlice {α : Type} (V : View α) (e : TypeId) : View (List α) where
  k := 1
  rd w cs ds := ∃ (ao : Option Addr) (cap : Nat) (css : List (List Value)), cs = [.slice ao ds.length cap] ∧ ds.length ≤ cap ∧ cap ≤ maxLen ∧ (ao = none → cap = 0) ∧ css.length = ds.length ∧
    (∀ i (hi : i < ds.length) (hc : i < css.length), V.rd w css[i] ds[i]) ∧
    (ds ≠ [] → ∃ b off, ao = some ⟨b, off, none⟩ ∧ b < w.heap.size ∧ ∀ j u, css.flatten[j]? = some u → w.cell? ⟨b, off + j, none⟩ = some u)
  own w fp cs ds := (cs = [.slice none 0 0] ∧ ds = [] ∧ fp = []) ∨ ∃ (b cap : Nat) (blk : Array Value) (css : List (List Value)) (fps : List (List Nat)), cs = [.slice (some ⟨b, 0, none⟩) ds.length cap] ∧ w.heap[b]? = some (.cells blk e (0, 0)) ∧
    ds.length ≤ cap ∧ cap ≤ maxLen ∧ blk.size = cap * V.k ∧ blk.toList.take (ds.length * V.k) = css.flatten ∧ fp = b :: fps.flatten ∧ css.length = ds.length ∧ fps.length = ds.length ∧
    ∀ i (hi : i < ds.length) (hc : i < css.length) (hf : i < fps.length), V.own w fps[i] css[i] ds[i]
  len := by rintro w cs ds ⟨ao, cap, css, rfl, _⟩; rfl
  one := by rintro w cs ds ⟨ao, cap, css, rfl, _⟩ u hu; simp at hu; subst hu; rfl
  grow := by
    rintro w w' cs ds ⟨ao, cap, css, rfl, h1, h2, h3, h4, h5, h6⟩ g
    refine ⟨ao, cap, css, rfl, h1, h2, h3, h4, fun i hi hc => V.grow (h5 i hi hc) g, fun hne => ?_⟩
    obtain ⟨b, off, e, hb, hcell⟩ := h6 hne
    refine ⟨b, off, e, ?_, fun j u hj => g.cell (hcell j u hj)⟩
    have := g b hb
    rw [Array.getElem?_eq_getElem hb] at this
    exact (Array.getElem?_eq_some_iff.1 this).1
  toRd := by
    rintro w fp cs ds (⟨rfl, rfl, rfl⟩ | ⟨b, cap, blk, css, fps, rfl, hb, h1, h2, h3, h4, rfl, h5, h6, h7⟩)
    · exact ⟨none, 0, [], rfl, Nat.le_refl _, Nat.zero_le _, fun _ => rfl, rfl, fun i hi => absurd hi (by simp), fun h => absurd rfl h⟩
    · refine ⟨_, cap, css, rfl, h1, h2, (fun h => by cases h), h5, fun i hi hc => V.toRd (h7 i hi hc (by omega)), fun _ => ⟨b, 0, rfl, World.lt_of_get hb, fun j u hj => ?_⟩⟩
      rw [World.cell?_of_get hb, ← h4] at *
      rw [List.getElem?_take] at hj
      split at hj
      · rw [Nat.zero_add]
        simpa using hj
      · cases hj
  frame := by
    rintro w w' fp cs ds (⟨rfl, rfl, rfl⟩ | ⟨b, cap, blk, css, fps, rfl, hb, h1, h2, h3, h4, rfl, h5, h6, h7⟩) g
    · exact .inl ⟨rfl, rfl, rfl⟩
    · refine .inr ⟨b, cap, blk, css, fps, rfl, (g b (by simp)).trans hb, h1, h2, h3, h4, rfl, h5, h6, fun i hi hc hf => V.frame (h7 i hi hc hf) fun c hcb => g c ?_⟩
      exact List.mem_cons_of_mem _ (List.mem_flatten.2 ⟨_, List.getElem_mem hf, hcb⟩)
  lt := by
    rintro w fp cs ds (⟨rfl, rfl, rfl⟩ | ⟨b, cap, blk, css, fps, rfl, hb, h1, h2, h3, h4, rfl, h5, h6, h7⟩) c hc
    · cases hc
    · rcases List.mem_cons.1 hc with rfl | hc
      · exact World.lt_of_get hb
      · obtain ⟨l, hl, hcl⟩ := List.mem_flatten.1 hc
        obtain ⟨i, hi, rfl⟩ := List.getElem_of_mem hl
        exact V.lt (h7 i (by omega) (by omega) hi) c hcl

section
variable {α : Type} {V : View α} {e : TypeId} {w : World} {v : Value} {ds : List α}
/-- the shape of a slice that reads as ds, and its elements' cells -/
theorem vSlice.shape (h : (vSlice V e).rd w [v] ds) : ∃ ao cap, v = .slice ao ds.length cap ∧ ds.length ≤ cap ∧ cap ≤ maxLen ∧ (ao = none → cap = 0) ∧
    (∀ i (hi : i < ds.length), ∃ b off cs, ao = some ⟨b, off, none⟩ ∧ b < w.heap.size ∧ V.rd w cs ds[i] ∧ ∀ j u, cs[j]? = some u → w.cell? ⟨b, off + i * V.k + j, none⟩ = some u) := by
  obtain ⟨ao, cap, css, hv, h1, h2, h3, h4, h5, h6⟩ := h
  simp only [List.cons.injEq, and_true] at hv
  refine ⟨ao, cap, hv, h1, h2, h3, fun i hi => ?_⟩
  obtain ⟨b, off, ea, hb, hcell⟩ := h6 (by intro hz; subst hz; simp at hi)
  refine ⟨b, off, css[i], ea, hb, h5 i hi (by omega), fun j u hj => ?_⟩
  rw [Nat.add_assoc]
  exact hcell _ u (flatten_get (fun i hc => V.len (h5 i (by omega) hc)) i (by omega) j u hj)
end
end Go
namespace Go
open Go.RowKit
/-- a struct of one-cell fields that hold no address -/
def vRow {α : Type} (row : α → List Value) (k : Nat) (ok : α → Prop) (hk : ∀ d, (row d).length = k) (h1 : ∀ d, ∀ u ∈ row d, u.oneCell' = true) : View α where
  k := k
  rd _ cs d := cs = row d ∧ ok d
  own _ fp cs d := fp = [] ∧ cs = row d ∧ ok d
  len h := by rw [h.1]; exact hk _
  one h := by rw [h.1]; exact h1 _
  grow h _ := h
  toRd h := h.2
  frame h _ := h
  lt h := by rw [h.1]; simp
def vInt : View Int := vRow (fun n => [.int .i64 n]) 1 (fun _ => True) (fun _ => rfl) (by simp [Value.oneCell'])
def vBool : View Bool := vRow (fun n => [.bool n]) 1 (fun _ => True) (fun _ => rfl) (by simp [Value.oneCell'])
def vStr : View ByteArray := vRow (fun n => [.string n]) 1 (fun s => s.size ≤ 9223372036854775807) (fun _ => rfl) (by simp [Value.oneCell'])
end Go
namespace Go.Proofs.YtedgenmbdjadkaaGreatDoor
open Go.RowKit
/-- what 'left' is behind a measure of wt -/
def leftOf (left : Int) (wt : Nat) : Int := if (wt : Int) ≤ left then left - wt else -1
theorem leftOf_pos {left : Int} {a : Nat} (h : ((a : Nat) : Int) ≤ left) : leftOf left a = left - a := by
  unfold leftOf
  rw [if_pos h]
theorem leftOf_none {left : Int} {a : Nat} (h : ¬ ((a : Nat) : Int) ≤ left) : leftOf left a = -1 := by
  unfold leftOf
  rw [if_neg h]
theorem leftOf_add {left : Int} {a b : Nat} (h : ((a : Nat) : Int) ≤ left) : leftOf (leftOf left a) b = leftOf left (a + b) := by
  unfold leftOf
  rw [if_pos h]
  by_cases h2 : (b : Int) ≤ left - a
  · rw [if_pos h2, if_pos (by omega)]; omega
  · rw [if_neg h2, if_neg (by omega)]
theorem leftOf_neg {left : Int} {a b : Nat} (h : ¬ ((a : Nat) : Int) ≤ left) : leftOf left (a + b) = -1 := by
  unfold leftOf
  rw [if_neg (by omega)]
def wtS {α : Type} (wt : α → Nat) (ds : List α) : Nat := ds.length + (ds.map wt).sum
end Go.Proofs.YtedgenmbdjadkaaGreatDoor
namespace Go
open Go.RowKit
/-- what a call has just made -/
structure Fresh {α : Type} (V : View α) (w w' : World) (fp : List Nat) (cs : List Value) (d : α) : Prop where
  own : V.own w' fp cs d
  nodup : fp.Nodup
  lo : ∀ b ∈ fp, w.heap.size ≤ b
theorem vSlice.ownRow {α : Type} {row : α → List Value} {k : Nat} {ok : α → Prop} {hk : ∀ d, (row d).length = k} {h1 : ∀ d, ∀ u ∈ row d, u.oneCell' = true} {e : TypeId} {w : World} {b cap n : Nat} {blk : Array Value} {ds : List α}
    (h : w.heap[b]? = some (.cells blk e (0, 0))) (hl : n = ds.length) (hn : n ≤ cap) (hm : cap ≤ maxLen) (hs : blk.size = cap * k) (ht : blk.toList.take (n * k) = ds.flatMap row) (hok : ∀ d ∈ ds, ok d) :
    (vSlice (vRow row k ok hk h1) e).own w [b] [.slice (some ⟨b, 0, none⟩) n cap] ds := by
  subst hl
  refine .inr ⟨b, cap, blk, ds.map row, ds.map fun _ => [], rfl, h, hn, hm, hs, ?_, ?_, by simp, by simp, ?_⟩
  · rw [← List.flatMap_def]; exact ht
  · have : (ds.map fun _ => ([] : List Nat)).flatten = [] := by
      rw [List.flatten_eq_nil_iff]
      intro l hl
      obtain ⟨_, _, rfl⟩ := List.mem_map.1 hl
      rfl
    rw [this]
  · intro i hi hc hf
    refine ⟨by simp, by simp, hok _ (List.getElem_mem hi)⟩
theorem vSlice.freshRow {α : Type} {row : α → List Value} {k : Nat} {ok : α → Prop} {hk : ∀ d, (row d).length = k} {h1 : ∀ d, ∀ u ∈ row d, u.oneCell' = true} {e : TypeId} {w : World} {X : Ext} {n : Nat} {blk : Array Value} {ds : List α}
    (hl : n = ds.length) (hm : n ≤ 9223372036854775807) (hs : blk.size = n * k) (ht : blk.toList.take (n * k) = ds.flatMap row) (hok : ∀ d ∈ ds, ok d) :
    Fresh (vSlice (vRow row k ok hk h1) e) w ((w.alloc (.cells blk e)).ext X) [w.heap.size] [.slice (some ⟨w.heap.size, 0, none⟩) n n] ds := by
  refine ⟨View.ownExt (vSlice.ownRow (blk := blk) ?_ hl (Nat.le_refl _) (by unfold maxLen; omega) hs ht hok) X, by simp, by simp⟩
  show (w.heap.push (.cells blk e))[w.heap.size]? = _
  simp
end Go
namespace Go
open Go.RowKit
theorem take_set1' {cs : Array Value} {n m p : Nat} {L : List Value} {v : Value} (h : cs.toList.take n = L) (hm : m = n) (hp : p = n + 1) (hn : n < cs.size) : (cs.setIfInBounds m v).toList.take p = L ++ [v] := by
  subst hm hp
  exact take_set1 h hn
/-- a call's own new value -/
def Made {α : Type} (V : View α) (w : World) (d : α) : Ending → World → Prop := fun e w' => ∃ v' fp, e = .returned v' ∧ Fresh V w w' fp [v'] d ∧ Below w.heap.size w w'
/-- a call's own new struct -/
def MadeA {α : Type} (V : View α) (w : World) (d : α) : Ending → World → Prop := fun e w' => ∃ (cs : List Value) (fp : List Nat), e = .returned (.agg cs.toArray) ∧ Fresh V w w' fp cs d ∧ Below w.heap.size w w'
end Go
namespace Go
open Go.RowKit
theorem vSlice.form {α : Type} {V : View α} {e : TypeId} {w : World} {v : Value} {ds : List α} (h : (vSlice V e).rd w [v] ds) : ∃ ao cap, v = .slice ao ds.length cap := by
  obtain ⟨ao, cap, rfl, _⟩ := vSlice.shape h
  exact ⟨ao, cap, rfl⟩
/-- places of one list, in a range -/
structure Sp (lo hi : Nat) (fp : List Nat) : Prop where
  nodup : fp.Nodup
  lo : ∀ b ∈ fp, lo ≤ b
  hi : ∀ b ∈ fp, b < hi
theorem Sp.nil (lo hi : Nat) : Sp lo hi [] := ⟨List.nodup_nil, by simp, by simp⟩
theorem Sp.append {lo mid mid' hi : Nat} {f g : List Nat} (h : Sp lo mid f) (h' : Sp mid' hi g) (h0 : lo ≤ mid') (h1 : mid ≤ mid') (h2 : mid ≤ hi) : Sp lo hi (f ++ g) := by
  refine ⟨List.nodup_append.2 ⟨h.nodup, h'.nodup, fun a ha b hb e => ?_⟩, fun b hb => ?_, fun b hb => ?_⟩
  · have := h.hi a ha
    have := h'.lo b hb
    omega
  · rcases List.mem_append.1 hb with hb | hb
    · exact h.lo b hb
    · exact Nat.le_trans h0 (h'.lo b hb)
  · rcases List.mem_append.1 hb with hb | hb
    · exact Nat.lt_of_lt_of_le (h.hi b hb) h2
    · exact h'.hi b hb
theorem Sp.mono {lo hi lo' hi' : Nat} {f : List Nat} (h : Sp lo hi f) (h0 : lo' ≤ lo) (h1 : hi ≤ hi') : Sp lo' hi' f :=
  ⟨h.nodup, fun b hb => Nat.le_trans h0 (h.lo b hb), fun b hb => Nat.lt_of_lt_of_le (h.hi b hb) h1⟩
theorem Fresh.sp {α : Type} {V : View α} {w w' : World} {fp : List Nat} {cs : List Value} {d : α} (h : Fresh V w w' fp cs d) : Sp w.heap.size w'.heap.size fp := ⟨h.nodup, h.lo, V.lt h.own⟩
/-- A begins B -/
def Pre (A B : Array Obj) : Prop := ∃ R, B = A ++ R
theorem Pre.refl (A : Array Obj) : Pre A A := ⟨#[], by simp⟩
theorem Pre.app {A B : Array Obj} (h : Pre A B) (R : Array Obj) : Pre A (B ++ R) := by
  obtain ⟨S, rfl⟩ := h
  exact ⟨S ++ R, by rw [Array.append_assoc]⟩
theorem World.ext_get_ge (w : World) (X : Ext) {k : Nat} (h : w.heap.size ≤ k) : (w.ext X).heap[k]? = X.bs[k - w.heap.size]? := by
  show (w.heap ++ X.bs)[k]? = _
  rw [Array.getElem?_append_right h]
/-- two worlds agree on the blocks from n on that the first has -/
theorem tail_agree {a b : World} {A B : Array Obj} {d d' : Nat} (hs : a.heap.size = b.heap.size) (hp : Pre A B) {k : Nat} (h1 : a.heap.size ≤ k) (h2 : k < (a.ext ⟨A, d⟩).heap.size) : (b.ext ⟨B, d'⟩).heap[k]? = (a.ext ⟨A, d⟩).heap[k]? := by
  obtain ⟨R, rfl⟩ := hp
  rw [World.ext_get_ge _ _ h1, World.ext_get_ge _ _ (by omega)]
  rw [World.ext_size] at h2
  simp only at h2 ⊢
  rw [Array.getElem?_append_left (by omega), hs]
theorem View.ownTail {α : Type} {V : View α} {a b : World} {A B : Array Obj} {d d' : Nat} {fp : List Nat} {cs : List Value} {x : α} (h : V.own (a.ext ⟨A, d⟩) fp cs x) (lo : ∀ k ∈ fp, a.heap.size ≤ k) (hs : a.heap.size = b.heap.size) (hp : Pre A B) :
    V.own (b.ext ⟨B, d'⟩) fp cs x :=
  V.frame h fun k hk => tail_agree hs hp (lo k hk) (V.lt h k hk)
theorem World.block_ext0 (w : World) (o : Obj) (X : Ext) : ((w.alloc o).ext X).heap[w.heap.size]? = some o := by
  rw [World.ext_get _ _ (by simp)]
  show (w.heap.push o)[w.heap.size]? = _
  simp
/-- the rows of a slice that a call owns -/
structure RowsOwn {α : Type} (V : View α) (w : World) (css : List (List Value)) (fps : List (List Nat)) (ds : List α) : Prop where
  cl : css.length = ds.length
  fl : fps.length = ds.length
  el : ∀ i (hi : i < ds.length) (hc : i < css.length) (hf : i < fps.length), V.own w fps[i] css[i] ds[i]
theorem RowsOwn.nil {α : Type} (V : View α) (w : World) : RowsOwn V w [] [] [] := ⟨rfl, rfl, fun i hi => absurd hi (by simp)⟩
theorem RowsOwn.snoc {α : Type} {V : View α} {w : World} {css : List (List Value)} {fps : List (List Nat)} {ds : List α} (h : RowsOwn V w css fps ds) {f : List Nat} {c : List Value} {d : α} (h' : V.own w f c d) : RowsOwn V w (css ++ [c]) (fps ++ [f]) (ds ++ [d]) := by
  obtain ⟨cl, fl, el⟩ := h
  refine ⟨by simp [cl], by simp [fl], fun i hi hc hf => ?_⟩
  simp only [List.length_append, List.length_singleton] at hi
  by_cases e : i < ds.length
  · rw [List.getElem_append_left (by omega), List.getElem_append_left (by omega), List.getElem_append_left e]
    exact el i e _ _
  · have : i = ds.length := by omega
    subst this
    rw [List.getElem_append_right (by omega), List.getElem_append_right (by omega), List.getElem_append_right (by omega)]
    simpa using h'
theorem RowsOwn.frame {α : Type} {V : View α} {w w' : World} {css : List (List Value)} {fps : List (List Nat)} {ds : List α} (h : RowsOwn V w css fps ds) (g : ∀ b ∈ fps.flatten, w'.heap[b]? = w.heap[b]?) : RowsOwn V w' css fps ds :=
  ⟨h.cl, h.fl, fun i hi hc hf => V.frame (h.el i hi hc hf) fun b hb => g b (List.mem_flatten.2 ⟨_, List.getElem_mem hf, hb⟩)⟩
theorem RowsOwn.lt {α : Type} {V : View α} {w : World} {css : List (List Value)} {fps : List (List Nat)} {ds : List α} (h : RowsOwn V w css fps ds) : ∀ b ∈ fps.flatten, b < w.heap.size := by
  intro b hb
  obtain ⟨l, hl, hbl⟩ := List.mem_flatten.1 hb
  obtain ⟨i, hi, rfl⟩ := List.getElem_of_mem hl
  exact V.lt (h.el i (by have := h.fl; omega) (by have := h.fl; have := h.cl; omega) hi) b hbl
theorem RowsOwn.tail {α : Type} {V : View α} {a b : World} {A B : Array Obj} {d d' : Nat} {css : List (List Value)} {fps : List (List Nat)} {ds : List α} (h : RowsOwn V (a.ext ⟨A, d⟩) css fps ds) (lo : ∀ k ∈ fps.flatten, a.heap.size ≤ k) (hs : a.heap.size = b.heap.size) (hp : Pre A B) :
    RowsOwn V (b.ext ⟨B, d'⟩) css fps ds := h.frame fun k hk => tail_agree hs hp (lo k hk) (h.lt k hk)
theorem vSlice.ownRows {α : Type} {V : View α} {e : TypeId} {w : World} {b cap n : Nat} {blk : Array Value} {ds : List α} {css : List (List Value)} {fps : List (List Nat)}
    (h : w.heap[b]? = some (.cells blk e (0, 0))) (hl : n = ds.length) (hn : n ≤ cap) (hm : cap ≤ maxLen) (hs : blk.size = cap * V.k) (ht : blk.toList.take (n * V.k) = css.flatten) (hr : RowsOwn V w css fps ds) :
    (vSlice V e).own w (b :: fps.flatten) [.slice (some ⟨b, 0, none⟩) n cap] ds := by
  subst hl
  exact .inr ⟨b, cap, blk, css, fps, rfl, h, hn, hm, hs, ht, rfl, hr.cl, hr.fl, hr.el⟩
end Go
namespace Go.Proofs.YtedgenmbdjadkaaGreatDoor
open Go.ChangeShapes Go.WideShapes Go.ChangeAt Go.RowKit

theorem quietE {P : Program} {f : FuncId} {args : Array Value} {w : World} {X : Ext} {n : Nat} {v : Value} (h : Calls P f args (w.ext ⟨X.bs, X.dr + n⟩) fun e w' => e = .returned v ∧ w' = w.ext ⟨X.bs, X.dr + n⟩) :
    Calls P f args (w.ext ⟨X.bs, X.dr + n⟩) fun e w'' => e = .returned v ∧ ∃ m, w'' = (w.ext X).drewN m := h.mono fun _ _ ⟨a, b⟩ => ⟨a, n, b⟩
def inB (n lo hi : Int) : Bool := decide (lo ≤ n) && decide (n ≤ hi)
theorem spec_l01In (n lo hi : Int) (w : World) :
    Calls Tryz.prog 36 #[.int .i64 n, .int .i64 lo, .int .i64 hi] w fun e w' => e = .returned (.bool (inB n lo hi)) ∧ w' = w := by
  by_cases h1 : lo ≤ n
  · by_cases h2 : n ≤ hi
    · have hq : inB n lo hi = true := by unfold inB; rw [decide_eq_true h1, decide_eq_true h2]; rfl
      rw [hq]
      clear hq
      go_enter Tryz.func36, Tryz.ntmps36
      go_wp2
      go_ret
      exact ⟨rfl, rfl⟩
    · have hq : inB n lo hi = false := by unfold inB; rw [decide_eq_true h1, decide_eq_false h2]; rfl
      rw [hq]
      clear hq
      go_enter Tryz.func36, Tryz.ntmps36
      go_wp2
      go_ret
      exact ⟨rfl, rfl⟩
  · have hq : inB n lo hi = false := by unfold inB; rw [decide_eq_false h1]; rfl
    rw [hq]
    clear hq
    go_enter Tryz.func36, Tryz.ntmps36
    go_wp2
    go_ret
    exact ⟨rfl, rfl⟩
theorem impl_within (n lo hi : Int) (w : World) :
    Calls Tryz.prog 38 #[.int .i64 n, .int .i64 lo, .int .i64 hi] w fun e w' => e = .returned (.bool (inB n lo hi)) ∧ w' = w := by
  by_cases h1 : lo ≤ n
  · by_cases h2 : n ≤ hi
    · have hq : inB n lo hi = true := by unfold inB; rw [decide_eq_true h1, decide_eq_true h2]; rfl
      rw [hq]
      clear hq
      go_enter Tryz.func38, Tryz.ntmps38
      go_wp2
      go_ret
      exact ⟨rfl, rfl⟩
    · have hq : inB n lo hi = false := by unfold inB; rw [decide_eq_true h1, decide_eq_false h2]; rfl
      rw [hq]
      clear hq
      go_enter Tryz.func38, Tryz.ntmps38
      go_wp2
      go_ret
      exact ⟨rfl, rfl⟩
  · have hq : inB n lo hi = false := by unfold inB; rw [decide_eq_false h1]; rfl
    rw [hq]
    clear hq
    go_enter Tryz.func38, Tryz.ntmps38
    go_wp2
    go_ret
    exact ⟨rfl, rfl⟩
end Go.Proofs.YtedgenmbdjadkaaGreatDoor
namespace Go
theorem Sx.refl (w : World) : Sx w w := ⟨⟨#[], w.drawn⟩, (World.ext_nil _ _ rfl).symm⟩
section
variable {P : Program} {ops : Array Oper} {Q : Exit → Act → World → Prop} {S : World → Prop} {n : Nat}

/-- j waits for i, in some steps -/
def reaches (ops : Array Oper) : Nat → Nat → Nat → Bool
  | 0, _, _ => false
  | f + 1, j, i => match ops[j]? with
    | none => false
    | some o => o.after.any fun e => Region.binds .any e && (e.on == i || reaches ops f e.on i)
def tailReach (ops : Array Oper) (n i : Nat) : Bool := (List.range ops.size).all fun j => decide (j < n) || reaches ops ops.size j i
/-- what is listed has its grounds listed -/
def Closed (ops : Array Oper) (listed : Array Bool) : Prop := ∀ k o, ops[k]? = some o → listed.getD k false = true → ∀ e ∈ o.after, Region.binds .any e = true → listed.getD e.on false = true
theorem reach_listed {listed : Array Bool} (hc : Closed ops listed) {i : Nat} : ∀ (f j : Nat) (o : Oper), ops[j]? = some o → (∀ e ∈ o.after, Region.binds .any e = true → listed.getD e.on false = true) → reaches ops f j i = true → listed.getD i false = true
  | 0, _, _, _, _, h => by simp [reaches] at h
  | f + 1, j, o, ho, hd, h => by
    simp only [reaches, ho] at h
    obtain ⟨e, he, hb⟩ := Array.any_eq_true'.1 h
    simp only [Bool.and_eq_true, Bool.or_eq_true, beq_iff_eq] at hb
    obtain ⟨hb1, hb2⟩ := hb
    have hl := hd e he hb1
    rcases hb2 with hb2 | hb2
    · rw [← hb2]; exact hl
    · cases ho2 : ops[e.on]? with
      | none =>
        cases f with
        | zero => simp [reaches] at hb2
        | succ f => simp [reaches, ho2] at hb2
      | some o2 => exact reach_listed hc f e.on o2 ho2 (hc e.on o2 ho2 hl) hb2
theorem closed_set {listed : Array Bool} (hc : Closed ops listed) {i : Nat} (hr : i ∈ Region.ready .any ops listed) : Closed ops (listed.setIfInBounds i true) := by
  obtain ⟨_, oi, hoi, hall⟩ := mem_ready.1 hr
  have keep : ∀ k, listed.getD k false = true → (listed.setIfInBounds i true).getD k false = true := fun k hk => getD_set_true hk
  intro k o ho hk e he hb
  by_cases hik : i = k
  · subst hik
    rw [hoi] at ho
    cases ho
    exact keep _ (hall e he hb)
  · rw [getD_set_ne false hik] at hk
    exact keep _ (hc k o ho hk e he hb)
theorem tailReach_spec {i j : Nat} {o : Oper} (h : tailReach ops n i = true) (hj : ops[j]? = some o) (hn : n ≤ j) : reaches ops ops.size j i = true := by
  have hlt : j < ops.size := (Array.getElem?_eq_some_iff.1 hj).1
  have h1 := List.all_eq_true.1 h j (List.mem_range.2 hlt)
  simp only [Bool.or_eq_true, decide_eq_true_eq] at h1
  rcases h1 with h1 | h1
  · omega
  · exact h1
theorem closed_none (ops : Array Oper) (m : Nat) : Closed ops (Array.replicate m false) := by
  intro k o _ h
  simp only [Array.getD_eq_getD_getElem?, Array.getElem?_replicate] at h
  split at h <;> simp at h
theorem wpAnyB_firstT {i : Nat} {oi : Oper} {v : Value} (hi : ops[i]? = some oi) (hs : Region.noSelect ops = true)
    (hQ : ∀ c a w, Q (.panic c) (a.put oi.dst v) w → Q (.panic c) a w) (ht : tailReach ops n i = true) :
    ∀ (fuel : Nat) (listed : Array Bool) (a : Act) (w : World), Closed ops listed →
      (∀ j oj, ops[j]? = some oj → j ≠ i → listed.getD j true = false → (∀ e ∈ oj.after, Region.binds .any e = true → e.on ≠ i) → oi.apart ops oj = true) →
      i ∈ Region.ready .any ops listed → YieldsQ P ops S oi v a → S w →
      wpAnyB P ops Q S n fuel (listed.setIfInBounds i true) (a.put oi.dst v) w → wpAnyB P ops Q S n (fuel + 1) listed a w := by
  have hsel := Region.noSelect_spec hs
  intro fuel
  induction fuel with
  | zero =>
    intro listed a w _ _ hr hy hS H
    refine ⟨fun h => (by rw [h] at hr; cases hr), fun j hj => ?_⟩
    by_cases hji : j = i
    · subst hji; exact hy.wpOp hi hS ⟨fun _ => hS, H⟩
    · have := ready_mono hj hji
      rw [H.1] at this
      cases this
  | succ fuel ih =>
    intro listed a w hcl hfree hr hy hS H
    refine ⟨fun h => (by rw [h] at hr; cases hr), fun j hj => ?_⟩
    by_cases hji : j = i
    · subst hji; exact hy.wpOp hi hS ⟨fun _ => hS, H⟩
    · have h1 := H.2 j (ready_mono hj hji)
      obtain ⟨hjun, oj, hoj, hall⟩ := mem_ready.1 hj
      have hnot : ∀ e ∈ oj.after, Region.binds .any e = true → e.on ≠ i := fun e he hb heq =>
        unlisted_not (mem_ready.1 hr).1 (heq ▸ hall e he hb)
      have hjn : j < n := by
        rcases Nat.lt_or_ge j n with h | h
        · exact h
        · exact (unlisted_not (mem_ready.1 hr).1 (reach_listed hcl _ j oj hoj hall (tailReach_spec ht hoj h))).elim
      have h2 := wpOp_putQ hoj (hfree j oj hoj hji hjun hnot) (fun cs b => hsel i oi cs b hi) (fun cs b => hsel j oj cs b hoj) hQ hy h1
      have hfree' : ∀ k ok, ops[k]? = some ok → k ≠ i → (listed.setIfInBounds j true).getD k true = false →
          (∀ e ∈ ok.after, Region.binds .any e = true → e.on ≠ i) → oi.apart ops ok = true := fun k ok hk hki hun hno => by
        refine hfree k ok hk hki ?_ hno
        by_cases hjk : j = k
        · subst hjk; exact hjun
        · rw [getD_set_ne true hjk] at hun; exact hun
      refine wpOp_mono (fun a' w' h3 => ⟨fun _ => h3.2.1 hjn, ih (listed.setIfInBounds j true) a' w' (closed_set hcl hj) hfree' (ready_mono hr (Ne.symm hji)) h3.1 (h3.2.1 hjn) ?_⟩) h2
      rw [Array.setIfInBounds_comm _ _ hji]
      exact h3.2.2

def ordOkT (ops : Array Oper) (n : Nat) : List (Nat × Bool) → Array Bool → Bool
  | [], listed => (Region.ready .any ops listed).isEmpty
  | (i, true) :: r, listed => decide (i < n) && (Region.ready .any ops listed).contains i && Region.free .any ops listed i && tailReach ops n i && ordOkT ops n r (listed.setIfInBounds i true)
  | (i, false) :: r, listed => (decide (i < n) || r.all fun x => decide (n ≤ x.1)) && (match Region.ready .any ops listed with | [j] => j == i | _ => false) && ordOkT ops n r (listed.setIfInBounds i true)

theorem wpAnyB_of_ordT {ι : Type} {F : ι → World} (hs : Region.noSelect ops = true) (hQ : ∀ c (a : Act) (d : Option Tmp) (v : Value) w, Q (.panic c) (a.put d v) w → Q (.panic c) a w) :
    ∀ (ord : List (Nat × Bool)) (listed : Array Bool) (a : Act) (w : World), Closed ops listed → ordOkT ops n ord listed = true → ((∃ x ∈ ord, x.1 < n) → Sf F w) → wpOrd P ops Q F n ord a w →
      wpAnyB P ops Q (Sf F) n ord.length listed a w
  | [], listed, a, w, _, hok, _, h => by
    simp only [ordOkT, List.isEmpty_iff] at hok
    exact ⟨hok, h⟩
  | (i, true) :: r, listed, a, w, hcl, hok, hS, h => by
    simp only [ordOkT, Bool.and_eq_true, decide_eq_true_eq] at hok
    obtain ⟨⟨⟨⟨hin, hr⟩, hf⟩, ht⟩, hok⟩ := hok
    have hw := hS ⟨(i, true), by simp, hin⟩
    simp only [wpOrd] at h
    cases ho : ops[i]? with
    | none => simp [ho] at h
    | some o =>
      simp only [ho] at h
      have again := fun a' h' => wpAnyB_of_ordT hs hQ r (listed.setIfInBounds i true) a' w (closed_set hcl (by simpa using hr)) hok (fun _ => hw) h'
      by_cases hwt : Region.wanted o (yielded ops a.tmps) = true
      · simp only [hwt, if_true] at h
        obtain ⟨v, hv, hk⟩ := h
        exact wpAnyB_firstT ho hs (fun c a w => hQ c a _ _ w) ht _ listed a w hcl (Region.free_spec ho hf) (by simpa using hr)
          (Or.inl ⟨hwt, fun w' hw' => by obtain ⟨X, rfl⟩ := hw'; exact hv X⟩) hw (again _ hk)
      · have hwt' : Region.wanted o (yielded ops a.tmps) = false := by simpa using hwt
        simp only [hwt', Bool.false_eq_true, if_false] at h
        exact wpAnyB_firstT ho hs (fun c a w => hQ c a _ _ w) ht _ listed a w hcl (Region.free_spec ho hf) (by simpa using hr)
          (Or.inr ⟨hwt', rfl⟩) hw (again _ h)
  | (i, false) :: r, listed, a, w, hcl, hok, hS, h => by
    simp only [ordOkT, Bool.and_eq_true, Bool.or_eq_true, decide_eq_true_eq] at hok
    obtain ⟨⟨hin, hr⟩, hok⟩ := hok
    have hr' : Region.ready .any ops listed = [i] := by
      split at hr
      · rename_i j hj; rw [hj]; simp at hr; rw [hr]
      · cases hr
    refine ⟨fun h0 => (by rw [h0] at hr'; cases hr'), fun j hj => ?_⟩
    rw [hr', List.mem_singleton] at hj
    subst hj
    simp only [wpOrd] at h
    cases ho : ops[j]? with
    | none => simp [ho] at h
    | some o =>
      simp only [ho] at h
      unfold wpOp
      simp only [ho]
      have again := fun (a' : Act) (w' : World) (hw' : (∃ x ∈ r, x.1 < n) → Sf F w') h' => wpAnyB_of_ordT (F := F) hs hQ r (listed.setIfInBounds j true) a' w' (closed_set hcl (by rw [hr']; simp)) hok hw' h'
      have later : (∃ x ∈ r, x.1 < n) → j < n := fun ⟨x, hx, hxn⟩ => by
        rcases hin with h1 | h1
        · exact h1
        · have := List.all_eq_true.1 h1 x hx
          simp only [decide_eq_true_eq] at this
          omega
      by_cases hwt : Region.wanted o (yielded ops a.tmps) = true
      · simp only [hwt, if_true] at h ⊢
        exact Or.inl (Oper.wp_mono (fun a' w' h' => ⟨h'.1, again a' w' (fun hx => h'.1 (later hx)) h'.2⟩) h)
      · have hwt' : Region.wanted o (yielded ops a.tmps) = false := by simpa using hwt
        simp only [hwt', Bool.false_eq_true, if_false] at h ⊢
        exact ⟨fun hj => hS ⟨(j, false), by simp, hj⟩, again _ _ (fun hx => hS ⟨(j, false), by simp, later hx⟩) h⟩

theorem wp_region_ordTF {ι : Type} (F : ι → World) {id : Nat} {l : List Oper} {a : Act} {w : World} (ord : List (Nat × Bool)) (n : Nat) (hm : P.follows .mixedOrders = true)
    (hok : (ordOkT l.toArray n ord (Array.replicate l.toArray.size false) && Region.noSelect l.toArray && ord.length == l.toArray.size) = true)
    (h0 : Sf F w.drew) (h : wpOrd P l.toArray (NoPan Q) F n ord a w.drew) : (Code.region id l.toArray true).wp P Q a w := by
  simp only [Bool.and_eq_true, beq_iff_eq] at hok
  have h1 : (Code.region id l.toArray true).wp P (NoPan Q) a w := by
    refine wp_region_any hm ?_
    rw [← hok.2]
    exact wpAny_of_B _ _ _ _ (wpAnyB_of_ordT hok.1.2 (fun _ _ _ _ _ h => h) ord _ a _ (closed_none _ _) (hok.2 ▸ hok.1.1) (fun _ => h0) h)
  exact Code.wp_mono (fun e a w h => by cases e <;> first | exact h | exact h.elim) h1

theorem wp_region_ordT {id : Nat} {l : List Oper} {a : Act} {w : World} (ord : List (Nat × Bool)) (n : Nat) (hm : P.follows .mixedOrders = true)
    (hok : (ordOkT l.toArray n ord (Array.replicate l.toArray.size false) && Region.noSelect l.toArray && ord.length == l.toArray.size) = true)
    (h : wpOrd P l.toArray (NoPan Q) (fun X => w.ext X) n ord a w.drew) : (Code.region id l.toArray true).wp P Q a w := wp_region_ordTF (fun X => w.ext X) ord n hm hok (Sx.drew w) h

end
end Go
namespace Go.Proofs.YtedgenmbdjadkaaGreatDoor
open Go.ChangeShapes Go.WideShapes Go.ChangeAt Go.RowKit

theorem Tryz.byteT : ByteT Tryz.prog 28 5 := ByteT.of Tryz.underlying28 Tryz.underlying5 (by kernel_rfl)
def strOf (l : List UInt8) : ByteArray := ⟨l.toArray⟩
theorem strOf_size (l : List UInt8) : (strOf l).size = l.length := by unfold strOf; show l.toArray.size = _; simp
theorem strOf_list (l : List UInt8) : (strOf l).data.toList = l := by simp [strOf]
def hexT (s : ByteArray) : ByteArray := if s.size ≤ 20000 then strOf (Lib.Hx.encode s.data.toList) else ⟨#[]⟩
theorem hexT_size (s : ByteArray) : (hexT s).size ≤ 40000 := by
  unfold hexT
  split
  · rw [strOf_size, Lib.Hx.encode_length]
    have : s.data.toList.length = s.size := by simp
    omega
  · decide
theorem digit_lo {x : Nat} (h : x < 10) : Lib.Hx.digit x = UInt8.ofNat (48 + x) := by
  match x, h with
  | 0, _ | 1, _ | 2, _ | 3, _ | 4, _ | 5, _ | 6, _ | 7, _ | 8, _ | 9, _ => rfl
theorem digit_hi {x : Nat} (h : 10 ≤ x) (h2 : x < 16) : Lib.Hx.digit x = UInt8.ofNat (87 + x) := by
  rcases (by omega : x = 10 ∨ x = 11 ∨ x = 12 ∨ x = 13 ∨ x = 14 ∨ x = 15) with rfl | rfl | rfl | rfl | rfl | rfl <;> rfl
theorem alloc_newA' (w : World) (cs : Array Value) (t : TypeId) {b : Nat} (hb : b = w.heap.size) : (w.alloc (.cells cs t)).heap[b]? = some (.cells cs t (0, 0)) := by
  subst hb
  exact heap_alloc_new w _
theorem spec_l01Figure (x : Int) (w : World) (h0 : 0 ≤ x) (h1 : x < 16) :
    Calls Tryz.prog 82 #[.int .i64 x] w fun e w' => e = .returned (.int .u8 ((Lib.Hx.digit x.toNat).toNat : Int)) ∧ w = w' := by
  go_enter Tryz.func82, Tryz.ntmps82
  go_wp2
  all_goals go_ret
  · refine ⟨ret_int ?_, rfl⟩
    rw [digit_lo (by omega)]
    simp
    omega
  · refine ⟨ret_int ?_, rfl⟩
    rw [digit_hi (by omega) (by omega)]
    simp
    omega
theorem enc_snoc (l : List UInt8) (c : UInt8) : Lib.Hx.encode (l ++ [c]) = Lib.Hx.encode l ++ [Lib.Hx.digit (c.toNat / 16), Lib.Hx.digit (c.toNat % 16)] := by
  simp [Lib.Hx.encode, List.flatMap_append]
set_option maxRecDepth 100000 in
set_option maxHeartbeats 2000000 in
theorem spec_Hex (s : ByteArray) (w : World) (hs : s.size ≤ 9223372036854775807) :
    Calls Tryz.prog 49 #[.string s] w fun e w' => e = .returned (.tuple #[.string (hexT s), .bool (decide (s.size ≤ 20000))]) ∧ Below w.heap.size w w' := by
  go_enter Tryz.func49, Tryz.ntmps49
  by_cases hb : (20000 : Int) < s.size
  · go_wp2
    refine bodyPost_ret (by simp [results, Tryz.results49, go_sem]; rfl) rfl ?_
    refine ⟨?_, (by repeat (first | with_reducible exact Below.refl _ _ | with_reducible apply Below.ofExt | with_reducible apply Below.ofAlloc | with_reducible apply Below.drew | with_reducible apply Below.ofDrewN | with_reducible assumption | (with_reducible refine Below.setCell ?_ (by first | exact Nat.le_refl _ | (simp [go_sem]; done) | (simp [go_sem]; omega)) _)))⟩
    unfold hexT
    rw [if_neg (by omega), decide_eq_false (by omega)]
  go_wp2
  go_loopw [4, 5] (fun o k wr => ∃ (n : Nat), k = .int .i64 n ∧ n ≤ s.size ∧ Below w.heap.size w wr ∧ OwnB 5 wr w.heap.size o (Lib.Hx.encode (s.data.toList.take n))) (fun _ k _ => s.size - (intOf k).toNat)
  case atStart => exact ⟨0, rfl, by omega, (by repeat (first | with_reducible exact Below.refl _ _ | with_reducible apply Below.ofExt | with_reducible apply Below.ofAlloc | with_reducible apply Below.drew | with_reducible apply Below.ofDrewN | with_reducible assumption | (with_reducible refine Below.setCell ?_ (by first | exact Nat.le_refl _ | (simp [go_sem]; done) | (simp [go_sem]; omega)) _))), OwnB.empty _ _⟩
  case round =>
    obtain ⟨n, rfl, hn, hbel, ho⟩ := hrel
    obtain ⟨X, rfl⟩ := hbel.ext
    by_cases hlt : (n : Int) < s.size
    case pos =>
      have hk : n < s.size := by omega
      have hc1 : (s[n].toNat : Int) ≤ 255 := by have := s[n].toNat_lt; omega
      have hc0 : 0 ≤ (s[n].toNat : Int) := by omega
      have hst := enc_snoc (s.data.toList.take n) s[n]
      rw [← take_snoc s n hk] at hst
      have htm : ((s[n].toNat : Int)).tmod 16 = (s[n].toNat : Int) % 16 := Int.tmod_eq_emod_of_nonneg (by omega)
      have HTM := Lib.hid htm
      clear htm
      have HST := Lib.hid hst
      have hlen : (Lib.Hx.encode (s.data.toList.take n)).length ≤ 40000 := by rw [Lib.Hx.encode_length]; simp; omega
      have HLN := Lib.hid hlen
      clear hst hlen
      generalize Lib.Hx.encode (s.data.toList.take n) = l at *
      obtain ⟨oa, oc, rfl⟩ := ho.form
      have HO := Lib.hid ho
      clear ho
      go_wp2
      refine wp_region_ordT [(0,true),(1,true),(2,true),(3,true),(4,true),(5,true),(7,true),(8,true),(9,true),(10,true),(11,true),(6,false),(12,false),(13,false),(14,false),(15,false)] 14 (by kernel_rfl) (by kernel_rfl) ?_
      repeat (refine wpOrd_quiet rfl (fun K hK => ?_); go_simp; (try simp (disch := omega) only [IntWalk.i64_in]); refine hK _ ?_; clear hK K)
      rw [HTM.out]
      refine wpOrd_grow rfl (fun K hK => ?_); go_simp; go_at_call 82; refine (spec_l01Figure _ _ (by omega) (by omega)).mono ?_; rintro e w' ⟨rfl, rfl⟩; try go_simp; refine hK _ _ (by show Sx _ _; (try simp only [← Array.append_assoc]); repeat (first | with_reducible exact Sx.drew _ | with_reducible exact Sx.same _ _ _ _ | with_reducible exact ⟨_, rfl⟩ | with_reducible apply Sx.more | with_reducible apply Sx.ext | with_reducible apply Sx.alloc | with_reducible apply Sx.draw | with_reducible exact Sx.refl _)) ?_; clear hK K
      refine wpOrd_grow rfl (fun K hK => ?_); go_simp; go_at_call 82; refine (spec_l01Figure _ _ (by omega) (by omega)).mono ?_; rintro e w' ⟨rfl, rfl⟩; try go_simp; refine hK _ _ (by show Sx _ _; (try simp only [← Array.append_assoc]); repeat (first | with_reducible exact Sx.drew _ | with_reducible exact Sx.same _ _ _ _ | with_reducible exact ⟨_, rfl⟩ | with_reducible apply Sx.more | with_reducible apply Sx.ext | with_reducible apply Sx.alloc | with_reducible apply Sx.draw | with_reducible exact Sx.refl _)) ?_; clear hK K
      refine wpOrd_grow rfl (fun K hK => ?_); go_simp; refine hK _ _ (by show Sx _ _; (try simp only [← Array.append_assoc]); repeat (first | with_reducible exact Sx.drew _ | with_reducible exact Sx.same _ _ _ _ | with_reducible exact ⟨_, rfl⟩ | with_reducible apply Sx.more | with_reducible apply Sx.ext | with_reducible apply Sx.alloc | with_reducible apply Sx.draw | with_reducible exact Sx.refl _)) ?_; clear hK K
      refine wpOrd_tail rfl rfl (fun K hK => ?_)
      rw [if_pos (by rfl)]
      refine wp_appB _ Tryz.byteT (.tmp 16) (.tmp 29) rfl (B := w.heap.size) (l := l) (m := [Lib.Hx.digit (s[n].toNat / 16), Lib.Hx.digit (s[n].toNat % 16)]) ((OwnB.same HO.out).alloc _) rfl (vx := .slice (some ⟨w.heap.size + X.bs.size, 0, none⟩) 2 2) ?_ rfl (by have := HLN.out; simp; omega) (by simp [World.ext_size]; omega) ?_
      · refine Sl.of_block (t := 5) (f := (0, 0)) (alloc_newA' _ _ _ (by simp [World.ext_size])) (by decide)
      intro v4 w4 hown4 hgr4
      refine hK _ _ ?_
      clear hK K
      have hb4 : Below w.heap.size w w4 := Below.appB (by repeat (first | with_reducible exact Below.refl _ _ | with_reducible apply Below.ofExt | with_reducible apply Below.ofAlloc | with_reducible apply Below.drew | with_reducible apply Below.ofDrewN | with_reducible assumption | (with_reducible refine Below.setCell ?_ (by first | exact Nat.le_refl _ | (simp [go_sem]; done) | (simp [go_sem]; omega)) _))) hgr4 ((OwnB.same HO.out).alloc _)
      repeat (refine wpOrd_tail rfl rfl (fun K hK => ?_); go_simp; refine hK _ _ ?_; clear hK K)
      refine wpOrd_nil ?_
      go_wp2
      go_roundw
      case rel => exact ⟨n + 1, by go_num, by omega, hb4, by rw [HST.out]; exact hown4⟩
      case measure => simp [intOf]; omega
    case neg =>
      have e : n = s.size := by omega
      subst e
      rw [List.take_of_length_le (by simp)] at ho
      have hr := run_string_of (P := Tryz.prog) (w.ext X) Tryz.byteT Tryz.underlying9 ho.sl
      obtain ⟨oa, oc, rfl⟩ := ho.form
      clear ho
      go_wp2
      refine bodyPost_ret (by simp [results, Tryz.results49, go_sem]; rfl) rfl ?_
      refine ⟨?_, (by repeat (first | with_reducible exact Below.refl _ _ | with_reducible apply Below.ofExt | with_reducible apply Below.ofAlloc | with_reducible apply Below.drew | with_reducible apply Below.ofDrewN | with_reducible assumption | (with_reducible refine Below.setCell ?_ (by first | exact Nat.le_refl _ | (simp [go_sem]; done) | (simp [go_sem]; omega)) _)))⟩
      unfold hexT
      rw [if_pos (by omega), decide_eq_true (by omega)]
      rfl
theorem conv_1 (w : World) (c : UInt8) (x : Int) (hx : x = (c.toNat : Int)) (b : Nat) (hb : b = w.heap.size) :
    Sem.run Tryz.prog (convert 28 9 (.slice (some ⟨b, 0, none⟩) 1 1)) (w.alloc (.cells #[.int .u8 x] 5)) = .ok (.string ⟨#[c]⟩) (w.alloc (.cells #[.int .u8 x] 5)) := by
  subst hb hx
  refine run_convert_bytes_back (w := w.alloc (.cells #[.int .u8 (c.toNat : Int)] 5)) (P := Tryz.prog) 28 9 5 ⟨w.heap.size, 0, none⟩ 1 [c] Tryz.underlying28 Tryz.underlying5 Tryz.underlying9 ?_
  intro j hj
  have : j = 0 := by simpa using hj
  subst this
  show (w.alloc _).cell? ⟨w.heap.size, 0, none⟩ = _
  simp [go_sem]
def dec0 (m : Nat) : List UInt8 := if m = 0 then [] else Lib.decDigits m
theorem dec0_step {m : Nat} (h : m ≠ 0) : dec0 m = dec0 (m / 10) ++ [Lib.Hx.digit (m % 10)] := by
  unfold dec0
  rw [if_neg h, Lib.decDigits]
  split
  · rename_i h1
    rw [if_pos (by omega), Nat.mod_eq_of_lt h1, digit_lo h1]
    rfl
  · rw [if_neg (by omega), digit_lo (by omega)]
theorem dec0_len : ∀ (m : Nat), (dec0 m).length ≤ m / 2 + 1 := by
  intro m
  induction m using Nat.strongRecOn with
  | ind m ih =>
    by_cases h : m = 0
    · subst h; simp [dec0]
    · rw [dec0_step h, List.length_append]
      by_cases h2 : m < 10
      · rw [show m / 10 = 0 by omega]
        simp [dec0]
      · have := ih (m / 10) (by omega)
        simp
        omega
theorem decD_len (m : Nat) : (Lib.decDigits m).length ≤ m / 2 + 1 := by
  by_cases h : m = 0
  · subst h
    rw [Lib.decDigits, dif_pos (by decide)]
    simp
  · have := dec0_len m
    unfold dec0 at this
    rwa [if_neg h] at this
theorem strOf_cons (c : UInt8) (l : List UInt8) : (⟨#[c]⟩ : ByteArray) ++ strOf l = strOf (c :: l) := by
  apply ByteArray.ext
  simp [strOf, ByteArray.data_append]
theorem itoa_zero : Lib.itoa 0 = [48] := by
  unfold Lib.itoa
  rw [if_neg (by decide), Lib.decDigits, dif_pos (by decide)]
  rfl
set_option maxRecDepth 100000 in
set_option maxHeartbeats 2000000 in
theorem spec_Decimal (n : Int) (w : World) (h0 : -9223372036854775808 ≤ n) (h1 : n ≤ 9223372036854775807) :
    Calls Tryz.prog 47 #[.int .i64 n] w fun e w' => e = .returned (.string (strOf (Lib.itoa n))) ∧ Below w.heap.size w w' := by
  go_enter Tryz.func47, Tryz.ntmps47
  by_cases hz : n = 0
  · subst hz
    go_wp2
    go_ret
    refine ⟨?_, (by repeat (first | with_reducible exact Below.refl _ _ | with_reducible apply Below.ofExt | with_reducible apply Below.ofAlloc | with_reducible apply Below.drew | with_reducible apply Below.ofDrewN | with_reducible assumption | (with_reducible refine Below.setCell ?_ (by first | exact Nat.le_refl _ | (simp [go_sem]; done) | (simp [go_sem]; omega)) _)))⟩
    rw [itoa_zero]
    rfl
  have hzb : (n == 0) = false := by simpa using hz
  by_cases hn : n < 0
  · have hi : Lib.itoa n = 45 :: Lib.decDigits n.natAbs := by unfold Lib.itoa; rw [if_pos hn]
    obtain ⟨N, hN⟩ : ∃ N : Nat, n = -(N : Int) := ⟨n.natAbs, by omega⟩
    subst hN
    rw [show (-(N : Int)).natAbs = N by omega] at hi
    have HI := Lib.hid hi
    clear hi
    go_wp2
    go_loopw [0, 4] (fun k o wr => ∃ (m : Nat) (l : List UInt8), k = .int .i64 (-(m : Int)) ∧ m ≤ 9223372036854775808 ∧ o = .string (strOf l) ∧ dec0 m ++ l = Lib.decDigits N ∧ Below w.heap.size w wr) (fun k _ _ => (intOf k).natAbs)
    case atStart => exact ⟨N, [], rfl, by omega, rfl, by simp [dec0]; omega, (by repeat (first | with_reducible exact Below.refl _ _ | with_reducible apply Below.ofExt | with_reducible apply Below.ofAlloc | with_reducible apply Below.drew | with_reducible apply Below.ofDrewN | with_reducible assumption | (with_reducible refine Below.setCell ?_ (by first | exact Nat.le_refl _ | (simp [go_sem]; done) | (simp [go_sem]; omega)) _)))⟩
    case round =>
      obtain ⟨m, l, rfl, hm, rfl, hd, hbel⟩ := hrel
      obtain ⟨X, rfl⟩ := hbel.ext
      have hll : (strOf l).size ≤ 4611686018427387910 := by
        have := decD_len N
        rw [← hd, List.length_append] at this
        rw [strOf_size]
        omega
      have HD := Lib.hid hd
      clear hd
      by_cases hmz : m = 0
      · subst hmz
        rw [show (-((0 : Nat) : Int)) = 0 from rfl]
        go_wp2
        go_ret
        refine ⟨?_, (by repeat (first | with_reducible exact Below.refl _ _ | with_reducible apply Below.ofExt | with_reducible apply Below.ofAlloc | with_reducible apply Below.drew | with_reducible apply Below.ofDrewN | with_reducible assumption | (with_reducible refine Below.setCell ?_ (by first | exact Nat.le_refl _ | (simp [go_sem]; done) | (simp [go_sem]; omega)) _)))⟩
        have := HD.out
        simp only [dec0, if_true, List.nil_append] at this
        rw [HI.out, ← this, ← strOf_cons]
        rfl
      · have hst := dec0_step hmz
        have HST := Lib.hid hst
        clear hst
        have hrel2 : dec0 (m / 10) ++ (Lib.Hx.digit (m % 10) :: l) = Lib.decDigits N := by
          rw [← HD.out, HST.out, List.append_assoc]
          rfl
        have HR := Lib.hid hrel2
        clear hrel2
        by_cases hd0 : m % 10 = 0
        · have hdi : (m : Int) % 10 = 0 := by omega
          have hk := conv_1 (w.ext X) (Lib.Hx.digit (m % 10)) 48 (by rw [hd0]; rfl) (w.heap.size + X.bs.size) (by rw [World.ext_size])
          rw [hd0] at hk HR
          go_wp2
          go_roundw
          case rel => exact ⟨m / 10, _, by go_num, by omega, by rw [strOf_cons], HR.out, (by repeat (first | with_reducible exact Below.refl _ _ | with_reducible apply Below.ofExt | with_reducible apply Below.ofAlloc | with_reducible apply Below.drew | with_reducible apply Below.ofDrewN | with_reducible assumption | (with_reducible refine Below.setCell ?_ (by first | exact Nat.le_refl _ | (simp [go_sem]; done) | (simp [go_sem]; omega)) _)))⟩
          case measure => simp [intOf]; omega
        · have hk := conv_1 (w.ext X) (Lib.Hx.digit (m % 10)) (48 + (m : Int) % 10) (by rw [digit_lo (by omega)]; simp; omega) (w.heap.size + X.bs.size) (by rw [World.ext_size])
          have hpos : 0 < (m : Int) % 10 := by omega
          have HD0 := Lib.hid hd0
          clear hd0
          go_wp2
          go_roundw
          case rel => exact ⟨m / 10, _, by go_num, by omega, by rw [strOf_cons], HR.out, (by repeat (first | with_reducible exact Below.refl _ _ | with_reducible apply Below.ofExt | with_reducible apply Below.ofAlloc | with_reducible apply Below.drew | with_reducible apply Below.ofDrewN | with_reducible assumption | (with_reducible refine Below.setCell ?_ (by first | exact Nat.le_refl _ | (simp [go_sem]; done) | (simp [go_sem]; omega)) _)))⟩
          case measure => simp [intOf]; omega
  · have hi : Lib.itoa n = Lib.decDigits n.toNat := by unfold Lib.itoa; rw [if_neg hn]
    obtain ⟨N, hN⟩ : ∃ N : Nat, n = (N : Int) := ⟨n.toNat, by omega⟩
    subst hN
    rw [Int.toNat_natCast] at hi
    have HI := Lib.hid hi
    clear hi
    go_wp2
    go_loopw [0, 4] (fun k o wr => ∃ (m : Nat) (l : List UInt8), k = .int .i64 (m : Int) ∧ m ≤ 9223372036854775808 ∧ o = .string (strOf l) ∧ dec0 m ++ l = Lib.decDigits N ∧ Below w.heap.size w wr) (fun k _ _ => (intOf k).natAbs)
    case atStart => exact ⟨N, [], rfl, by omega, rfl, by simp [dec0]; omega, (by repeat (first | with_reducible exact Below.refl _ _ | with_reducible apply Below.ofExt | with_reducible apply Below.ofAlloc | with_reducible apply Below.drew | with_reducible apply Below.ofDrewN | with_reducible assumption | (with_reducible refine Below.setCell ?_ (by first | exact Nat.le_refl _ | (simp [go_sem]; done) | (simp [go_sem]; omega)) _)))⟩
    case round =>
      obtain ⟨m, l, rfl, hm, rfl, hd, hbel⟩ := hrel
      obtain ⟨X, rfl⟩ := hbel.ext
      have hll : (strOf l).size ≤ 4611686018427387910 := by
        have := decD_len N
        rw [← hd, List.length_append] at this
        rw [strOf_size]
        omega
      have HD := Lib.hid hd
      clear hd
      by_cases hmz : m = 0
      · subst hmz
        rw [show ((0 : Nat) : Int) = 0 from rfl]
        go_wp2
        go_ret
        refine ⟨?_, (by repeat (first | with_reducible exact Below.refl _ _ | with_reducible apply Below.ofExt | with_reducible apply Below.ofAlloc | with_reducible apply Below.drew | with_reducible apply Below.ofDrewN | with_reducible assumption | (with_reducible refine Below.setCell ?_ (by first | exact Nat.le_refl _ | (simp [go_sem]; done) | (simp [go_sem]; omega)) _)))⟩
        have := HD.out
        simp only [dec0, if_true, List.nil_append] at this
        rw [HI.out, ← this]
        rfl
      · have hst := dec0_step hmz
        have HST := Lib.hid hst
        clear hst
        have hrel2 : dec0 (m / 10) ++ (Lib.Hx.digit (m % 10) :: l) = Lib.decDigits N := by
          rw [← HD.out, HST.out, List.append_assoc]
          rfl
        have HR := Lib.hid hrel2
        clear hrel2
        have hk := conv_1 (w.ext X) (Lib.Hx.digit (m % 10)) (48 + (m : Int) % 10) (by rw [digit_lo (by omega)]; simp; omega) (w.heap.size + X.bs.size) (by rw [World.ext_size])
        go_wp2
        go_roundw
        case rel => exact ⟨m / 10, _, by go_num, by omega, by rw [strOf_cons], HR.out, (by repeat (first | with_reducible exact Below.refl _ _ | with_reducible apply Below.ofExt | with_reducible apply Below.ofAlloc | with_reducible apply Below.drew | with_reducible apply Below.ofDrewN | with_reducible assumption | (with_reducible refine Below.setCell ?_ (by first | exact Nat.le_refl _ | (simp [go_sem]; done) | (simp [go_sem]; omega)) _)))⟩
        case measure => simp [intOf]; omega
theorem conv_bytes (w : World) (s : ByteArray) (hs : s.size ≤ 9223372036854775807) :
    ∃ v w1, Sem.run Tryz.prog (convert 9 28 (.string s)) w = .ok v w1 ∧ OwnB 5 w1 w.heap.size v s.data.toList ∧ Below w.heap.size w w1 := by
  refine ⟨_, _, run_bytes_of_string w 9 28 5 s Tryz.underlying9 Tryz.underlying28 Tryz.underlying5, OwnB.ofString 5 w s hs, ?_⟩
  exact (Below.refl _ _).drew.alloc (Nat.le_refl _) _
theorem Sl.lit1 (w : World) (c : UInt8) (x : Int) (hx : x = (c.toNat : Int)) (t : TypeId) (b : Nat) (hb : b = w.heap.size) : Sl (w.alloc (.cells #[.int .u8 x] t)) (.slice (some ⟨b, 0, none⟩) 1 1) ([c] : List UInt8).length (bytesOf [c]) := by
  subst hx
  exact Sl.of_block (t := t) (f := (0, 0)) (alloc_newA' _ _ _ hb) (by decide)
end Go.Proofs.YtedgenmbdjadkaaGreatDoor
namespace Go
open Go.RowKit
/-- w' is w, grown, but for the blocks of fp -/
structure Upon (fp : List Nat) (w w' : World) : Prop where
  os : w'.os = w.os
  tape : w'.tape = w.tape
  output : w'.output = w.output
  size : w.heap.size ≤ w'.heap.size
  block : ∀ b, b < w.heap.size → b ∉ fp → w'.heap[b]? = w.heap[b]?
theorem Upon.refl (fp : List Nat) (w : World) : Upon fp w w := ⟨rfl, rfl, rfl, Nat.le_refl _, fun _ _ _ => rfl⟩
theorem Upon.trans {fp : List Nat} {a b c : World} (h : Upon fp a b) (h' : Upon fp b c) : Upon fp a c :=
  ⟨h'.os.trans h.os, h'.tape.trans h.tape, h'.output.trans h.output, Nat.le_trans h.size h'.size, fun k hk hn => (h'.block k (Nat.lt_of_lt_of_le hk h.size) hn).trans (h.block k hk hn)⟩
theorem Upon.mono {fp fp' : List Nat} {a b : World} (h : Upon fp a b) (hs : ∀ x ∈ fp, x ∈ fp') : Upon fp' a b :=
  ⟨h.os, h.tape, h.output, h.size, fun k hk hn => h.block k hk (fun hx => hn (hs k hx))⟩
theorem Upon.below {fp : List Nat} {a b : World} (h : Below a.heap.size a b) : Upon fp a b := ⟨h.os, h.tape, h.output, h.size, fun k hk _ => h.block k hk⟩
theorem Upon.toBelow {fp : List Nat} {B : Nat} {a b : World} (h : Upon fp a b) (hB : B ≤ a.heap.size) (hf : ∀ x ∈ fp, B ≤ x) : Below B a b :=
  ⟨h.os, h.tape, h.output, h.size, fun k hk => h.block k (Nat.lt_of_lt_of_le hk hB) (fun hx => absurd (hf k hx) (by omega))⟩
theorem Upon.setB {fp : List Nat} (w : World) {b : Nat} (o : Obj) (hb : b ∈ fp) : Upon fp w (w.setB b o) :=
  ⟨rfl, rfl, rfl, by rw [World.setB_size]; exact Nat.le_refl _, fun k _ hn => World.setB_get w b o k (fun e => hn (e ▸ hb))⟩
theorem Upon.setBExt {fp : List Nat} (w : World) {b : Nat} (o : Obj) (X : Ext) (hb : b ∈ fp) : Upon fp w ((w.setB b o).ext X) :=
  (Upon.setB w o hb).trans (Upon.below (((Below.refl _ _)).ofExt X))
theorem View.ownUpon {α : Type} {V : View α} {w w' : World} {fp fp' : List Nat} {cs : List Value} {d : α} (h : V.own w fp cs d) (g : Upon fp' w w') (hd : ∀ b ∈ fp, b ∉ fp') : V.own w' fp cs d :=
  V.frame h fun b hb => g.block b (V.lt h b hb) (hd b hb)
end Go
namespace Go.Proofs.YtedgenmbdjadkaaGreatDoor
open Go.ChangeShapes Go.WideShapes Go.ChangeAt Go.RowKit
def digB (n : Nat) : UInt8 := UInt8.ofNat (48 + n % 10)
def mtxtAux : Nat → Nat → ByteArray → ByteArray
  | 0, _, out => out
  | f + 1, k, out => if k = 0 then out else mtxtAux f (k / 10) (⟨#[digB k]⟩ ++ out)
theorem mtxtAux_fuel : ∀ (f k : Nat) (out : ByteArray), k ≤ f → mtxtAux f k out = mtxtAux k k out := by
  intro f
  induction f using Nat.strongRecOn with
  | ind f ih =>
    intro k out hk
    match f, k, hk with
    | 0, 0, _ => rfl
    | f + 1, 0, _ => rfl
    | f + 1, k + 1, hk =>
      simp only [mtxtAux, if_neg (Nat.succ_ne_zero k)]
      rw [ih f (Nat.lt_succ_self f) _ _ (by omega), ih k (by omega) _ _ (by omega)]
theorem mtxtAux_size : ∀ (f k : Nat) (out : ByteArray), (mtxtAux f k out).size ≤ f + out.size := by
  intro f
  induction f with
  | zero => intro k out; simp [mtxtAux]
  | succ f ih =>
    intro k out
    simp only [mtxtAux]
    split
    · omega
    · refine Nat.le_trans (ih _ _) ?_
      have : (⟨#[digB k]⟩ ++ out : ByteArray).size = 1 + out.size := by rw [ByteArray.size_append]; rfl
      omega
def mtext (k : Int) : ByteArray := if k ≤ 0 then ⟨#[109, 48]⟩ else ⟨#[109]⟩ ++ mtxtAux k.toNat k.toNat ⟨#[]⟩
theorem mtext_size (k : Int) (h : k ≤ 4294967296) : (mtext k).size ≤ 9223372036854775807 := by
  unfold mtext
  split
  · decide
  · rw [ByteArray.size_append]
    have h1 := mtxtAux_size k.toNat k.toNat ⟨#[]⟩
    have h2 : (⟨#[109]⟩ : ByteArray).size = 1 := rfl
    have h3 : (⟨#[]⟩ : ByteArray).size = 0 := rfl
    omega
/-- a marked list -/
def marks {α : Type} (mk : Int → α) (c : Nat) (k : Int) (n : Nat) : List α := (List.range n).map fun i => mk (k + (c * i : Nat))
theorem marks_len {α : Type} (mk : Int → α) (c : Nat) (k : Int) (n : Nat) : (marks mk c k n).length = n := by simp [marks]
theorem marks_succ {α : Type} (mk : Int → α) (c : Nat) (k : Int) (n : Nat) : marks mk c k (n + 1) = marks mk c k n ++ [mk (k + (c * n : Nat))] := by
  simp [marks, List.range_succ]
theorem marks_get {α : Type} (mk : Int → α) (c : Nat) (k : Int) (n i : Nat) (h : i < (marks mk c k n).length) : (marks mk c k n)[i] = mk (k + (c * i : Nat)) := by
  simp [marks]
theorem marks_mem {α : Type} {mk : Int → α} {c : Nat} {k : Int} {n : Nat} {d : α} (h : d ∈ marks mk c k n) : ∃ i, i < n ∧ d = mk (k + (c * i : Nat)) := by
  simp only [marks, List.mem_map, List.mem_range] at h
  obtain ⟨i, hi, rfl⟩ := h
  exact ⟨i, hi, rfl⟩

theorem digit_toNat (n : Nat) : ((digB n).toNat : Int) = 48 + (n : Int) % 10 := by
  unfold digB
  rw [UInt8.toNat_ofNat']
  omega
theorem conv_one (w : World) (c : UInt8) (x : Int) (hx : x = (c.toNat : Int)) (b : Nat) (hb : b = w.heap.size) :
    Sem.run Tryz.prog (convert 28 9 (.slice (some ⟨b, 0, none⟩) 1 1)) (w.alloc (.cells #[.int .u8 x] 5)) = .ok (.string ⟨#[c]⟩) (w.alloc (.cells #[.int .u8 x] 5)) := by
  subst hb hx
  refine run_convert_bytes_back (w := w.alloc (.cells #[.int .u8 (c.toNat : Int)] 5)) (P := Tryz.prog) 28 9 5 ⟨w.heap.size, 0, none⟩ 1 [c] Tryz.underlying28 Tryz.underlying5 Tryz.underlying9 ?_
  intro j hj
  have : j = 0 := by simpa using hj
  subst this
  show (w.alloc _).cell? ⟨w.heap.size, 0, none⟩ = _
  simp [go_sem]
set_option maxRecDepth 100000 in
theorem laws_markText (k : Int) (w : World) (h0 : 0 ≤ k) (h1 : k ≤ 4294967296) :
    Calls Tryz.prog 77 #[.int .i64 k] w fun e w' => e = .returned (.string (mtext k)) ∧ Below w.heap.size w w' := by
  by_cases hz : k ≤ 0
  · have : mtext k = ⟨#[109, 48]⟩ := by unfold mtext; rw [if_pos hz]
    rw [this]
    go_enter Tryz.func77, Tryz.ntmps77
    go_wp2
    go_ret
    exact ⟨rfl, (by repeat (first | with_reducible exact Below.refl _ _ | with_reducible apply Below.ofExt | with_reducible apply Below.ofAlloc | with_reducible apply Below.drew | with_reducible apply Below.ofDrewN | with_reducible assumption | (with_reducible refine Below.setCell ?_ (by first | exact Nat.le_refl _ | (simp [go_sem]; done) | (simp [go_sem]; omega)) _)))⟩
  · have : mtext k = ⟨#[109]⟩ ++ mtxtAux k.toNat k.toNat ⟨#[]⟩ := by unfold mtext; rw [if_neg hz]
    rw [this]
    obtain ⟨m, rfl⟩ : ∃ m : Nat, k = m := ⟨k.toNat, by omega⟩
    simp only [Int.toNat_natCast]
    go_enter Tryz.func77, Tryz.ntmps77
    go_wp2
    go_loopw [0, 3] (fun kk o wr => ∃ (n : Nat) (s : ByteArray), kk = .int .i64 n ∧ n ≤ m ∧ Below w.heap.size w wr ∧ o = .string s ∧ mtxtAux n n s = mtxtAux m m ⟨#[]⟩ ∧ s.size + n ≤ m) (fun kk _ _ => (intOf kk).toNat)
    case atStart => exact ⟨m, ⟨#[]⟩, rfl, by omega, (by repeat (first | with_reducible exact Below.refl _ _ | with_reducible apply Below.ofExt | with_reducible apply Below.ofAlloc | with_reducible apply Below.drew | with_reducible apply Below.ofDrewN | with_reducible assumption | (with_reducible refine Below.setCell ?_ (by first | exact Nat.le_refl _ | (simp [go_sem]; done) | (simp [go_sem]; omega)) _))), rfl, rfl, by show 0 + m ≤ m; omega⟩
    case round =>
      obtain ⟨n, s, rfl, hn, hbel, rfl, haux, hsz⟩ := hrel
      obtain ⟨X, rfl⟩ := hbel.ext
      have HA := Lib.hid haux
      clear haux
      by_cases hlt : 0 < (n : Int)
      · have hk := conv_one (w.ext X) (digB n) (48 + (n : Int) % 10) (digit_toNat n).symm (w.heap.size + X.bs.size) (by rw [World.ext_size])
        have hst : mtxtAux n n s = mtxtAux (n / 10) (n / 10) (⟨#[digB n]⟩ ++ s) := by
          obtain ⟨p, rfl⟩ : ∃ p, n = p + 1 := ⟨n - 1, by omega⟩
          show (if p + 1 = 0 then s else mtxtAux p ((p + 1) / 10) _) = _
          rw [if_neg (by omega), mtxtAux_fuel p _ _ (by omega)]
        have HK := Lib.hid hst
        clear hst
        go_wp2
        go_roundw
        case rel =>
          refine ⟨n / 10, _, by go_num, by omega, (by repeat (first | with_reducible exact Below.refl _ _ | with_reducible apply Below.ofExt | with_reducible apply Below.ofAlloc | with_reducible apply Below.drew | with_reducible apply Below.ofDrewN | with_reducible assumption | (with_reducible refine Below.setCell ?_ (by first | exact Nat.le_refl _ | (simp [go_sem]; done) | (simp [go_sem]; omega)) _))), rfl, by rw [← HK.out]; exact HA.out, ?_⟩
          rw [ByteArray.size_append]
          have : (⟨#[digB n]⟩ : ByteArray).size = 1 := rfl
          omega
        case measure => simp [intOf]; omega
      · go_wp2
        go_ret
        have e : n = 0 := by omega
        subst e
        have h := HA.out
        exact ⟨by rw [← h]; rfl, (by repeat (first | with_reducible exact Below.refl _ _ | with_reducible apply Below.ofExt | with_reducible apply Below.ofAlloc | with_reducible apply Below.drew | with_reducible apply Below.ofDrewN | with_reducible assumption | (with_reducible refine Below.setCell ?_ (by first | exact Nat.le_refl _ | (simp [go_sem]; done) | (simp [go_sem]; omega)) _)))⟩
end Go.Proofs.YtedgenmbdjadkaaGreatDoor
namespace Go.Proofs.YtedgenmbdjadkaaGreatDoor
open Go.ChangeShapes Go.WideShapes Go.ChangeAt Go.RowKit

structure CellD where
  key : ByteArray
  val : ByteArray
def CellD.row (d : CellD) : List Value := [.string d.key, .string d.val]
def CellD.ok (d : CellD) : Prop := d.key.size ≤ 9223372036854775807 ∧ d.val.size ≤ 9223372036854775807
def CellD.wt (d : CellD) : Nat := d.key.size + d.val.size
def vCell : View CellD := vRow CellD.row 2 CellD.ok (fun _ => rfl) (fun d u hu => by simp [CellD.row] at hu; rcases hu with rfl | rfl <;> rfl)
def mkCell (k : Int) : CellD := ⟨mtext k, mtext (k + 1)⟩
theorem mkCell_ok (k : Int) (h : k ≤ 4294967280) : (mkCell k).ok := ⟨mtext_size _ (by omega), mtext_size _ (by omega)⟩
theorem marks_ok_Cell {k : Int} {n : Nat} (h : k + (2 * n : Nat) ≤ 4294967280) : ∀ d ∈ marks mkCell 2 k n, d.ok := by
  intro d hd
  obtain ⟨i, hi, rfl⟩ := marks_mem hd
  exact mkCell_ok _ (by omega)
theorem Tryz.elemCellS : Elem Tryz.prog 35 39 2 32 := Elem.of (.agg #[.string ⟨#[]⟩, .string ⟨#[]⟩]) Tryz.underlying35 (by kernel_rfl) rfl (by decide)
theorem laws_eqCell (x0 : ByteArray) (x1 : ByteArray) (w : World) :
    Calls Tryz.prog 76 #[.agg #[.string x0, .string x1], .agg #[.string x0, .string x1]] w fun e w' => e = .returned (.bool true) ∧ Below w.heap.size w w' := by
  go_enter Tryz.func76, Tryz.ntmps76
  go_wp2
  go_ret
  exact ⟨rfl, (by repeat (first | with_reducible exact Below.refl _ _ | with_reducible apply Below.ofExt | with_reducible apply Below.ofAlloc | with_reducible apply Below.drew | with_reducible apply Below.ofDrewN | with_reducible assumption | (with_reducible refine Below.setCell ?_ (by first | exact Nat.le_refl _ | (simp [go_sem]; done) | (simp [go_sem]; omega)) _)))⟩
set_option maxRecDepth 100000 in
theorem laws_eqCellS (v v' : Value) (ds : List CellD) (w : World) {e e' : TypeId} (hs : (vSlice vCell e).rd w [v] ds) (hs' : (vSlice vCell e').rd w [v'] ds) :
    Calls Tryz.prog 40 #[v, v'] w fun e w' => e = .returned (.bool true) ∧ Below w.heap.size w w' := by
  obtain ⟨ao, cap, rfl, hc1, hc2, hnil, hcell⟩ := vSlice.shape hs
  obtain ⟨ao', cap', rfl, hc1', hc2', hnil', hcell'⟩ := vSlice.shape hs'
  have HX := Lib.hid hcell
  have HX' := Lib.hid hcell'
  clear hcell hs hnil hcell' hs' hnil'
  unfold maxLen at hc2 hc2'
  go_enter Tryz.func40, Tryz.ntmps40
  go_wp2
  go_loopw [5] (fun k wr => ∃ (n : Nat) (X : Ext), k = .int .i64 n ∧ n ≤ ds.length ∧ wr = w.ext X) (fun k _ => ds.length - (intOf k).toNat)
  case atStart => exact ⟨0, ⟨#[], _⟩, rfl, by omega, (World.ext_nil _ _ rfl).symm⟩
  case round =>
    obtain ⟨n, X, rfl, hn, rfl⟩ := hrel
    by_cases hlt : (n : Int) < ds.length
    · have hk : n < ds.length := by omega
      obtain ⟨b, off, cs, rfl, hbl, hrd, hcell⟩ := HX.out n hk
      obtain ⟨b', off', cs', rfl, hbl', hrd', hcell'⟩ := HX'.out n hk
      generalize ds[n] = d at hrd hrd'
      obtain ⟨rfl, hok⟩ := hrd
      obtain ⟨rfl, hok'⟩ := hrd'
      obtain ⟨x0, x1⟩ := d
      have c0 := hcell 0 _ rfl
      have c1 := hcell 1 _ rfl
      have e0 := hcell' 0 _ rfl
      have e1 := hcell' 1 _ rfl
      clear hcell hcell'
      simp only [show vCell.k = 2 from rfl, Nat.add_zero] at c0 c1 e0 e1
      go_wp2
      refine wp_region_ord [(0,true),(1,true),(2,true),(3,true),(4,true),(5,true),(6,true),(7,true),(8,false),(9,true)] 10 (by kernel_rfl) (by kernel_rfl) ?_
      repeat (refine wpOrd_quiet rfl (fun K hK => ?_); go_simp; (try simp (disch := omega) only [IntWalk.i64_in]); refine hK _ ?_; clear hK K)
      refine wpOrd_grow rfl (fun K hK => ?_); go_simp; go_at_call 76; refine (laws_eqCell x0 x1 _).mono ?_; rintro e w' ⟨rfl, hb⟩; obtain ⟨X, rfl⟩ := hb.ext; clear hb; try go_simp; refine hK _ _ (by show Sx _ _; (try simp only [← Array.append_assoc]); repeat (first | with_reducible exact Sx.drew _ | with_reducible exact Sx.same _ _ _ _ | with_reducible exact ⟨_, rfl⟩ | with_reducible apply Sx.more | with_reducible apply Sx.ext | with_reducible apply Sx.alloc | with_reducible apply Sx.draw | with_reducible exact Sx.refl _)) ?_; clear hK K
      repeat (refine wpOrd_quiet rfl (fun K hK => ?_); go_simp; (try simp (disch := omega) only [IntWalk.i64_in]); refine hK _ ?_; clear hK K)
      refine wpOrd_nil ?_
      go_wp2
      go_roundw
      case rel => exact ⟨n + 1, _, by go_num, by omega, rfl⟩
      case measure => simp [intOf]; omega
    · go_wp2
      go_ret
      exact ⟨rfl, (by repeat (first | with_reducible exact Below.refl _ _ | with_reducible apply Below.ofExt | with_reducible apply Below.ofAlloc | with_reducible apply Below.drew | with_reducible apply Below.ofDrewN | with_reducible assumption | (with_reducible refine Below.setCell ?_ (by first | exact Nat.le_refl _ | (simp [go_sem]; done) | (simp [go_sem]; omega)) _)))⟩
set_option maxRecDepth 100000 in
theorem laws_markCellS (v : Value) (fp : List Nat) (ds : List CellD) (k : Int) (w : World) (hs : (vSlice vCell 39).own w fp [v] ds) (h0 : 0 ≤ k) (h1 : k + (2 * ds.length : Nat) ≤ 4294960000) :
    Calls Tryz.prog 41 #[v, .int .i64 k] w fun e w' => e = .returned (.int .i64 (k + (2 * ds.length : Nat))) ∧ (vSlice vCell 39).own w' fp [v] (marks mkCell 2 k ds.length) ∧ Upon fp w w' := by
  rcases hs with ⟨hv, rfl, rfl⟩ | ⟨b, cap, blk, css, fps, hv, hb, hn, hm, hsz, ht, rfl, hcl, hfl, hel⟩
  · simp only [List.cons.injEq, and_true] at hv
    subst hv
    go_enter Tryz.func41, Tryz.ntmps41
    go_wp2
    go_loopw [1, 5] (fun kk i wr => kk = .int .i64 k ∧ i = .int .i64 0 ∧ wr = w) (fun _ _ _ => 0)
    case atStart => exact ⟨rfl, rfl, rfl⟩
    case round =>
      obtain ⟨rfl, rfl, rfl⟩ := hrel
      go_wp2
      go_ret
      exact ⟨by simp, .inl ⟨rfl, rfl, rfl⟩, Upon.refl _ _⟩
  · simp only [List.cons.injEq, and_true] at hv
    subst hv
    have hfe : fps.flatten = [] := by
      rw [List.flatten_eq_nil_iff]
      intro l hl
      obtain ⟨i, hi, rfl⟩ := List.getElem_of_mem hl
      exact (hel i (by omega) (by omega) hi).1
    rw [hfe]
    have hbl := World.lt_of_get hb
    have hsz' : blk.size = cap * 2 := hsz
    clear hel ht hfe hcl hfl hsz
    generalize hnn : ds.length = N at hn h1
    clear hnn
    unfold maxLen at hm
    refine World.at_block hb ?_
    clear hb
    go_enter Tryz.func41, Tryz.ntmps41
    go_wp2
    go_loopw [1, 5] (fun kk i wr => ∃ (n : Nat) (cs : Array Value) (X : Ext) (m : Int), kk = .int .i64 m ∧ m = k + (2 * n : Nat) ∧ i = .int .i64 n ∧ n ≤ N ∧ wr = (w.setB b (.cells cs 39)).ext X ∧ cs.size = cap * 2 ∧ cs.toList.take (n * 2) = (marks mkCell 2 k n).flatMap CellD.row) (fun _ i _ => N - (intOf i).toNat)
    case atStart => exact ⟨0, blk, ⟨#[], _⟩, k, rfl, by simp, rfl, by omega, (World.ext_nil _ _ rfl).symm, hsz', by simp [marks]⟩
    case round =>
      obtain ⟨n, cs, X, m, rfl, hmk, rfl, hn2, rfl, hcs, htk⟩ := hrel
      have HT := Lib.hid htk
      have HSZ := Lib.hid hcs
      have HM := Lib.hid hmk
      clear htk hcs hsz'
      have hm0 : 0 ≤ m := by omega
      have hm1 : m ≤ 4294960000 := by omega
      by_cases hlt : (n : Int) < N
      · have hk : n < N := by omega
        have hm2 : m + 2 ≤ 4294960000 := by omega
        clear hmk
        have hsz2 : n * 2 + 2 ≤ cs.size := by rw [HSZ.out]; omega
        have l0 : n * 2 < cs.size := by omega
        have l1 : n * 2 + 1 < cs.size := by omega
        go_wp2_with fail
        (go_at_call 77; refine (laws_markText _ _ (by omega) (by omega)).mono ?_; rintro e w' ⟨rfl, hb⟩; obtain ⟨X, rfl⟩ := hb.ext; clear hb)
        go_wp2_with fail
        (go_at_call 77; refine (laws_markText _ _ (by omega) (by omega)).mono ?_; rintro e w' ⟨rfl, hb⟩; obtain ⟨X, rfl⟩ := hb.ext; clear hb)
        go_wp2
        go_roundw
        case rel =>
          refine ⟨n + 1, _, _, _, rfl, ?_, by go_num, by omega, rfl, ?_, ?_⟩
          · have := HM.out
            omega
          · simpa using HSZ.out
          · skip
            have h0 := take_set1' (v := .string (mtext m)) HT.out rfl rfl (by omega)
            have h1 := take_set1' (p := (n + 1) * 2) (v := .string (mtext (m + 1))) h0 rfl (by omega) (by simp; omega)
            rw [marks_succ, List.flatMap_append, ← HM.out]
            simpa [mkCell, CellD.row] using h1
        case measure => simp [intOf]; omega
      · clear hmk
        go_wp2
        go_ret
        have e : n = N := by omega
        subst e
        exact ⟨ret_int HM.out, View.ownExt (vSlice.ownRow (World.setB_at _ _ _ hbl) (marks_len _ _ _ _).symm hn (by unfold maxLen; exact hm) HSZ.out HT.out (marks_ok_Cell (by omega))) X, Upon.setBExt _ _ _ (by simp)⟩
set_option maxRecDepth 100000 in
theorem laws_heldCellS (v : Value) (k : Int) (N : Nat) (w : World) {e : TypeId} (hs : (vSlice vCell e).rd w [v] (marks mkCell 2 k N)) (h0 : 0 ≤ k) (h1 : k + (2 * N : Nat) ≤ 4294960000) :
    Calls Tryz.prog 42 #[v, .int .i64 k] w fun e w' => e = .returned (.int .i64 (k + (2 * N : Nat))) ∧ Below w.heap.size w w' := by
  obtain ⟨ao, cap, rfl, hc1, hc2, hnil, hcell⟩ := vSlice.shape hs
  have HX := Lib.hid hcell
  clear hcell hs hnil
  rw [marks_len] at hc1 ⊢
  unfold maxLen at hc2
  go_enter Tryz.func42, Tryz.ntmps42
  go_wp2
  go_loopw [1, 5] (fun kk i wr => ∃ (n : Nat) (m : Int), kk = .int .i64 m ∧ m = k + (2 * n : Nat) ∧ i = .int .i64 n ∧ n ≤ N ∧ Below w.heap.size w wr) (fun _ i _ => N - (intOf i).toNat)
  case atStart => exact ⟨0, k, rfl, by simp, rfl, by omega, (by repeat (first | with_reducible exact Below.refl _ _ | with_reducible apply Below.ofExt | with_reducible apply Below.ofAlloc | with_reducible apply Below.drew | with_reducible apply Below.ofDrewN | with_reducible assumption | (with_reducible refine Below.setCell ?_ (by first | exact Nat.le_refl _ | (simp [go_sem]; done) | (simp [go_sem]; omega)) _)))⟩
  case round =>
    obtain ⟨n, m, rfl, hmk, rfl, hn, hbel⟩ := hrel
    obtain ⟨X, rfl⟩ := hbel.ext
    have HM := Lib.hid hmk
    have hm0 : 0 ≤ m := by omega
    have hm1 : m ≤ 4294960000 := by omega
    by_cases hlt : (n : Int) < N
    · have hk : n < N := by omega
      have hm2 : m + 2 ≤ 4294960000 := by omega
      obtain ⟨b, off, cs, rfl, hbl, hrd, hcell⟩ := HX.out n (by rw [marks_len]; exact hk)
      rw [marks_get, ← hmk] at hrd
      clear hmk
      obtain ⟨rfl, hok⟩ := hrd
      have c0 := hcell 0 _ rfl
      have c1 := hcell 1 _ rfl
      clear hcell
      simp only [show vCell.k = 2 from rfl, Nat.add_zero, mkCell] at c0 c1
      go_wp2
      refine wp_region_ord [(0,true),(1,true),(2,true),(3,true),(4,true),(5,true),(6,false),(7,true)] 8 (by kernel_rfl) (by kernel_rfl) ?_
      repeat (refine wpOrd_quiet rfl (fun K hK => ?_); go_simp; (try simp (disch := omega) only [IntWalk.i64_in]); refine hK _ ?_; clear hK K)
      refine wpOrd_grow rfl (fun K hK => ?_); go_simp; go_at_call 77; refine (laws_markText _ _ (by omega) (by omega)).mono ?_; rintro e w' ⟨rfl, hb⟩; obtain ⟨X, rfl⟩ := hb.ext; clear hb; try go_simp; refine hK _ _ (by show Sx _ _; (try simp only [← Array.append_assoc]); repeat (first | with_reducible exact Sx.drew _ | with_reducible exact Sx.same _ _ _ _ | with_reducible exact ⟨_, rfl⟩ | with_reducible apply Sx.more | with_reducible apply Sx.ext | with_reducible apply Sx.alloc | with_reducible apply Sx.draw | with_reducible exact Sx.refl _)) ?_; clear hK K
      repeat (refine wpOrd_quiet rfl (fun K hK => ?_); go_simp; (try simp (disch := omega) only [IntWalk.i64_in]); refine hK _ ?_; clear hK K)
      refine wpOrd_nil ?_
      go_wp2
      refine wp_region_ord [(0,true),(1,true),(2,true),(3,true),(4,true),(5,true),(6,false),(7,true)] 8 (by kernel_rfl) (by kernel_rfl) ?_
      repeat (refine wpOrd_quiet rfl (fun K hK => ?_); go_simp; (try simp (disch := omega) only [IntWalk.i64_in]); refine hK _ ?_; clear hK K)
      refine wpOrd_grow rfl (fun K hK => ?_); go_simp; go_at_call 77; refine (laws_markText _ _ (by omega) (by omega)).mono ?_; rintro e w' ⟨rfl, hb⟩; obtain ⟨X, rfl⟩ := hb.ext; clear hb; try go_simp; refine hK _ _ (by show Sx _ _; (try simp only [← Array.append_assoc]); repeat (first | with_reducible exact Sx.drew _ | with_reducible exact Sx.same _ _ _ _ | with_reducible exact ⟨_, rfl⟩ | with_reducible apply Sx.more | with_reducible apply Sx.ext | with_reducible apply Sx.alloc | with_reducible apply Sx.draw | with_reducible exact Sx.refl _)) ?_; clear hK K
      repeat (refine wpOrd_quiet rfl (fun K hK => ?_); go_simp; (try simp (disch := omega) only [IntWalk.i64_in]); refine hK _ ?_; clear hK K)
      refine wpOrd_nil ?_
      go_wp2
      go_roundw
      case rel =>
        exact ⟨n + 1, _, rfl, by have := HM.out; omega, by go_num, by omega, (by repeat (first | with_reducible exact Below.refl _ _ | with_reducible apply Below.ofExt | with_reducible apply Below.ofAlloc | with_reducible apply Below.drew | with_reducible apply Below.ofDrewN | with_reducible assumption | (with_reducible refine Below.setCell ?_ (by first | exact Nat.le_refl _ | (simp [go_sem]; done) | (simp [go_sem]; omega)) _)))⟩
      case measure => simp [intOf]; omega
    · clear hmk
      go_wp2
      go_ret
      have e : n = N := by omega
      subst e
      exact ⟨ret_int HM.out, (by repeat (first | with_reducible exact Below.refl _ _ | with_reducible apply Below.ofExt | with_reducible apply Below.ofAlloc | with_reducible apply Below.drew | with_reducible apply Below.ofDrewN | with_reducible assumption | (with_reducible refine Below.setCell ?_ (by first | exact Nat.le_refl _ | (simp [go_sem]; done) | (simp [go_sem]; omega)) _)))⟩
end Go.Proofs.YtedgenmbdjadkaaGreatDoor
namespace Go.Proofs.YtedgenmbdjadkaaGreatDoor
open Go.ChangeShapes Go.WideShapes Go.ChangeAt Go.RowKit

def okByte (c : UInt8) : Bool := inB (c.toNat : Int) 33 126 && !((c.toNat : Int) == 42)
def keyOk (s : ByteArray) : Bool := s.data.toList.all okByte && inB (s.size : Int) 1 40
theorem keyOk_no (s : ByteArray) (n : Nat) (h : (s.data.toList.take n).all okByte = false) : keyOk s = false := by
  unfold keyOk
  have : s.data.toList.all okByte = false := by
    cases hp : s.data.toList.all okByte with
    | false => rfl
    | true =>
      rw [List.all_eq_true] at hp
      have : (s.data.toList.take n).all okByte = true := by
        rw [List.all_eq_true]
        exact fun x hx => hp x (List.mem_of_mem_take hx)
      rw [this] at h
      cases h
  rw [this]
  rfl
set_option maxRecDepth 100000 in
theorem spec_KeyOk (s : ByteArray) (w : World) (hs : s.size ≤ 9223372036854775807) :
    Calls Tryz.prog 48 #[.string s] w fun e w' => e = .returned (.bool (keyOk s)) ∧ w' = w := by
  go_enter Tryz.func48, Tryz.ntmps48
  go_wp2
  go_loopw [3] (fun k wr => ∃ (n : Nat), k = .int .i64 n ∧ n ≤ s.size ∧ wr = w ∧ (s.data.toList.take n).all okByte = true) (fun k _ => s.size - (intOf k).toNat)
  case atStart => exact ⟨0, rfl, by omega, rfl, rfl⟩
  case round =>
    obtain ⟨n, rfl, hn, rfl, hall⟩ := hrel
    have HA := Lib.hid hall
    clear hall
    by_cases hlt : (n : Int) < s.size
    case pos =>
      have hk : n < s.size := by omega
      have hst := take_snoc s n hk
      have HS := Lib.hid hst
      clear hst
      have hc0 : 0 ≤ (s[n].toNat : Int) := by omega
      have hc1 : (s[n].toNat : Int) ≤ 255 := by have := s[n].toNat_lt; omega
      have hob : okByte s[n] = okByte s[n] := rfl
      conv at hob => rhs; unfold okByte
      by_cases f1 : (s[n].toNat : Int) < 33
      case pos =>
        have HB : Hid (okByte s[n] = false) := by show _ = false; rw [hob]; unfold inB; simp; omega
        clear hob
        have HI : Hid (inB (s[n].toNat : Int) 33 126 = false) := by show _ = _; unfold inB; simp; omega
        go_wp2_with fail
        (go_at_call 36; refine (spec_l01In _ _ _ _).mono ?_; rintro e w' ⟨rfl, rfl⟩)
        first | rw [HI.out] | rw [show inB 42 33 126 = true from rfl]
        go_wp2
        go_ret
        exact ⟨by rw [keyOk_no s (n + 1) (by rw [HS.out, List.all_append]; simp [HB.out])]; rfl, rfl⟩
      by_cases f2 : 126 < (s[n].toNat : Int)
      case pos =>
        have HB : Hid (okByte s[n] = false) := by show _ = false; rw [hob]; unfold inB; simp; omega
        clear hob
        have HI : Hid (inB (s[n].toNat : Int) 33 126 = false) := by show _ = _; unfold inB; simp; omega
        go_wp2_with fail
        (go_at_call 36; refine (spec_l01In _ _ _ _).mono ?_; rintro e w' ⟨rfl, rfl⟩)
        first | rw [HI.out] | rw [show inB 42 33 126 = true from rfl]
        go_wp2
        go_ret
        exact ⟨by rw [keyOk_no s (n + 1) (by rw [HS.out, List.all_append]; simp [HB.out])]; rfl, rfl⟩
      by_cases f3 : (s[n].toNat : Int) = 42
      case pos =>
        have HB : Hid (okByte s[n] = false) := by show _ = false; rw [hob]; unfold inB; simp; omega
        clear hob
        have f4 : ((s[n].toNat : Int) == 42) = true := by simp [f3]
        have HI : Hid (inB (s[n].toNat : Int) 33 126 = true) := by show _ = _; unfold inB; simp; omega
        go_wp2_with fail
        (go_at_call 36; refine (spec_l01In _ _ _ _).mono ?_; rintro e w' ⟨rfl, rfl⟩)
        first | rw [HI.out] | rw [show inB 42 33 126 = true from rfl]
        go_wp2
        go_ret
        exact ⟨by rw [keyOk_no s (n + 1) (by rw [HS.out, List.all_append]; simp [HB.out])]; rfl, rfl⟩
      have HB : Hid (okByte s[n] = true) := by show _ = true; rw [hob]; unfold inB; simp; omega
      clear hob
      have f4 : ((s[n].toNat : Int) == 42) = false := by simp [f3]
      have HI : Hid (inB (s[n].toNat : Int) 33 126 = true) := by show _ = _; unfold inB; simp; omega
      go_wp2_with fail
      (go_at_call 36; refine (spec_l01In _ _ _ _).mono ?_; rintro e w' ⟨rfl, rfl⟩)
      first | rw [HI.out] | rw [show inB 42 33 126 = true from rfl]
      go_wp2
      go_roundw
      case rel => exact ⟨n + 1, by go_num, by omega, trivial, by rw [HS.out, List.all_append, HA.out]; simp [HB.out]⟩
      case measure => simp [intOf]; omega
    case neg =>
      have e : n = s.size := by omega
      subst e
      have ha := HA.out
      rw [List.take_of_length_le (by simp)] at ha
      have HF : Hid (keyOk s = inB s.size 1 40) := by show keyOk s = _; unfold keyOk; rw [ha]; rfl
      go_wp2_with fail
      (go_at_call 36; refine (spec_l01In _ _ _ _).mono ?_; rintro e w' ⟨rfl, rfl⟩)
      go_wp2
      go_ret
      exact ⟨by rw [HF.out]; rfl, rfl⟩
set_option maxRecDepth 100000 in
theorem impl_KeyOk (s : ByteArray) (w : World) (hs : s.size ≤ 9223372036854775807) :
    Calls Tryz.prog 53 #[.string s] w fun e w' => e = .returned (.bool (keyOk s)) ∧ w' = w := by
  go_enter Tryz.func53, Tryz.ntmps53
  go_wp2
  go_loopw [6] (fun k wr => ∃ (n : Nat), k = .int .i64 n ∧ n ≤ s.size ∧ wr = w ∧ (s.data.toList.take n).all okByte = true) (fun k _ => s.size - (intOf k).toNat)
  case atStart => exact ⟨0, rfl, by omega, rfl, rfl⟩
  case round =>
    obtain ⟨n, rfl, hn, rfl, hall⟩ := hrel
    have HA := Lib.hid hall
    clear hall
    by_cases hlt : (n : Int) < s.size
    case pos =>
      have hk : n < s.size := by omega
      have hst := take_snoc s n hk
      have HS := Lib.hid hst
      clear hst
      have hc0 : 0 ≤ (s[n].toNat : Int) := by omega
      have hc1 : (s[n].toNat : Int) ≤ 255 := by have := s[n].toNat_lt; omega
      have hob : okByte s[n] = okByte s[n] := rfl
      conv at hob => rhs; unfold okByte
      by_cases f1 : (s[n].toNat : Int) < 33
      case pos =>
        have HB : Hid (okByte s[n] = false) := by show _ = false; rw [hob]; unfold inB; simp; omega
        clear hob
        have HI : Hid (inB (s[n].toNat : Int) 33 126 = false) := by show _ = _; unfold inB; simp; omega
        go_wp2
        go_ret
        exact ⟨by rw [keyOk_no s (n + 1) (by rw [HS.out, List.all_append]; simp [HB.out])]; rfl, rfl⟩
      by_cases f2 : 126 < (s[n].toNat : Int)
      case pos =>
        have HB : Hid (okByte s[n] = false) := by show _ = false; rw [hob]; unfold inB; simp; omega
        clear hob
        have HI : Hid (inB (s[n].toNat : Int) 33 126 = false) := by show _ = _; unfold inB; simp; omega
        go_wp2
        go_ret
        exact ⟨by rw [keyOk_no s (n + 1) (by rw [HS.out, List.all_append]; simp [HB.out])]; rfl, rfl⟩
      by_cases f3 : (s[n].toNat : Int) = 42
      case pos =>
        have HB : Hid (okByte s[n] = false) := by show _ = false; rw [hob]; unfold inB; simp; omega
        clear hob
        have f4 : ((s[n].toNat : Int) == 42) = true := by simp [f3]
        have HI : Hid (inB (s[n].toNat : Int) 33 126 = true) := by show _ = _; unfold inB; simp; omega
        go_wp2
        go_ret
        exact ⟨by rw [keyOk_no s (n + 1) (by rw [HS.out, List.all_append]; simp [HB.out])]; rfl, rfl⟩
      have HB : Hid (okByte s[n] = true) := by show _ = true; rw [hob]; unfold inB; simp; omega
      clear hob
      have f4 : ((s[n].toNat : Int) == 42) = false := by simp [f3]
      have HI : Hid (inB (s[n].toNat : Int) 33 126 = true) := by show _ = _; unfold inB; simp; omega
      go_wp2
      go_roundw
      case rel => exact ⟨n + 1, by go_num, by omega, trivial, by rw [HS.out, List.all_append, HA.out]; simp [HB.out]⟩
      case measure => simp [intOf]; omega
    case neg =>
      have e : n = s.size := by omega
      subst e
      have ha := HA.out
      rw [List.take_of_length_le (by simp)] at ha
      have HF : Hid (keyOk s = inB s.size 1 40) := by show keyOk s = _; unfold keyOk; rw [ha]; rfl
      go_wp2_with fail
      (go_at_call 38; refine (impl_within _ _ _ _).mono ?_; rintro e w' ⟨rfl, rfl⟩)
      go_wp2
      go_ret
      exact ⟨by rw [HF.out]; rfl, rfl⟩
end Go.Proofs.YtedgenmbdjadkaaGreatDoor
namespace Go.Proofs.YtedgenmbdjadkaaGreatDoor
open Go.ChangeShapes Go.WideShapes Go.ChangeAt Go.RowKit


def bsum (l : List UInt8) : Int := l.foldl (fun n c => (31 * n + (c.toNat : Int)) % 9973) 7

theorem bsum_bd (l : List UInt8) : 0 ≤ bsum l ∧ bsum l < 9973 := by
  have : ∀ (l : List UInt8) (n : Int), 0 ≤ n → n < 9973 → 0 ≤ l.foldl (fun n c => (31 * n + (c.toNat : Int)) % 9973) n ∧ l.foldl (fun n c => (31 * n + (c.toNat : Int)) % 9973) n < 9973 := by
    intro l
    induction l with
    | nil => intro n h1 h2; exact ⟨h1, h2⟩
    | cons c l ih => intro n h1 h2; exact ih _ (by dsimp only; omega) (by dsimp only; omega)
  exact this l 7 (by omega) (by omega)


theorem bsum_snoc (l : List UInt8) (c : UInt8) : bsum (l ++ [c]) = (31 * bsum l + (c.toNat : Int)) % 9973 := by
  simp [bsum, List.foldl_append]

set_option maxHeartbeats 400000 in
theorem spec_ByteSum (s : ByteArray) (w : World) (hs : s.size ≤ maxLen) :
    Calls Tryz.prog 50 #[.string s] w fun e w' => e = .returned (.int .i64 (bsum s.data.toList)) ∧ w' = w := by
  unfold maxLen at hs
  go_enter Tryz.func50, Tryz.ntmps50
  go_wp2
  go_loop [3, 4] (fun n i => ∃ k : Nat, k ≤ s.size ∧ i = .int .i64 k ∧ n = .int .i64 (bsum (s.data.toList.take k))) (fun _ i => s.size - (intOf i).toNat)
  case atStart => exact ⟨0, Nat.zero_le _, rfl, rfl⟩
  case round =>
    obtain ⟨k, hk, rfl, rfl⟩ := hrel
    have hd := bsum_bd (s.data.toList.take k)
    by_cases hlt : k < s.size
    · have hc : s[k].toNat < 256 := s[k].toNat_lt
      have HS : Hid (bsum (s.data.toList.take (k + 1)) = (31 * bsum (s.data.toList.take k) + (s[k].toNat : Int)) % 9973) := by rw [take_snoc s k hlt]; exact bsum_snoc _ _
      go_wp2
      all_goals
        go_round
        case rel => exact ⟨k + 1, by omega, by go_num, by rw [HS.out]⟩
        case measure => simp [intOf]; omega
    · go_wp2
      go_ret
      exact ⟨ret_int (by rw [List.take_of_length_le (by simp; omega)]), rfl⟩

set_option maxHeartbeats 400000 in
theorem impl_ByteSum (s : ByteArray) (w : World) (hs : s.size ≤ maxLen) :
    Calls Tryz.prog 57 #[.string s] w fun e w' => e = .returned (.int .i64 (bsum s.data.toList)) ∧ w' = w := by
  unfold maxLen at hs
  go_enter Tryz.func57, Tryz.ntmps57
  go_wp2
  go_loop [3, 7] (fun n i => ∃ k : Nat, k ≤ s.size ∧ i = .int .i64 k ∧ n = .int .i64 (bsum (s.data.toList.take k))) (fun _ i => s.size - (intOf i).toNat)
  case atStart => exact ⟨0, Nat.zero_le _, rfl, rfl⟩
  case round =>
    obtain ⟨k, hk, rfl, rfl⟩ := hrel
    have hd := bsum_bd (s.data.toList.take k)
    by_cases hlt : k < s.size
    · have hc : s[k].toNat < 256 := s[k].toNat_lt
      have HS : Hid (bsum (s.data.toList.take (k + 1)) = (31 * bsum (s.data.toList.take k) + (s[k].toNat : Int)) % 9973) := by rw [take_snoc s k hlt]; exact bsum_snoc _ _
      go_wp2
      all_goals
        go_round
        case rel => exact ⟨k + 1, by omega, by go_num, by rw [HS.out]⟩
        case measure => simp [intOf]; omega
    · go_wp2
      go_ret
      exact ⟨ret_int (by rw [List.take_of_length_le (by simp; omega)]), rfl⟩

end Go.Proofs.YtedgenmbdjadkaaGreatDoor
