/- Texts of this claim, merged: the walks and what they stand on. Each condition stands in its theorem. -/
import Derived.Lib.AppendIntMem
import Derived.Lib.AppendStr
import Derived.Lib.AtoiAllCases
import Derived.Lib.CountLaws
import Derived.Lib.FrozenHead
import Derived.Lib.HexFns
import Derived.Lib.ItoaNum
import Derived.Lib.ShelfFacts
import Derived.Lib.Split
import Derived.Lib.SplitLaws
import Derived.Test.YtieenbnmfaekiaaGreatDoorSS3
set_option linter.unusedVariables false
set_option linter.unusedSimpArgs false
set_option maxRecDepth 100000
set_option maxHeartbeats 8000000
namespace Go.Proofs.YtieenbnmfaekiaaGreatDoor
open Go.ChangeShapes Go.WideShapes Go.ChangeAt Go.RowKit
def begins (a b : ByteArray) : Bool := decide (b.size ≤ a.size) && ((a.extract 0 b.size).toList == b.toList)
theorem spec_l02Begins (a b : ByteArray) (w : World) (ha : a.size ≤ 9223372036854775807) (hb : b.size ≤ 9223372036854775807) : Calls Tryz.prog 183 #[.string a, .string b] w fun e w' => e = .returned (.bool (begins a b)) ∧ w = w' := by
 by_cases h : b.size ≤ a.size
 ·have h' : (b.size : Int) ≤ a.size := by omega
  go_enter Tryz.func183, Tryz.ntmps183
  go_wp2
  go_ret
  exact ⟨by simp [begins, h], rfl⟩
 ·have h' : ¬ (b.size : Int) ≤ a.size := by omega
  go_enter Tryz.func183, Tryz.ntmps183
  go_wp2
  go_ret
  exact ⟨by simp [begins, h], rfl⟩
theorem lite_HasPrefix (a b : ByteArray) (w : World) (ha : a.size ≤ 9223372036854775807) (hb : b.size ≤ 9223372036854775807) : Calls Tryz.prog 188 #[.string a, .string b] w fun e w' => e = .returned (.bool (begins a b)) ∧ w = w' := by
 by_cases h : b.size ≤ a.size
 ·have h' : (b.size : Int) ≤ a.size := by omega
  go_enter Tryz.func188, Tryz.ntmps188
  go_wp2
  go_ret
  exact ⟨by simp [begins, h], rfl⟩
 ·have h' : ¬ (b.size : Int) ≤ a.size := by omega
  go_enter Tryz.func188, Tryz.ntmps188
  go_wp2
  go_ret
  exact ⟨by simp [begins, h], rfl⟩
theorem strings_HasPrefix (a b : ByteArray) (w : World) (ha : a.size ≤ 9223372036854775807) (hb : b.size ≤ 9223372036854775807) : Calls Tryz.prog 174 #[.string a, .string b] w fun e w' => e = .returned (.bool (begins a b)) ∧ w = w' := by
 go_enter Tryz.func174, Tryz.ntmps174
 go_wp2_with fail
 (go_at_call 188; refine (lite_HasPrefix a b _ ha hb).mono ?_; rintro e w' ⟨rfl, rfl⟩)
 go_wp2
 go_ret
 exact ⟨rfl, rfl⟩
end Go.Proofs.YtieenbnmfaekiaaGreatDoor
namespace Go.Proofs.YtieenbnmfaekiaaGreatDoor
open Go.Lib
def splitL (c : UInt8) : List UInt8 → List (List UInt8)
 | [] => [[]]
 | b :: l => if b = c then [] :: splitL c l else match splitL c l with
  | [] => [[b]]
  | x :: xs => (b :: x) :: xs
theorem splitL_app (c : UInt8) : ∀ (a l : List UInt8), c ∉ a → splitL c (a ++ c :: l) = a :: splitL c l
 | [], l, _ => by
  show splitL c (c :: l) = _
  conv => lhs; unfold splitL
  rw [if_pos rfl]
 | b :: a, l, h => by
  have hb : b ≠ c := fun e => h (by rw [e]; simp)
  have ha : c ∉ a := fun e => h (List.mem_cons_of_mem _ e)
  show splitL c (b :: (a ++ c :: l)) = _
  conv => lhs; unfold splitL
  rw [if_neg hb, splitL_app c a l ha]
end Go.Proofs.YtieenbnmfaekiaaGreatDoor
namespace Go
open Go.ChangeShapes Go.WideShapes Go.ChangeAt Go.RowKit
theorem bytesOf_length (l : List UInt8) : (bytesOf l).length = l.length := by simp [bytesOf]
theorem bytesOf_append (l m : List UInt8) : bytesOf (l ++ m) = bytesOf l ++ bytesOf m := by simp [bytesOf]
theorem bytesOf_one (l : List UInt8) : ∀ u ∈ bytesOf l, u.oneCell' = true := by
 intro u hu
 simp only [bytesOf, List.mem_map] at hu
 obtain ⟨c, _, rfl⟩ := hu
 rfl
theorem flat_B (l : List UInt8) : l.flatMap rByte.row = bytesOf l := by
 induction l with
 | nil => rfl
 | cons c l ih =>
  rw [List.flatMap_cons, ih]
  rfl
def MarkOk (fz : Nat × Nat) (n : Nat) : Prop := fz = (0, 0) ∨ n ≤ fz.1
def OwnB (e : TypeId) (w : World) (B : Nat) (v : Value) (l : List UInt8) : Prop :=
 (v = .slice none 0 0 ∧ l = []) ∨
 ∃ g cap cur fz, v = .slice (some ⟨g, 0, none⟩) l.length cap ∧ B ≤ g ∧ w.heap[g]? = some (.cells cur e fz) ∧ MarkOk fz cur.size ∧ l.length ≤ cap ∧ cap ≤ maxLen ∧ cur.size = cap ∧ cur.toList.take l.length = bytesOf l
theorem run_storeCells_atM (P : Program) (g o : Nat) (t : TypeId) (fz : Nat × Nat) : ∀ (vs : List Value) (i : Nat) (cur : Array Value) (w : World), w.heap[g]? = some (.cells cur t fz) → MarkOk fz cur.size → o + i + vs.length ≤ cur.size → (∀ v ∈ vs, v.oneCell' = true) →
  (storeCells ⟨g, o, none⟩ vs i).run P w = .ok () (w.setRow g (cur.toList.take (o + i) ++ vs ++ cur.toList.drop (o + i + vs.length)).toArray)
 | [], i, cur, w, hg, _, _, _ => by
  simp only [storeCells, List.append_nil, List.length_nil, Nat.add_zero, List.take_append_drop, Array.toArray_toList]
  rw [setRow_self w g cur t fz hg]
  rfl
 | v :: rest, i, cur, w, hg, hfz, hl, h1 => by
  have hi : o + i < cur.size := by simp at hl; omega
  have hadd : (⟨g, o, none⟩ : Addr).add i = ⟨g, o + i, none⟩ := by unfold Addr.add; split <;> simp_all
  have hcell : w.cell? ⟨g, o + i, none⟩ = some cur[o + i] := by simp [World.cell?, hg, hi]
  have hfro : w.frozen? ⟨g, o + i, none⟩ = false := by
   rcases hfz with rfl | hfz
   ·simp [World.frozen?, hg]
   ·obtain ⟨lo, hi'⟩ := fz
    simp only [World.frozen?, hg, Bool.and_eq_false_iff, decide_eq_false_iff_not]
    left
    simp only at hfz
    omega
  have hst : (store ((⟨g, o, none⟩ : Addr).add i) v).run P w = .ok () (w.setRow g (cur.setIfInBounds (o + i) v)) := by
   rw [hadd, run_store P w _ v _ (h1 v (by simp)), hcell]
   simp [hfro, setCell_eq_setRow w g (o + i) cur t fz v hg]
  have ih := run_storeCells_atM P g o t fz rest (i + 1) (cur.setIfInBounds (o + i) v) (w.setRow g (cur.setIfInBounds (o + i) v)) (setRow_heap w g cur _ t _ hg) (by simpa using hfz) (by simp at hl ⊢; omega) (fun x hx => h1 x (by simp [hx]))
  simp only [storeCells, Sem.run_bind, hst, Result.andThen_ok, ih, setRow_setRow]
  congr 3
  have e := list_seg_step cur.toList (o + i) v rest (by simp at hl ⊢; omega)
  simpa [Array.toList_setIfInBounds, Nat.add_assoc] using e
section
variable {e : TypeId} {w : World} {B : Nat} {v : Value} {l : List UInt8}
theorem OwnB.ofL (h : OwnL rByte e w B v l) : OwnB e w B v l := by
 have hf := flat_B l
 rcases h.2 with ⟨hv, hn⟩ | ⟨g, cap, cur, hv, hb, hg, hnc, hcm, hcs, ht⟩
 ·exact .inl ⟨hv, List.eq_nil_of_length_eq_zero hn⟩
 ·refine .inr ⟨g, cap, cur, (0, 0), hv, hb, hg, .inl rfl, hnc, hcm, by simpa [rByte] using hcs, ?_⟩
  rw [hf] at ht
  simpa [rByte] using ht
theorem OwnB.empty (e : TypeId) (w : World) : OwnB e (w.alloc (.cells #[] e)) w.heap.size (.slice (some ⟨w.heap.size, 0, none⟩) 0 0) [] := OwnB.ofL (OwnL.empty rByte e w)
theorem OwnB.nil (e : TypeId) (w : World) (B : Nat) : OwnB e w B (.slice none 0 0) [] := .inl ⟨rfl, rfl⟩
theorem OwnB.lt (h : OwnB e w B v l) : ∀ k, v.ownBlock = some k → B ≤ k ∧ k < w.heap.size := by
 intro k hk
 rcases h with ⟨rfl, _⟩ | ⟨g, cap, cur, fz, rfl, hb, hg, _⟩
 ·simp [Value.ownBlock] at hk
 ·simp [Value.ownBlock] at hk
  subst hk
  exact ⟨hb, (Array.getElem?_eq_some_iff.1 hg).1⟩
theorem OwnB.base {B' : Nat} (h : OwnB e w B v l) (hb : B' ≤ B) : OwnB e w B' v l := by
 rcases h with hn | ⟨g, cap, cur, fz, hv, h1, rest⟩
 ·exact .inl hn
 ·exact .inr ⟨g, cap, cur, fz, hv, Nat.le_trans hb h1, rest⟩
theorem OwnB.kept {w' : World} {row : Option Nat} (h : OwnB e w B v l) (hg : w.grownBy w' row) (hne : v.ownBlock = none ∨ v.ownBlock ≠ row) : OwnB e w' B v l := by
 rcases h with hn | ⟨g, cap, cur, fz, rfl, h1, h2, rest⟩
 ·exact .inl hn
 ·refine .inr ⟨g, cap, cur, fz, rfl, h1, ?_, rest⟩
  rw [hg.block g (Array.getElem?_eq_some_iff.1 h2).1 (by simpa [Value.ownBlock] using hne)]
  exact h2
theorem OwnB.ext (h : OwnB e w B v l) (X : Ext) : OwnB e (w.ext X) B v l := by
 rcases h with hn | ⟨g, cap, cur, fz, rfl, h1, h2, rest⟩
 ·exact .inl hn
 ·exact .inr ⟨g, cap, cur, fz, rfl, h1, (w.ext_get X (Array.getElem?_eq_some_iff.1 h2).1).trans h2, rest⟩
theorem OwnB.same {bs : Array Obj} {d0 dr : Nat} (h : OwnB e (w.ext ⟨bs, d0⟩) B v l) : OwnB e (w.ext ⟨bs, dr⟩) B v l := by
 have := h.ext ⟨#[], dr⟩
 rwa [World.ext_ext, Array.append_empty] at this
theorem OwnB.alloc (h : OwnB e w B v l) (o : Obj) : OwnB e (w.alloc o) B v l :=
 h.kept (World.grownBy_alloc w o none) (by cases hv : v.ownBlock <;> simp)
theorem OwnB.drew (h : OwnB e w B v l) : OwnB e w.drew B v l := h
theorem OwnB.below {w' : World} (h : OwnB e w B v l) (hb : Below w.heap.size w w') : OwnB e w' B v l := by
 obtain ⟨X, rfl⟩ := hb.ext
 exact h.ext X
theorem OwnB.form (h : OwnB e w B v l) : ∃ ao cap, v = .slice ao l.length cap := by
 rcases h with ⟨rfl, rfl⟩ | ⟨g, cap, cur, fz, rfl, _⟩
 ·exact ⟨none, 0, rfl⟩
 ·exact ⟨_, _, rfl⟩
theorem OwnB.sl (h : OwnB e w B v l) : Sl w v l.length (bytesOf l) := by
 rcases h with ⟨rfl, rfl⟩ | ⟨g, cap, cur, fz, rfl, hb, hg, _, hnc, hcm, hcs, ht⟩
 ·exact .inl ⟨rfl, rfl, rfl⟩
 ·refine .inr ⟨g, 0, cap, rfl, hnc, hcm, fun j u hj => ?_⟩
  have hl : j < l.length := by
   have := (List.getElem?_eq_some_iff.1 hj).1
   rwa [bytesOf_length] at this
  rw [← ht, List.getElem?_take, if_pos hl] at hj
  simp only [World.cell?, hg, Nat.zero_add]
  simpa using hj
theorem OwnB.ofString (e : TypeId) (w : World) (s : ByteArray) (hs : s.size ≤ 9223372036854775807) : OwnB e (w.alloc (.cells (bytesRow s (grownCap w s.size 0 e)) e ((bytesRow s (grownCap w s.size 0 e)).size, (bytesRow s (grownCap w s.size 0 e)).size + 1))) w.heap.size (.slice (some ⟨w.heap.size, 0, none⟩) s.size (grownCap w s.size 0 e)) s.data.toList := by
 have hge := grownCap_ge w s.size 0 e
 have hle := grownCap_le_maxLen w s.size 0 e (by unfold maxLen; exact hs)
 have hsz : s.data.toList.length = s.size := by simp
 generalize grownCap w s.size 0 e = cap at *
 refine .inr ⟨w.heap.size, cap, _, _, by rw [hsz], Nat.le_refl _, heap_alloc_new w _, .inr (Nat.le_refl _), by omega, hle, ?_, ?_⟩
 ·have h2 : s.data.size = s.size := rfl
  simp only [bytesRow, Array.size_append, Array.size_map, Array.size_replicate, h2]
  omega
 ·unfold bytesRow bytesOf
  rw [Array.toList_append, List.take_append_of_le_length (by simp)]
  rw [List.take_of_length_le (by simp)]
  simp
end
section
variable {P : Program} (w : World)
theorem run_appB (t ty e : TypeId) (i : TypeInfo) (ht : P.underlying t = some (.slice e)) (hi : P.info? e = some i) (hz : i.zero = some (.int .u8 0)) (hsize : i.size = 1) (hby : i.bytes = 1)
  {B : Nat} {v : Value} {l : List UInt8} (hown : OwnB e w B v l) {x : Value} {m : List UInt8} (hx : Sl w x m.length (bytesOf m))
  (h63 : l.length + m.length ≤ maxLen) (hbytes : l.length + m.length ≤ 140737488355328) (hbase : B ≤ w.heap.size) :
  ∃ v' w', (Builtin.append_ #[t, t] ty #[v, x]).run P w = .ok v' w' ∧ OwnB e w' B v' (l ++ m) ∧ w.grownBy w' v.ownBlock := by
 have hsmall : l.length + m.length ≤ 9223372036854775807 := by simp only [maxLen] at h63; omega
 have grown : ∀ (old : Nat), old < l.length + m.length → ∀ (row : Option Nat),
   OwnB e (w.drew.alloc (.cells ((bytesOf l).toArray ++ (bytesOf m).toArray ++ Builtin.zeroCells (Value.int IntKind.u8 0).cells (grownCap w (l.length + m.length) old e - (l.length + m.length))) e)) B
    (.slice (some ⟨w.heap.size, 0, none⟩) (l.length + m.length) (grownCap w (l.length + m.length) old e)) (l ++ m) ∧
   w.grownBy (w.drew.alloc (.cells ((bytesOf l).toArray ++ (bytesOf m).toArray ++ Builtin.zeroCells (Value.int IntKind.u8 0).cells (grownCap w (l.length + m.length) old e - (l.length + m.length))) e)) row := by
  intro old ho row
  have hge := grownCap_ge w (l.length + m.length) old e
  have hcm : grownCap w (l.length + m.length) old e ≤ maxLen := grownCap_le_maxLen w (l.length + m.length) old e h63
  refine ⟨.inr ⟨w.heap.size, _, _, (0, 0), by rw [List.length_append], hbase, heap_alloc_new w.drew _, .inl rfl, by rw [List.length_append]; exact hge, hcm, ?_, ?_⟩, ⟨rfl, rfl, rfl, by simp, fun k hk _ => (World.grownBy_alloc w.drew _ none).block k hk (by simp)⟩⟩
  ·have hz1 : (Value.int IntKind.u8 0).cells.size = 1 := rfl
   simp only [Array.size_append, List.size_toArray, size_zeroCells, hz1, bytesOf_length]
   omega
  ·simp only [Array.toList_append]
   rw [bytesOf_append, List.take_append_of_le_length (by simp [bytesOf_length]), List.take_of_length_le (by simp [bytesOf_length])]
 have hempty : ∀ (ao : Option Addr) (n c : Nat), (Builtin.firstCells 1 0 (.slice ao n c)).run P w = .ok #[] w := by
  intro ao n c
  cases ao with
  | none => simp [Builtin.firstCells]
  | some a =>
   have := run_firstCells_some (P := P) w 1 0 a n c [] rfl (fun j u hj => by simp at hj)
   simpa using this
 rcases hx with ⟨rfl, hm0, _⟩ | ⟨bx, ox, cx, rfl, hmc, hcx, hcells⟩
 ·-- nothing to append
  have hm : m = [] := List.eq_nil_of_length_eq_zero hm0
  subst hm
  rcases hown with ⟨rfl, rfl⟩ | ⟨g, cap, cur, fz, rfl, hbg, hg, hfz, hnc, hcm, hcs, htake⟩
  ·refine ⟨.slice none 0 0, w, ?_, by simpa using OwnB.nil e w B, ⟨rfl, rfl, rfl, Nat.le_refl _, fun _ _ _ => rfl⟩⟩
   simp [Builtin.append_, run_underlying ht, sizeOf, typeInfo, hi, Builtin.lenOf, Builtin.firstCells, loadCells, loadCellsFrom]
  ·refine ⟨_, w, ?_, by rw [List.append_nil]; exact .inr ⟨g, cap, cur, fz, rfl, hbg, hg, hfz, hnc, hcm, hcs, htake⟩, ⟨rfl, rfl, rfl, Nat.le_refl _, fun _ _ _ => rfl⟩⟩
   simp [Builtin.append_, run_underlying ht, sizeOf, typeInfo, hi, Builtin.lenOf, hnc, Builtin.firstCells, storeCells]
 ·have hnews : ∀ j u, (bytesOf m)[j]? = some u → w.cell? ((⟨bx, ox, none⟩ : Addr).add j) = some u := fun j u hj => by rw [addr_add]; exact hcells j u hj
  rcases hown with ⟨rfl, rfl⟩ | ⟨g, cap, cur, fz, rfl, hbg, hg, hfz, hnc, hcm, hcs, htake⟩
  ·by_cases hm : m.length = 0
   ·have hme : m = [] := List.eq_nil_of_length_eq_zero hm
    subst hme
    refine ⟨.slice none 0 0, w, ?_, by simpa using OwnB.nil e w B, ⟨rfl, rfl, rfl, Nat.le_refl _, fun _ _ _ => rfl⟩⟩
    simp [Builtin.append_, run_underlying ht, sizeOf, typeInfo, hi, hsize, Builtin.lenOf, hempty, loadCells, loadCellsFrom]
   ·have hr := run_append_nil (P := P) w t ty e i _ ht hi hz ⟨bx, ox, none⟩ m.length cx (bytesOf m) (by rw [bytesOf_length, hsize, Nat.mul_one]) hnews (by omega) (by simp at hsmall; omega) (by rw [hby]; simp at hbytes; omega)
    have hgr := grown 0 (by simp; omega) (Value.ownBlock (.slice none 0 0))
    simp only [List.length_nil, Nat.zero_add, List.nil_append] at hgr ⊢
    refine ⟨_, _, hr, ?_, ?_⟩
    ·simpa [bytesOf] using hgr.1
    ·simpa [bytesOf] using hgr.2
  ·by_cases hroom : l.length + m.length ≤ cap
   ·have hf := run_firstCells_some (P := P) w i.size m.length ⟨bx, ox, none⟩ m.length cx (bytesOf m) (by rw [bytesOf_length, hsize, Nat.mul_one]) hnews
    have hst := run_storeCells_atM P g l.length e fz (bytesOf m) 0 cur w hg hfz (by rw [bytesOf_length]; omega) (bytesOf_one m)
    simp only [Nat.add_zero, bytesOf_length] at hst
    refine ⟨.slice (some ⟨g, 0, none⟩) (l.length + m.length) cap, w.setRow g (cur.toList.take l.length ++ bytesOf m ++ cur.toList.drop (l.length + m.length)).toArray, ?_, .inr ⟨g, cap, _, fz, by rw [List.length_append], hbg, setRow_heap w g cur _ e _ hg, ?_, by rw [List.length_append]; exact hroom, hcm, ?_, ?_⟩, ⟨rfl, rfl, rfl, by simp, fun k _ hk => setRow_other w g k _ (fun e => hk (by simp [Value.ownBlock, e]))⟩⟩
    ·rw [hsize] at hf
     simp [Builtin.append_, run_underlying ht, sizeOf, typeInfo, hi, hsize, Builtin.lenOf, hroom, hf, Addr.add_lit, hst]
    ·have hsz : (cur.toList.take l.length ++ bytesOf m ++ cur.toList.drop (l.length + m.length)).toArray.size = cur.size := by
      simp only [List.size_toArray, List.length_append, List.length_take, List.length_drop, Array.length_toList, bytesOf_length]
      omega
     rw [hsz]
     exact hfz
    ·simp only [List.size_toArray, List.length_append, List.length_take, List.length_drop, Array.length_toList, bytesOf_length]
     omega
    ·rw [htake, bytesOf_append, List.take_append_of_le_length (by simp [bytesOf_length]), List.take_of_length_le (by simp [bytesOf_length])]
   ·have holds : ∀ j u, (bytesOf l)[j]? = some u → w.cell? ((⟨g, 0, none⟩ : Addr).add j) = some u := by
     intro j u hj
     rw [addr_add]
     have hl : j < l.length := by
      have := (List.getElem?_eq_some_iff.1 hj).1
      rwa [bytesOf_length] at this
     rw [← htake, List.getElem?_take, if_pos hl] at hj
     simp only [World.cell?, hg, Nat.zero_add]
     simpa using hj
    have hr := run_append_grow (P := P) w t ty e i _ ht hi hz ⟨g, 0, none⟩ l.length cap (bytesOf l) (by rw [bytesOf_length, hsize, Nat.mul_one]) holds ⟨bx, ox, none⟩ m.length cx (bytesOf m) (by rw [bytesOf_length, hsize, Nat.mul_one]) hnews (by omega) (by omega) (by rw [hby]; exact growslice_fits (by omega) (by omega))
    have hgr := grown cap (by omega) (Value.ownBlock (.slice (some ⟨g, 0, none⟩) l.length cap))
    exact ⟨_, _, hr, hgr.1, hgr.2⟩
structure ByteT (P : Program) (t e : TypeId) : Prop where
 sl : P.underlying t = some (.slice e)
 el : P.underlying e = some (.int .u8)
 inf : ∃ i : TypeInfo, P.info? e = some i ∧ i.zero = some (.int .u8 0) ∧ i.size = 1 ∧ i.bytes = 1
theorem ByteT.of {t e : TypeId} (h1 : P.underlying t = some (.slice e)) (h2 : P.underlying e = some (.int .u8)) (h : (P.info? e).map (fun i => (i.zero, i.size, i.bytes)) = some (some (.int .u8 0), 1, 1)) : ByteT P t e := by
 refine ⟨h1, h2, ?_⟩
 cases hi : P.info? e with
 | none => rw [hi] at h; simp at h
 | some i =>
  rw [hi] at h
  simp at h
  exact ⟨i, rfl, h.1, h.2.1, h.2.2⟩
theorem wp_appB {t e : TypeId} (E : ByteT P t e) {o : Oper} {a : Act} {K : Act → World → Prop} {Q : Exit → Act → World → Prop} (s x : Operand)
  (ho : o.op = .call { callee := .builtin .append, args := #[s, x], argTypes := #[t, t] })
  {B : Nat} {v : Value} {l : List UInt8} (hown : OwnB e w B v l) (hs : a.eval s = v)
  {vx : Value} {m : List UInt8} (hx : Sl w vx m.length (bytesOf m)) (hvx : a.eval x = vx) (hb : l.length + m.length ≤ 140737488355328) (hbase : B ≤ w.heap.size)
  (h : ∀ v' w', OwnB e w' B v' (l ++ m) → w.grownBy w' v.ownBlock → K (a.put o.dst v') w') : o.wp P a w K Q := by
 obtain ⟨i, h1, h2, h3, h4⟩ := E.inf
 obtain ⟨v', w', hr, h5, h6⟩ := run_appB (P := P) w t o.type e i E.sl h1 h2 h3 h4 hown hx (by unfold maxLen; omega) hb hbase
 unfold Oper.wp execOp
 simp only [ho, resolve, invoke, builtin, Sem.run_bind, Sem.run_pure, Result.andThen_ok, List.map_toArray, List.map_cons, List.map_nil, hs, hvx, hr]
 exact h v' w' h5 h6
theorem wpList_appB {t e : TypeId} (E : ByteT P t e) {ops : Array Oper} {rest : List Oper} {o : Oper} {a : Act} {Q : Exit → Act → World → Prop} (hgd : o.guard = none) (s x : Operand)
  (ho : o.op = .call { callee := .builtin .append, args := #[s, x], argTypes := #[t, t] })
  {B : Nat} {v : Value} {l : List UInt8} (hown : OwnB e w B v l) (hs : a.eval s = v)
  {vx : Value} {m : List UInt8} (hx : Sl w vx m.length (bytesOf m)) (hvx : a.eval x = vx) (hb : l.length + m.length ≤ 140737488355328) (hbase : B ≤ w.heap.size)
  (h : ∀ v' w', OwnB e w' B v' (l ++ m) → w.grownBy w' v.ownBlock → wpList P ops Q rest (a.put o.dst v') w') : wpList P ops Q (o :: rest) a w :=
 wpList_plain hgd fun _ hK => wp_appB w E s x ho hown hs hx hvx hb hbase (fun v' w' a1 a2 => hK _ _ (h v' w' a1 a2))
theorem run_string_of {t u e : TypeId} (E : ByteT P t e) (hu : P.underlying u = some .string) {v : Value} {l : List UInt8} (h : Sl w v l.length (bytesOf l)) :
  (convert t u v).run P w = .ok (.string ⟨l.toArray⟩) w := by
 rcases h with ⟨rfl, hn, _⟩ | ⟨b, off, cap, rfl, _, _, hc⟩
 ·have : l = [] := List.eq_nil_of_length_eq_zero hn
  subst this
  exact run_convert_bytes_nil w t e E.sl E.el 0 0 u hu
 ·refine run_convert_bytes_back w t u e ⟨b, off, none⟩ cap l E.sl E.el hu (fun j hj => ?_)
  rw [addr_add]
  refine hc j _ ?_
  unfold bytesOf
  rw [List.getElem?_map, List.getElem?_eq_getElem hj]
  rfl
end
theorem RowKit.Below.appB {a w w' : World} {v : Value} {e : TypeId} {l : List UInt8} (h : Below a.heap.size a w) (hg : w.grownBy w' v.ownBlock) (ho : OwnB e w a.heap.size v l) : Below a.heap.size a w' := by
 refine ⟨hg.os.trans h.os, hg.tape.trans h.tape, hg.output.trans h.output, Nat.le_trans h.size hg.size, fun k hk => ?_⟩
 rw [hg.block k (Nat.lt_of_lt_of_le hk h.size) (fun e => by have := ho.lt k e.symm; omega)]
 exact h.block k hk
end Go
namespace Go
theorem Sx.refl (w : World) : Sx w w := ⟨⟨#[], w.drawn⟩, (World.ext_nil _ _ rfl).symm⟩
section
variable {P : Program} {ops : Array Oper} {Q : Exit → Act → World → Prop} {S : World → Prop} {n : Nat}
def reaches (ops : Array Oper) : Nat → Nat → Nat → Bool
 | 0, _, _ => false
 | f + 1, j, i => match ops[j]? with
  | none => false
  | some o => o.after.any fun e => Region.binds .any e && (e.on == i || reaches ops f e.on i)
def tailReach (ops : Array Oper) (n i : Nat) : Bool := (List.range ops.size).all fun j => decide (j < n) || reaches ops ops.size j i
def Closed (ops : Array Oper) (listed : Array Bool) : Prop := ∀ k o, ops[k]? = some o → listed.getD k false = true → ∀ e ∈ o.after, Region.binds .any e = true → listed.getD e.on false = true
theorem reach_listed {listed : Array Bool} (hc : Closed ops listed) {i : Nat} : ∀ (f j : Nat) (o : Oper), ops[j]? = some o → (∀ e ∈ o.after, Region.binds .any e = true → listed.getD e.on false = true) → reaches ops f j i = true → listed.getD i false = true
 | 0, _, _, _, _, h => by simp [reaches] at h
 | f + 1, j, o, ho, hd, h => by
  simp only [reaches, ho] at h
  obtain ⟨e, he, hb⟩ := Array.any_eq_true'.1 h
  simp only [Bool.and_eq_true, Bool.or_eq_true, beq_iff_eq] at hb
  obtain ⟨hb1, hb2⟩ := hb
  have hl := hd e he hb1
  rcases hb2 with hb2 | hb2
  ·rw [← hb2]; exact hl
  ·cases ho2 : ops[e.on]? with
   | none =>
    cases f with
    | zero => simp [reaches] at hb2
    | succ f => simp [reaches, ho2] at hb2
   | some o2 => exact reach_listed hc f e.on o2 ho2 (hc e.on o2 ho2 hl) hb2
theorem closed_set {listed : Array Bool} (hc : Closed ops listed) {i : Nat} (hr : i ∈ Region.ready .any ops listed) : Closed ops (listed.setIfInBounds i true) := by
 obtain ⟨_, oi, hoi, hall⟩ := mem_ready.1 hr
 have keep : ∀ k, listed.getD k false = true → (listed.setIfInBounds i true).getD k false = true := fun k hk => getD_set_true hk
 intro k o ho hk e he hb
 by_cases hik : i = k
 ·subst hik
  rw [hoi] at ho
  cases ho
  exact keep _ (hall e he hb)
 ·rw [getD_set_ne false hik] at hk
  exact keep _ (hc k o ho hk e he hb)
theorem tailReach_spec {i j : Nat} {o : Oper} (h : tailReach ops n i = true) (hj : ops[j]? = some o) (hn : n ≤ j) : reaches ops ops.size j i = true := by
 have hlt : j < ops.size := (Array.getElem?_eq_some_iff.1 hj).1
 have h1 := List.all_eq_true.1 h j (List.mem_range.2 hlt)
 simp only [Bool.or_eq_true, decide_eq_true_eq] at h1
 rcases h1 with h1 | h1
 ·omega
 ·exact h1
theorem closed_none (ops : Array Oper) (m : Nat) : Closed ops (Array.replicate m false) := by
 intro k o _ h
 simp only [Array.getD_eq_getD_getElem?, Array.getElem?_replicate] at h
 split at h <;> simp at h
theorem wpAnyB_firstT {i : Nat} {oi : Oper} {v : Value} (hi : ops[i]? = some oi) (hs : Region.noSelect ops = true)
  (hQ : ∀ c a w, Q (.panic c) (a.put oi.dst v) w → Q (.panic c) a w) (ht : tailReach ops n i = true) :
  ∀ (fuel : Nat) (listed : Array Bool) (a : Act) (w : World), Closed ops listed →
   (∀ j oj, ops[j]? = some oj → j ≠ i → listed.getD j true = false → (∀ e ∈ oj.after, Region.binds .any e = true → e.on ≠ i) → oi.apart ops oj = true) →
   i ∈ Region.ready .any ops listed → YieldsQ P ops S oi v a → S w →
   wpAnyB P ops Q S n fuel (listed.setIfInBounds i true) (a.put oi.dst v) w → wpAnyB P ops Q S n (fuel + 1) listed a w := by
 have hsel := Region.noSelect_spec hs
 intro fuel
 induction fuel with
 | zero =>
  intro listed a w _ _ hr hy hS H
  refine ⟨fun h => (by rw [h] at hr; cases hr), fun j hj => ?_⟩
  by_cases hji : j = i
  ·subst hji; exact hy.wpOp hi hS ⟨fun _ => hS, H⟩
  ·have := ready_mono hj hji
   rw [H.1] at this
   cases this
 | succ fuel ih =>
  intro listed a w hcl hfree hr hy hS H
  refine ⟨fun h => (by rw [h] at hr; cases hr), fun j hj => ?_⟩
  by_cases hji : j = i
  ·subst hji; exact hy.wpOp hi hS ⟨fun _ => hS, H⟩
  ·have h1 := H.2 j (ready_mono hj hji)
   obtain ⟨hjun, oj, hoj, hall⟩ := mem_ready.1 hj
   have hnot : ∀ e ∈ oj.after, Region.binds .any e = true → e.on ≠ i := fun e he hb heq =>
    unlisted_not (mem_ready.1 hr).1 (heq ▸ hall e he hb)
   have hjn : j < n := by
    rcases Nat.lt_or_ge j n with h | h
    ·exact h
    ·exact (unlisted_not (mem_ready.1 hr).1 (reach_listed hcl _ j oj hoj hall (tailReach_spec ht hoj h))).elim
   have h2 := wpOp_putQ hoj (hfree j oj hoj hji hjun hnot) (fun cs b => hsel i oi cs b hi) (fun cs b => hsel j oj cs b hoj) hQ hy h1
   have hfree' : ∀ k ok, ops[k]? = some ok → k ≠ i → (listed.setIfInBounds j true).getD k true = false →
     (∀ e ∈ ok.after, Region.binds .any e = true → e.on ≠ i) → oi.apart ops ok = true := fun k ok hk hki hun hno => by
    refine hfree k ok hk hki ?_ hno
    by_cases hjk : j = k
    ·subst hjk; exact hjun
    ·rw [getD_set_ne true hjk] at hun; exact hun
   refine wpOp_mono (fun a' w' h3 => ⟨fun _ => h3.2.1 hjn, ih (listed.setIfInBounds j true) a' w' (closed_set hcl hj) hfree' (ready_mono hr (Ne.symm hji)) h3.1 (h3.2.1 hjn) ?_⟩) h2
   rw [Array.setIfInBounds_comm _ _ hji]
   exact h3.2.2
def ordOkT (ops : Array Oper) (n : Nat) : List (Nat × Bool) → Array Bool → Bool
 | [], listed => (Region.ready .any ops listed).isEmpty
 | (i, true) :: r, listed => decide (i < n) && (Region.ready .any ops listed).contains i && Region.free .any ops listed i && tailReach ops n i && ordOkT ops n r (listed.setIfInBounds i true)
 | (i, false) :: r, listed => (decide (i < n) || r.all fun x => decide (n ≤ x.1)) && (match Region.ready .any ops listed with | [j] => j == i | _ => false) && ordOkT ops n r (listed.setIfInBounds i true)
theorem wpAnyB_of_ordT {ι : Type} {F : ι → World} (hs : Region.noSelect ops = true) (hQ : ∀ c (a : Act) (d : Option Tmp) (v : Value) w, Q (.panic c) (a.put d v) w → Q (.panic c) a w) :
  ∀ (ord : List (Nat × Bool)) (listed : Array Bool) (a : Act) (w : World), Closed ops listed → ordOkT ops n ord listed = true → ((∃ x ∈ ord, x.1 < n) → Sf F w) → wpOrd P ops Q F n ord a w →
   wpAnyB P ops Q (Sf F) n ord.length listed a w
 | [], listed, a, w, _, hok, _, h => by
  simp only [ordOkT, List.isEmpty_iff] at hok
  exact ⟨hok, h⟩
 | (i, true) :: r, listed, a, w, hcl, hok, hS, h => by
  simp only [ordOkT, Bool.and_eq_true, decide_eq_true_eq] at hok
  obtain ⟨⟨⟨⟨hin, hr⟩, hf⟩, ht⟩, hok⟩ := hok
  have hw := hS ⟨(i, true), by simp, hin⟩
  simp only [wpOrd] at h
  cases ho : ops[i]? with
  | none => simp [ho] at h
  | some o =>
   simp only [ho] at h
   have again := fun a' h' => wpAnyB_of_ordT hs hQ r (listed.setIfInBounds i true) a' w (closed_set hcl (by simpa using hr)) hok (fun _ => hw) h'
   by_cases hwt : Region.wanted o (yielded ops a.tmps) = true
   ·simp only [hwt, if_true] at h
    obtain ⟨v, hv, hk⟩ := h
    exact wpAnyB_firstT ho hs (fun c a w => hQ c a _ _ w) ht _ listed a w hcl (Region.free_spec ho hf) (by simpa using hr)
     (Or.inl ⟨hwt, fun w' hw' => by obtain ⟨X, rfl⟩ := hw'; exact hv X⟩) hw (again _ hk)
   ·have hwt' : Region.wanted o (yielded ops a.tmps) = false := by simpa using hwt
    simp only [hwt', Bool.false_eq_true, if_false] at h
    exact wpAnyB_firstT ho hs (fun c a w => hQ c a _ _ w) ht _ listed a w hcl (Region.free_spec ho hf) (by simpa using hr)
     (Or.inr ⟨hwt', rfl⟩) hw (again _ h)
 | (i, false) :: r, listed, a, w, hcl, hok, hS, h => by
  simp only [ordOkT, Bool.and_eq_true, Bool.or_eq_true, decide_eq_true_eq] at hok
  obtain ⟨⟨hin, hr⟩, hok⟩ := hok
  have hr' : Region.ready .any ops listed = [i] := by
   split at hr
   ·rename_i j hj; rw [hj]; simp at hr; rw [hr]
   ·cases hr
  refine ⟨fun h0 => (by rw [h0] at hr'; cases hr'), fun j hj => ?_⟩
  rw [hr', List.mem_singleton] at hj
  subst hj
  simp only [wpOrd] at h
  cases ho : ops[j]? with
  | none => simp [ho] at h
  | some o =>
   simp only [ho] at h
   unfold wpOp
   simp only [ho]
   have again := fun (a' : Act) (w' : World) (hw' : (∃ x ∈ r, x.1 < n) → Sf F w') h' => wpAnyB_of_ordT (F := F) hs hQ r (listed.setIfInBounds j true) a' w' (closed_set hcl (by rw [hr']; simp)) hok hw' h'
   have later : (∃ x ∈ r, x.1 < n) → j < n := fun ⟨x, hx, hxn⟩ => by
    rcases hin with h1 | h1
    ·exact h1
    ·have := List.all_eq_true.1 h1 x hx
     simp only [decide_eq_true_eq] at this
     omega
   by_cases hwt : Region.wanted o (yielded ops a.tmps) = true
   ·simp only [hwt, if_true] at h ⊢
    exact Or.inl (Oper.wp_mono (fun a' w' h' => ⟨h'.1, again a' w' (fun hx => h'.1 (later hx)) h'.2⟩) h)
   ·have hwt' : Region.wanted o (yielded ops a.tmps) = false := by simpa using hwt
    simp only [hwt', Bool.false_eq_true, if_false] at h ⊢
    exact ⟨fun hj => hS ⟨(j, false), by simp, hj⟩, again _ _ (fun hx => hS ⟨(j, false), by simp, later hx⟩) h⟩
theorem wp_region_ordTF {ι : Type} (F : ι → World) {id : Nat} {l : List Oper} {a : Act} {w : World} (ord : List (Nat × Bool)) (n : Nat) (hm : P.follows .mixedOrders = true)
  (hok : (ordOkT l.toArray n ord (Array.replicate l.toArray.size false) && Region.noSelect l.toArray && ord.length == l.toArray.size) = true)
  (h0 : Sf F w.drew) (h : wpOrd P l.toArray (NoPan Q) F n ord a w.drew) : (Code.region id l.toArray true).wp P Q a w := by
 simp only [Bool.and_eq_true, beq_iff_eq] at hok
 have h1 : (Code.region id l.toArray true).wp P (NoPan Q) a w := by
  refine wp_region_any hm ?_
  rw [← hok.2]
  exact wpAny_of_B _ _ _ _ (wpAnyB_of_ordT hok.1.2 (fun _ _ _ _ _ h => h) ord _ a _ (closed_none _ _) (hok.2 ▸ hok.1.1) (fun _ => h0) h)
 exact Code.wp_mono (fun e a w h => by cases e <;> first | exact h | exact h.elim) h1
theorem wp_region_ordT {id : Nat} {l : List Oper} {a : Act} {w : World} (ord : List (Nat × Bool)) (n : Nat) (hm : P.follows .mixedOrders = true)
  (hok : (ordOkT l.toArray n ord (Array.replicate l.toArray.size false) && Region.noSelect l.toArray && ord.length == l.toArray.size) = true)
  (h : wpOrd P l.toArray (NoPan Q) (fun X => w.ext X) n ord a w.drew) : (Code.region id l.toArray true).wp P Q a w := wp_region_ordTF (fun X => w.ext X) ord n hm hok (Sx.drew w) h
end
end Go
namespace Go.Proofs.YtieenbnmfaekiaaGreatDoor
open Go.ChangeShapes Go.WideShapes Go.ChangeAt Go.RowKit
theorem Tryz.byteT : ByteT Tryz.prog 78 5 := ByteT.of Tryz.underlying78 Tryz.underlying5 (by kernel_rfl)
def strOf (l : List UInt8) : ByteArray := ⟨l.toArray⟩
theorem strOf_size (l : List UInt8) : (strOf l).size = l.length := by unfold strOf; show l.toArray.size = _; simp
theorem strOf_list (l : List UInt8) : (strOf l).data.toList = l := by simp [strOf]
def hexT (s : ByteArray) : ByteArray := if s.size ≤ 20000 then strOf (Lib.Hx.encode s.data.toList) else ⟨#[]⟩
theorem hexT_size (s : ByteArray) : (hexT s).size ≤ 40000 := by
 unfold hexT
 split
 ·rw [strOf_size, Lib.Hx.encode_length]
  have : s.data.toList.length = s.size := by simp
  omega
 ·decide
theorem digit_lo {x : Nat} (h : x < 10) : Lib.Hx.digit x = UInt8.ofNat (48 + x) := by
 match x, h with
 | 0, _ | 1, _ | 2, _ | 3, _ | 4, _ | 5, _ | 6, _ | 7, _ | 8, _ | 9, _ => rfl
theorem digit_hi {x : Nat} (h : 10 ≤ x) (h2 : x < 16) : Lib.Hx.digit x = UInt8.ofNat (87 + x) := by
 rcases (by omega : x = 10 ∨ x = 11 ∨ x = 12 ∨ x = 13 ∨ x = 14 ∨ x = 15) with rfl | rfl | rfl | rfl | rfl | rfl <;> rfl
theorem alloc_newA' (w : World) (cs : Array Value) (t : TypeId) {b : Nat} (hb : b = w.heap.size) : (w.alloc (.cells cs t)).heap[b]? = some (.cells cs t (0, 0)) := by
 subst hb
 exact heap_alloc_new w _
theorem spec_l01Figure (x : Int) (w : World) (h0 : 0 ≤ x) (h1 : x < 16) :
  Calls Tryz.prog 160 #[.int .i64 x] w fun e w' => e = .returned (.int .u8 ((Lib.Hx.digit x.toNat).toNat : Int)) ∧ w = w' := by
 go_enter Tryz.func160, Tryz.ntmps160
 go_wp2
 all_goals go_ret
 ·refine ⟨ret_int ?_, rfl⟩
  rw [digit_lo (by omega)]
  simp
  omega
 ·refine ⟨ret_int ?_, rfl⟩
  rw [digit_hi (by omega) (by omega)]
  simp
  omega
theorem enc_snoc (l : List UInt8) (c : UInt8) : Lib.Hx.encode (l ++ [c]) = Lib.Hx.encode l ++ [Lib.Hx.digit (c.toNat / 16), Lib.Hx.digit (c.toNat % 16)] := by
 simp [Lib.Hx.encode, List.flatMap_append]
theorem spec_Hex (s : ByteArray) (w : World) (hs : s.size ≤ 9223372036854775807) :
  Calls Tryz.prog 126 #[.string s] w fun e w' => e = .returned (.tuple #[.string (hexT s), .bool (decide (s.size ≤ 20000))]) ∧ Below w.heap.size w w' := by
 go_enter Tryz.func126, Tryz.ntmps126
 by_cases hb : (20000 : Int) < s.size
 ·go_wp2
  refine bodyPost_ret (by simp [results, Tryz.results126, go_sem]; rfl) rfl ?_
  refine ⟨?_, (by repeat (with_reducible exact Below.refl _ _))⟩
  unfold hexT
  rw [if_neg (by omega), decide_eq_false (by omega)]
 go_wp2
 go_loopw [4, 5] (fun o k wr => ∃ (n : Nat), k = .int .i64 n ∧ n ≤ s.size ∧ Below w.heap.size w wr ∧ OwnB 5 wr w.heap.size o (Lib.Hx.encode (s.data.toList.take n))) (fun _ k _ => s.size - (intOf k).toNat)
 case atStart => exact ⟨0, rfl, by omega, (by repeat (first | with_reducible exact Below.refl _ _ | with_reducible apply Below.ofAlloc)), OwnB.empty _ _⟩
 case round =>
  obtain ⟨n, rfl, hn, hbel, ho⟩ := hrel
  obtain ⟨X, rfl⟩ := hbel.ext
  by_cases hlt : (n : Int) < s.size
  case pos =>
   have hk : n < s.size := by omega
   have hc1 : (s[n].toNat : Int) ≤ 255 := by have := s[n].toNat_lt; omega
   have hc0 : 0 ≤ (s[n].toNat : Int) := by omega
   have hst := enc_snoc (s.data.toList.take n) s[n]
   rw [← take_snoc s n hk] at hst
   have htm : ((s[n].toNat : Int)).tmod 16 = (s[n].toNat : Int) % 16 := Int.tmod_eq_emod_of_nonneg (by omega)
   have HTM := Lib.hid htm
   clear htm
   have HST := Lib.hid hst
   have hlen : (Lib.Hx.encode (s.data.toList.take n)).length ≤ 40000 := by rw [Lib.Hx.encode_length]; simp; omega
   have HLN := Lib.hid hlen
   clear hst hlen
   generalize Lib.Hx.encode (s.data.toList.take n) = l at *
   obtain ⟨oa, oc, rfl⟩ := ho.form
   have HO := Lib.hid ho
   clear ho
   go_wp2
   refine wp_region_ordT [(0,true),(1,true),(2,true),(3,true),(4,true),(5,true),(7,true),(8,true),(9,true),(10,true),(11,true),(6,false),(12,false),(13,false),(14,false),(15,false)] 14 (by kernel_rfl) (by kernel_rfl) ?_
   repeat (refine wpOrd_quiet rfl (fun K hK => ?_); go_simp; (try simp (disch := omega) only [IntWalk.i64_in]); refine hK _ ?_; clear hK K)
   rw [HTM.out]
   refine wpOrd_grow rfl (fun K hK => ?_); go_simp; go_at_call 160; refine (spec_l01Figure _ _ (by omega) (by omega)).mono ?_; rintro e w' ⟨rfl, rfl⟩; try go_simp; refine hK _ _ (by show Sx _ _; repeat (with_reducible exact Sx.same _ _ _ _)) ?_; clear hK K
   refine wpOrd_grow rfl (fun K hK => ?_); go_simp; go_at_call 160; refine (spec_l01Figure _ _ (by omega) (by omega)).mono ?_; rintro e w' ⟨rfl, rfl⟩; try go_simp; refine hK _ _ (by show Sx _ _; repeat (with_reducible exact Sx.same _ _ _ _)) ?_; clear hK K
   refine wpOrd_grow rfl (fun K hK => ?_); go_simp; refine hK _ _ (by show Sx _ _; repeat (first | with_reducible exact Sx.same _ _ _ _ | with_reducible apply Sx.alloc)) ?_; clear hK K
   refine wpOrd_tail rfl rfl (fun K hK => ?_)
   rw [if_pos (by rfl)]
   refine wp_appB _ Tryz.byteT (.tmp 16) (.tmp 29) rfl (B := w.heap.size) (l := l) (m := [Lib.Hx.digit (s[n].toNat / 16), Lib.Hx.digit (s[n].toNat % 16)]) ((OwnB.same HO.out).alloc _) rfl (vx := .slice (some ⟨w.heap.size + X.bs.size, 0, none⟩) 2 2) ?_ rfl (by have := HLN.out; simp; omega) (by simp [World.ext_size]; omega) ?_
   ·refine Sl.of_block (t := 5) (f := (0, 0)) (alloc_newA' _ _ _ (by simp [World.ext_size])) (by decide)
   intro v4 w4 hown4 hgr4
   refine hK _ _ ?_
   clear hK K
   have hb4 : Below w.heap.size w w4 := Below.appB (by repeat (first | with_reducible exact Below.refl _ _ | with_reducible apply Below.ofExt | with_reducible apply Below.ofAlloc)) hgr4 ((OwnB.same HO.out).alloc _)
   repeat (refine wpOrd_tail rfl rfl (fun K hK => ?_); go_simp; refine hK _ _ ?_; clear hK K)
   refine wpOrd_nil ?_
   go_wp2
   go_roundw
   case rel => exact ⟨n + 1, by go_num, by omega, hb4, by rw [HST.out]; exact hown4⟩
   case measure => simp [intOf]; omega
  case neg =>
   have e : n = s.size := by omega
   subst e
   rw [List.take_of_length_le (by simp)] at ho
   have hr := run_string_of (P := Tryz.prog) (w.ext X) Tryz.byteT Tryz.underlying9 ho.sl
   obtain ⟨oa, oc, rfl⟩ := ho.form
   clear ho
   go_wp2
   refine bodyPost_ret (by simp [results, Tryz.results126, go_sem]; rfl) rfl ?_
   refine ⟨?_, (by repeat (first | with_reducible exact Below.refl _ _ | with_reducible apply Below.ofExt))⟩
   unfold hexT
   rw [if_pos (by omega), decide_eq_true (by omega)]
   rfl
theorem conv_1 (w : World) (c : UInt8) (x : Int) (hx : x = (c.toNat : Int)) (b : Nat) (hb : b = w.heap.size) :
  Sem.run Tryz.prog (convert 78 9 (.slice (some ⟨b, 0, none⟩) 1 1)) (w.alloc (.cells #[.int .u8 x] 5)) = .ok (.string ⟨#[c]⟩) (w.alloc (.cells #[.int .u8 x] 5)) := by
 subst hb hx
 refine run_convert_bytes_back (w := w.alloc (.cells #[.int .u8 (c.toNat : Int)] 5)) (P := Tryz.prog) 78 9 5 ⟨w.heap.size, 0, none⟩ 1 [c] Tryz.underlying78 Tryz.underlying5 Tryz.underlying9 ?_
 intro j hj
 have : j = 0 := by simpa using hj
 subst this
 show (w.alloc _).cell? ⟨w.heap.size, 0, none⟩ = _
 simp [go_sem]
def dec0 (m : Nat) : List UInt8 := if m = 0 then [] else Lib.decDigits m
theorem dec0_step {m : Nat} (h : m ≠ 0) : dec0 m = dec0 (m / 10) ++ [Lib.Hx.digit (m % 10)] := by
 unfold dec0
 rw [if_neg h, Lib.decDigits]
 split
 ·rename_i h1
  rw [if_pos (by omega), Nat.mod_eq_of_lt h1, digit_lo h1]
  rfl
 ·rw [if_neg (by omega), digit_lo (by omega)]
theorem dec0_len : ∀ (m : Nat), (dec0 m).length ≤ m / 2 + 1 := by
 intro m
 induction m using Nat.strongRecOn with
 | ind m ih =>
  by_cases h : m = 0
  ·subst h; simp [dec0]
  ·rw [dec0_step h, List.length_append]
   by_cases h2 : m < 10
   ·rw [show m / 10 = 0 by omega]
    simp [dec0]
   ·have := ih (m / 10) (by omega)
    simp
    omega
theorem decD_len (m : Nat) : (Lib.decDigits m).length ≤ m / 2 + 1 := by
 by_cases h : m = 0
 ·subst h
  rw [Lib.decDigits, dif_pos (by decide)]
  simp
 ·have := dec0_len m
  unfold dec0 at this
  rwa [if_neg h] at this
theorem strOf_cons (c : UInt8) (l : List UInt8) : (⟨#[c]⟩ : ByteArray) ++ strOf l = strOf (c :: l) := by
 apply ByteArray.ext
 simp [strOf, ByteArray.data_append]
theorem itoa_zero : Lib.itoa 0 = [48] := by
 unfold Lib.itoa
 rw [if_neg (by decide), Lib.decDigits, dif_pos (by decide)]
 rfl
theorem spec_Decimal (n : Int) (w : World) (h0 : -9223372036854775808 ≤ n) (h1 : n ≤ 9223372036854775807) :
  Calls Tryz.prog 141 #[.int .i64 n] w fun e w' => e = .returned (.string (strOf (Lib.itoa n))) ∧ Below w.heap.size w w' := by
 go_enter Tryz.func141, Tryz.ntmps141
 by_cases hz : n = 0
 ·subst hz
  go_wp2
  go_ret
  refine ⟨?_, (by repeat (with_reducible exact Below.refl _ _))⟩
  rw [itoa_zero]
  rfl
 have hzb : (n == 0) = false := by simpa using hz
 by_cases hn : n < 0
 ·have hi : Lib.itoa n = 45 :: Lib.decDigits n.natAbs := by unfold Lib.itoa; rw [if_pos hn]
  obtain ⟨N, hN⟩ : ∃ N : Nat, n = -(N : Int) := ⟨n.natAbs, by omega⟩
  subst hN
  rw [show (-(N : Int)).natAbs = N by omega] at hi
  have HI := Lib.hid hi
  clear hi
  go_wp2
  go_loopw [0, 4] (fun k o wr => ∃ (m : Nat) (l : List UInt8), k = .int .i64 (-(m : Int)) ∧ m ≤ 9223372036854775808 ∧ o = .string (strOf l) ∧ dec0 m ++ l = Lib.decDigits N ∧ Below w.heap.size w wr) (fun k _ _ => (intOf k).natAbs)
  case atStart => exact ⟨N, [], rfl, by omega, rfl, by simp [dec0]; omega, (by repeat (with_reducible exact Below.refl _ _))⟩
  case round =>
   obtain ⟨m, l, rfl, hm, rfl, hd, hbel⟩ := hrel
   obtain ⟨X, rfl⟩ := hbel.ext
   have hll : (strOf l).size ≤ 4611686018427387910 := by
    have := decD_len N
    rw [← hd, List.length_append] at this
    rw [strOf_size]
    omega
   have HD := Lib.hid hd
   clear hd
   by_cases hmz : m = 0
   ·subst hmz
    rw [show (-((0 : Nat) : Int)) = 0 from rfl]
    go_wp2
    go_ret
    refine ⟨?_, (by repeat (first | with_reducible exact Below.refl _ _ | with_reducible apply Below.ofExt))⟩
    have := HD.out
    simp only [dec0, if_true, List.nil_append] at this
    rw [HI.out, ← this, ← strOf_cons]
    rfl
   ·have hst := dec0_step hmz
    have HST := Lib.hid hst
    clear hst
    have hrel2 : dec0 (m / 10) ++ (Lib.Hx.digit (m % 10) :: l) = Lib.decDigits N := by
     rw [← HD.out, HST.out, List.append_assoc]
     rfl
    have HR := Lib.hid hrel2
    clear hrel2
    by_cases hd0 : m % 10 = 0
    ·have hdi : (m : Int) % 10 = 0 := by omega
     have hk := conv_1 (w.ext X) (Lib.Hx.digit (m % 10)) 48 (by rw [hd0]; rfl) (w.heap.size + X.bs.size) (by rw [World.ext_size])
     rw [hd0] at hk HR
     go_wp2
     go_roundw
     case rel => exact ⟨m / 10, _, by go_num, by omega, by rw [strOf_cons], HR.out, (by repeat (first | with_reducible exact Below.refl _ _ | with_reducible apply Below.ofExt | with_reducible apply Below.ofAlloc))⟩
     case measure => simp [intOf]; omega
    ·have hk := conv_1 (w.ext X) (Lib.Hx.digit (m % 10)) (48 + (m : Int) % 10) (by rw [digit_lo (by omega)]; simp; omega) (w.heap.size + X.bs.size) (by rw [World.ext_size])
     have hpos : 0 < (m : Int) % 10 := by omega
     have HD0 := Lib.hid hd0
     clear hd0
     go_wp2
     go_roundw
     case rel => exact ⟨m / 10, _, by go_num, by omega, by rw [strOf_cons], HR.out, (by repeat (first | with_reducible exact Below.refl _ _ | with_reducible apply Below.ofExt | with_reducible apply Below.ofAlloc))⟩
     case measure => simp [intOf]; omega
 ·have hi : Lib.itoa n = Lib.decDigits n.toNat := by unfold Lib.itoa; rw [if_neg hn]
  obtain ⟨N, hN⟩ : ∃ N : Nat, n = (N : Int) := ⟨n.toNat, by omega⟩
  subst hN
  rw [Int.toNat_natCast] at hi
  have HI := Lib.hid hi
  clear hi
  go_wp2
  go_loopw [0, 4] (fun k o wr => ∃ (m : Nat) (l : List UInt8), k = .int .i64 (m : Int) ∧ m ≤ 9223372036854775808 ∧ o = .string (strOf l) ∧ dec0 m ++ l = Lib.decDigits N ∧ Below w.heap.size w wr) (fun k _ _ => (intOf k).natAbs)
  case atStart => exact ⟨N, [], rfl, by omega, rfl, by simp [dec0]; omega, (by repeat (with_reducible exact Below.refl _ _))⟩
  case round =>
   obtain ⟨m, l, rfl, hm, rfl, hd, hbel⟩ := hrel
   obtain ⟨X, rfl⟩ := hbel.ext
   have hll : (strOf l).size ≤ 4611686018427387910 := by
    have := decD_len N
    rw [← hd, List.length_append] at this
    rw [strOf_size]
    omega
   have HD := Lib.hid hd
   clear hd
   by_cases hmz : m = 0
   ·subst hmz
    rw [show ((0 : Nat) : Int) = 0 from rfl]
    go_wp2
    go_ret
    refine ⟨?_, (by repeat (first | with_reducible exact Below.refl _ _ | with_reducible apply Below.ofExt))⟩
    have := HD.out
    simp only [dec0, if_true, List.nil_append] at this
    rw [HI.out, ← this]
    rfl
   ·have hst := dec0_step hmz
    have HST := Lib.hid hst
    clear hst
    have hrel2 : dec0 (m / 10) ++ (Lib.Hx.digit (m % 10) :: l) = Lib.decDigits N := by
     rw [← HD.out, HST.out, List.append_assoc]
     rfl
    have HR := Lib.hid hrel2
    clear hrel2
    have hk := conv_1 (w.ext X) (Lib.Hx.digit (m % 10)) (48 + (m : Int) % 10) (by rw [digit_lo (by omega)]; simp; omega) (w.heap.size + X.bs.size) (by rw [World.ext_size])
    go_wp2
    go_roundw
    case rel => exact ⟨m / 10, _, by go_num, by omega, by rw [strOf_cons], HR.out, (by repeat (first | with_reducible exact Below.refl _ _ | with_reducible apply Below.ofExt | with_reducible apply Below.ofAlloc))⟩
    case measure => simp [intOf]; omega
theorem conv_bytes (w : World) (s : ByteArray) (hs : s.size ≤ 9223372036854775807) :
  ∃ v w1, Sem.run Tryz.prog (convert 9 78 (.string s)) w = .ok v w1 ∧ OwnB 5 w1 w.heap.size v s.data.toList ∧ Below w.heap.size w w1 := by
 refine ⟨_, _, run_bytes_of_string w 9 78 5 s Tryz.underlying9 Tryz.underlying78 Tryz.underlying5, OwnB.ofString 5 w s hs, ?_⟩
 exact (Below.refl _ _).drew.alloc (Nat.le_refl _) _
theorem Sl.lit1 (w : World) (c : UInt8) (x : Int) (hx : x = (c.toNat : Int)) (t : TypeId) (b : Nat) (hb : b = w.heap.size) : Sl (w.alloc (.cells #[.int .u8 x] t)) (.slice (some ⟨b, 0, none⟩) 1 1) ([c] : List UInt8).length (bytesOf [c]) := by
 subst hx
 exact Sl.of_block (t := t) (f := (0, 0)) (alloc_newA' _ _ _ hb) (by decide)
def bsum (l : List UInt8) : Int := l.foldl (fun n c => (31 * n + (c.toNat : Int)) % 9973) 7
theorem itoa_len (n : Int) (h0 : -9223372036854775808 ≤ n) (h1 : n ≤ 9223372036854775807) : (Lib.itoa n).length ≤ 4611686018427387920 := by
 unfold Lib.itoa
 split
 ·have := decD_len n.natAbs
  rw [List.length_cons]
  omega
 ·have := decD_len n.toNat
  omega
theorem impl_in (x a b : Int) (w : World) : Calls Tryz.prog 86 #[.int .i64 x, .int .i64 a, .int .i64 b] w fun e w' => e = .returned (.bool (inB x a b)) ∧ w = w' := (impl_within x a b w).mono fun e w' h => ⟨h.1, h.2.symm⟩
def recAdd (acc : List UInt8) (c : CellD) : List UInt8 := acc ++ 32 :: ((hexT c.key).data.toList ++ 61 :: (hexT c.val).data.toList)
def recOne (acc : List UInt8) (c : CellD) : Bool := keyOk c.key && (decide ((c.val.size : Int) ≤ 60) && decide ((acc.length : Int) ≤ 4000))
def recGo : List UInt8 → List CellD → Option (List UInt8)
 | acc, [] => some acc
 | acc, c :: cs => if recOne acc c then recGo (recAdd acc c) cs else none
def recEnd (l : List UInt8) : List UInt8 := l ++ 32 :: 35 :: (Lib.itoa (bsum l) ++ [10])
def recText (seq : Int) (cs : List CellD) : ByteArray :=
 if inB seq 1 100000 then
  match recGo (Lib.itoa seq) cs with
  | none => ⟨#[]⟩
  | some l => if ((recEnd l).length : Int) ≤ 4000 then strOf (recEnd l) else ⟨#[]⟩
 else ⟨#[]⟩
def hexL (s : ByteArray) : List UInt8 := Lib.Hx.encode s.data.toList
theorem dig_ne (u : Nat) (h : u < 10) : UInt8.ofNat (48 + u) ≠ 32 ∧ UInt8.ofNat (48 + u) ≠ 61 ∧ (UInt8.ofNat (48 + u)).toNat = 48 + u := by
 have hall : ∀ x : Fin 10, UInt8.ofNat (48 + x.val) ≠ 32 ∧ UInt8.ofNat (48 + x.val) ≠ 61 ∧ (UInt8.ofNat (48 + x.val)).toNat = 48 + x.val := by decide
 exact hall ⟨u, h⟩
theorem parse_snoc (c : UInt8) : ∀ (l : List UInt8) (acc u : Nat), Lib.parseUint10 acc l = .ok u → Lib.parseUint10 acc (l ++ [c]) = Lib.parseUint10 u [c]
 | [], acc, u, h => by
  simp only [Lib.parseUint10] at h
  injection h with h
  rw [h]
  rfl
 | b :: l, acc, u, h => by
  simp only [Lib.parseUint10, List.cons_append] at h ⊢
  split at h
  ·rename_i h1
   rw [if_pos h1]
   split at h
   ·cases h
   ·rename_i h2
    rw [if_neg h2]
    split at h
    ·cases h
    ·rename_i h3
     rw [if_neg h3]
     exact parse_snoc c l _ u h
  ·cases h
theorem parse_dec (u : Nat) (h : u ≤ 1000000000) : Lib.parseUint10 0 (Lib.decDigits u) = .ok u := by
 induction u using Nat.strongRecOn with
 | _ u ih =>
  rw [Lib.decDigits]
  split
  ·rename_i h1
   have hd := (dig_ne u h1).2.2
   simp only [Lib.parseUint10]
   rw [hd, if_pos (by omega), if_neg (by omega), if_neg (by omega)]
   congr 1
   omega
  ·rename_i h1
   have hd := (dig_ne (u % 10) (by omega)).2.2
   rw [parse_snoc _ _ _ _ (ih (u / 10) (by omega) (by omega))]
   simp only [Lib.parseUint10]
   rw [hd, if_pos (by omega), if_neg (by omega), if_neg (by omega)]
   congr 1
   omega
theorem decD_head (u : Nat) : ∃ c r, Lib.decDigits u = c :: r ∧ 48 ≤ c.toNat ∧ c.toNat ≤ 57 := by
 induction u using Nat.strongRecOn with
 | _ u ih =>
  rw [Lib.decDigits]
  split
  ·rename_i h
   have hd := (dig_ne u h).2.2
   exact ⟨_, [], rfl, by omega, by omega⟩
  ·obtain ⟨c, r, e, h1, h2⟩ := ih (u / 10) (by omega)
   exact ⟨c, r ++ [_], by rw [e]; rfl, h1, h2⟩
theorem atoi_itoa (n : Int) (h0 : 0 ≤ n) (h1 : n ≤ 1000000000) : Lib.atoiAll (Lib.itoa n) = .ok n := by
 obtain ⟨u, rfl⟩ := Int.eq_ofNat_of_zero_le h0
 unfold Lib.itoa
 rw [if_neg (by omega), Int.toNat_natCast]
 have hp := parse_dec u (by omega)
 obtain ⟨c, r, e, a, b⟩ := decD_head u
 rw [e] at hp ⊢
 rw [Lib.atoiAll_plain c r (by omega) (by omega)]
 unfold Lib.parseMag
 rw [if_neg (by simp), hp]
 unfold Lib.signless
 simp only
 rw [if_neg (by omega)]
def wordL (c : CellD) : List UInt8 := hexL c.key ++ 61 :: hexL c.val
def unhexI (l : List UInt8) : List UInt8 := match Lib.Hx.decode l with
 | (d, .ok) => if d.length ≤ 20000 ∧ Lib.Hx.encode d = l then d else []
 | _ => []
def numI (l : List UInt8) : Int := match Lib.atoiAll l with
 | .ok n => if (0 ≤ n ∧ n ≤ 1000000000) ∧ Lib.itoa n = l then n else 0
 | _ => 0
def cellI (w : List UInt8) : CellD := ⟨strOf (unhexI (Lib.cut w [61]).1), strOf (unhexI (Lib.cut w [61]).2.1)⟩
theorem strOf_data (s : ByteArray) : strOf s.data.toList = s := by
 apply ByteArray.ext
 simp [strOf]
def seqI (ws : List (List UInt8)) : Int := numI (ws.headD [])
def listI (ws : List (List UInt8)) : List CellD := ((ws.drop 1).take (ws.length - 2)).map cellI
def readI (t : ByteArray) : Option (Int × List CellD) :=
 if t.size ≠ 0 ∧ recText (seqI (splitL 32 t.data.toList)) (listI (splitL 32 t.data.toList)) = t then some (seqI (splitL 32 t.data.toList), listI (splitL 32 t.data.toList)) else none
def Unh (l : List UInt8) (r : ByteArray) : Prop := ∀ s : ByteArray, s.size ≤ 20000 → l = hexL s → r = s
def Num (l : List UInt8) (n : Int) (ok : Bool) : Prop := (0 ≤ n ∧ n ≤ 1000000000) ∧ ∀ m : Int, 1 ≤ m → m ≤ 100000 → l = Lib.itoa m → n = m ∧ ok = true
def CellR (word : List UInt8) (c : CellD) : Prop := ∀ d : CellD, d.key.size ≤ 40 → d.val.size ≤ 60 → word = wordL d → c = d
def ReadsTo (ws : List (List UInt8)) (cs : List CellD) : Prop := ∃ zs : List (List UInt8 × CellD), zs.map (·.1) = ws ∧ zs.map (·.2) = cs ∧ ∀ z ∈ zs, CellR z.1 z.2
theorem ReadsTo.nil : ReadsTo [] [] := ⟨[], rfl, rfl, by simp⟩
theorem ReadsTo.length {ws : List (List UInt8)} {cs : List CellD} (h : ReadsTo ws cs) : cs.length = ws.length := by
 obtain ⟨zs, rfl, rfl, _⟩ := h
 simp
end Go.Proofs.YtieenbnmfaekiaaGreatDoor
