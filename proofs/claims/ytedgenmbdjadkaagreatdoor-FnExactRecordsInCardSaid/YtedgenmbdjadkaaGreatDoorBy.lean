/- Bytes that a call owns, the row perhaps marked behind its end (what a conversion from a string lays): appends to them. Each condition stands in its theorem. -/
import Derived.Test.YtedgenmbdjadkaaGreatDoorRow
import Derived.Lib.AppendStr
import Derived.Lib.FrozenHead
import Derived.Laws.IdiomStrings
set_option linter.unusedVariables false
set_option linter.unusedSimpArgs false
namespace Go
open Go.ChangeShapes Go.WideShapes Go.ChangeAt Go.RowKit
theorem bytesOf_length (l : List UInt8) : (bytesOf l).length = l.length := by simp [bytesOf]
theorem bytesOf_append (l m : List UInt8) : bytesOf (l ++ m) = bytesOf l ++ bytesOf m := by simp [bytesOf]
theorem bytesOf_one (l : List UInt8) : ∀ u ∈ bytesOf l, u.oneCell' = true := by
  intro u hu
  simp only [bytesOf, List.mem_map] at hu
  obtain ⟨c, _, rfl⟩ := hu
  rfl
theorem strCells_bytes (s : ByteArray) : Lib.strCells s = bytesOf s.data.toList := by
  unfold Lib.strCells bytesOf
  simp
theorem flat_B (l : List UInt8) : l.flatMap rByte.row = bytesOf l := by
  induction l with
  | nil => rfl
  | cons c l ih =>
    rw [List.flatMap_cons, ih]
    rfl
def MarkOk (fz : Nat × Nat) (n : Nat) : Prop := fz = (0, 0) ∨ n ≤ fz.1
/-- v is a slice of the call's own (made at block B or later) that holds the bytes l -/
def OwnB (e : TypeId) (w : World) (B : Nat) (v : Value) (l : List UInt8) : Prop :=
  (v = .slice none 0 0 ∧ l = []) ∨
  ∃ g cap cur fz, v = .slice (some ⟨g, 0, none⟩) l.length cap ∧ B ≤ g ∧ w.heap[g]? = some (.cells cur e fz) ∧ MarkOk fz cur.size ∧ l.length ≤ cap ∧ cap ≤ maxLen ∧ cur.size = cap ∧ cur.toList.take l.length = bytesOf l
theorem run_storeCells_atM (P : Program) (g o : Nat) (t : TypeId) (fz : Nat × Nat) : ∀ (vs : List Value) (i : Nat) (cur : Array Value) (w : World), w.heap[g]? = some (.cells cur t fz) → MarkOk fz cur.size → o + i + vs.length ≤ cur.size → (∀ v ∈ vs, v.oneCell' = true) →
    (storeCells ⟨g, o, none⟩ vs i).run P w = .ok () (w.setRow g (cur.toList.take (o + i) ++ vs ++ cur.toList.drop (o + i + vs.length)).toArray)
  | [], i, cur, w, hg, _, _, _ => by
    simp only [storeCells, List.append_nil, List.length_nil, Nat.add_zero, List.take_append_drop, Array.toArray_toList]
    rw [setRow_self w g cur t fz hg]
    rfl
  | v :: rest, i, cur, w, hg, hfz, hl, h1 => by
    have hi : o + i < cur.size := by simp at hl; omega
    have hadd : (⟨g, o, none⟩ : Addr).add i = ⟨g, o + i, none⟩ := by unfold Addr.add; split <;> simp_all
    have hcell : w.cell? ⟨g, o + i, none⟩ = some cur[o + i] := by simp [World.cell?, hg, hi]
    have hfro : w.frozen? ⟨g, o + i, none⟩ = false := by
      rcases hfz with rfl | hfz
      · simp [World.frozen?, hg]
      · obtain ⟨lo, hi'⟩ := fz
        simp only [World.frozen?, hg, Bool.and_eq_false_iff, decide_eq_false_iff_not]
        left
        simp only at hfz
        omega
    have hst : (store ((⟨g, o, none⟩ : Addr).add i) v).run P w = .ok () (w.setRow g (cur.setIfInBounds (o + i) v)) := by
      rw [hadd, run_store P w _ v _ (h1 v (by simp)), hcell]
      simp [hfro, setCell_eq_setRow w g (o + i) cur t fz v hg]
    have ih := run_storeCells_atM P g o t fz rest (i + 1) (cur.setIfInBounds (o + i) v) (w.setRow g (cur.setIfInBounds (o + i) v)) (setRow_heap w g cur _ t _ hg) (by simpa using hfz) (by simp at hl ⊢; omega) (fun x hx => h1 x (by simp [hx]))
    simp only [storeCells, Sem.run_bind, hst, Result.andThen_ok, ih, setRow_setRow]
    congr 3
    have e := list_seg_step cur.toList (o + i) v rest (by simp at hl ⊢; omega)
    simpa [Array.toList_setIfInBounds, Nat.add_assoc] using e
section
variable {e : TypeId} {w : World} {B : Nat} {v : Value} {l : List UInt8}
theorem OwnB.ofL (h : OwnL rByte e w B v l) : OwnB e w B v l := by
  have hf := flat_B l
  rcases h.2 with ⟨hv, hn⟩ | ⟨g, cap, cur, hv, hb, hg, hnc, hcm, hcs, ht⟩
  · exact .inl ⟨hv, List.eq_nil_of_length_eq_zero hn⟩
  · refine .inr ⟨g, cap, cur, (0, 0), hv, hb, hg, .inl rfl, hnc, hcm, by simpa [rByte] using hcs, ?_⟩
    rw [hf] at ht
    simpa [rByte] using ht
theorem OwnB.empty (e : TypeId) (w : World) : OwnB e (w.alloc (.cells #[] e)) w.heap.size (.slice (some ⟨w.heap.size, 0, none⟩) 0 0) [] := OwnB.ofL (OwnL.empty rByte e w)
theorem OwnB.nil (e : TypeId) (w : World) (B : Nat) : OwnB e w B (.slice none 0 0) [] := .inl ⟨rfl, rfl⟩
theorem OwnB.lt (h : OwnB e w B v l) : ∀ k, v.ownBlock = some k → B ≤ k ∧ k < w.heap.size := by
  intro k hk
  rcases h with ⟨rfl, _⟩ | ⟨g, cap, cur, fz, rfl, hb, hg, _⟩
  · simp [Value.ownBlock] at hk
  · simp [Value.ownBlock] at hk
    subst hk
    exact ⟨hb, (Array.getElem?_eq_some_iff.1 hg).1⟩
theorem OwnB.base {B' : Nat} (h : OwnB e w B v l) (hb : B' ≤ B) : OwnB e w B' v l := by
  rcases h with hn | ⟨g, cap, cur, fz, hv, h1, rest⟩
  · exact .inl hn
  · exact .inr ⟨g, cap, cur, fz, hv, Nat.le_trans hb h1, rest⟩
theorem OwnB.kept {w' : World} {row : Option Nat} (h : OwnB e w B v l) (hg : w.grownBy w' row) (hne : v.ownBlock = none ∨ v.ownBlock ≠ row) : OwnB e w' B v l := by
  rcases h with hn | ⟨g, cap, cur, fz, rfl, h1, h2, rest⟩
  · exact .inl hn
  · refine .inr ⟨g, cap, cur, fz, rfl, h1, ?_, rest⟩
    rw [hg.block g (Array.getElem?_eq_some_iff.1 h2).1 (by simpa [Value.ownBlock] using hne)]
    exact h2
theorem OwnB.ext (h : OwnB e w B v l) (X : Ext) : OwnB e (w.ext X) B v l := by
  rcases h with hn | ⟨g, cap, cur, fz, rfl, h1, h2, rest⟩
  · exact .inl hn
  · exact .inr ⟨g, cap, cur, fz, rfl, h1, (w.ext_get X (Array.getElem?_eq_some_iff.1 h2).1).trans h2, rest⟩
theorem OwnB.same {bs : Array Obj} {d0 dr : Nat} (h : OwnB e (w.ext ⟨bs, d0⟩) B v l) : OwnB e (w.ext ⟨bs, dr⟩) B v l := by
  have := h.ext ⟨#[], dr⟩
  rwa [World.ext_ext, Array.append_empty] at this
theorem OwnB.merge {bs cs : Array Obj} {d0 dr : Nat} (h : OwnB e (w.ext ⟨bs, d0⟩) B v l) : OwnB e (w.ext ⟨bs ++ cs, dr⟩) B v l := by
  have := h.ext ⟨cs, dr⟩
  rwa [World.ext_ext] at this
theorem OwnB.alloc (h : OwnB e w B v l) (o : Obj) : OwnB e (w.alloc o) B v l :=
  h.kept (World.grownBy_alloc w o none) (by cases hv : v.ownBlock <;> simp)
theorem OwnB.drew (h : OwnB e w B v l) : OwnB e w.drew B v l := h
theorem OwnB.below {w' : World} (h : OwnB e w B v l) (hb : Below w.heap.size w w') : OwnB e w' B v l := by
  obtain ⟨X, rfl⟩ := hb.ext
  exact h.ext X
theorem OwnB.form (h : OwnB e w B v l) : ∃ ao cap, v = .slice ao l.length cap := by
  rcases h with ⟨rfl, rfl⟩ | ⟨g, cap, cur, fz, rfl, _⟩
  · exact ⟨none, 0, rfl⟩
  · exact ⟨_, _, rfl⟩
theorem OwnB.sl (h : OwnB e w B v l) : Sl w v l.length (bytesOf l) := by
  rcases h with ⟨rfl, rfl⟩ | ⟨g, cap, cur, fz, rfl, hb, hg, _, hnc, hcm, hcs, ht⟩
  · exact .inl ⟨rfl, rfl, rfl⟩
  · refine .inr ⟨g, 0, cap, rfl, hnc, hcm, fun j u hj => ?_⟩
    have hl : j < l.length := by
      have := (List.getElem?_eq_some_iff.1 hj).1
      rwa [bytesOf_length] at this
    rw [← ht, List.getElem?_take, if_pos hl] at hj
    simp only [World.cell?, hg, Nat.zero_add]
    simpa using hj
theorem OwnB.rd (h : OwnB e w B v l) : RdL rByte w v l := by
  unfold RdL
  have hf := flat_B l
  rw [hf]
  exact h.sl
/-- a conversion from a string -/
theorem OwnB.ofString (e : TypeId) (w : World) (s : ByteArray) (hs : s.size ≤ 9223372036854775807) : OwnB e (w.alloc (.cells (bytesRow s (grownCap w s.size 0 e)) e ((bytesRow s (grownCap w s.size 0 e)).size, (bytesRow s (grownCap w s.size 0 e)).size + 1))) w.heap.size (.slice (some ⟨w.heap.size, 0, none⟩) s.size (grownCap w s.size 0 e)) s.data.toList := by
  have hge := grownCap_ge w s.size 0 e
  have hle := grownCap_le_maxLen w s.size 0 e (by unfold maxLen; exact hs)
  have hsz : s.data.toList.length = s.size := by simp
  generalize grownCap w s.size 0 e = cap at *
  refine .inr ⟨w.heap.size, cap, _, _, by rw [hsz], Nat.le_refl _, heap_alloc_new w _, .inr (Nat.le_refl _), by omega, hle, ?_, ?_⟩
  · have h2 : s.data.size = s.size := rfl
    simp only [bytesRow, Array.size_append, Array.size_map, Array.size_replicate, h2]
    omega
  · unfold bytesRow bytesOf
    rw [Array.toList_append, List.take_append_of_le_length (by simp)]
    rw [List.take_of_length_le (by simp)]
    simp
end
section
variable {P : Program} (w : World)
/-- an append, from another slice -/
theorem run_appB (t ty e : TypeId) (i : TypeInfo) (ht : P.underlying t = some (.slice e)) (hi : P.info? e = some i) (hz : i.zero = some (.int .u8 0)) (hsize : i.size = 1) (hby : i.bytes = 1)
    {B : Nat} {v : Value} {l : List UInt8} (hown : OwnB e w B v l) {x : Value} {m : List UInt8} (hx : Sl w x m.length (bytesOf m))
    (h63 : l.length + m.length ≤ maxLen) (hbytes : l.length + m.length ≤ 140737488355328) (hbase : B ≤ w.heap.size) :
    ∃ v' w', (Builtin.append_ #[t, t] ty #[v, x]).run P w = .ok v' w' ∧ OwnB e w' B v' (l ++ m) ∧ w.grownBy w' v.ownBlock := by
  have hsmall : l.length + m.length ≤ 9223372036854775807 := by simp only [maxLen] at h63; omega
  have grown : ∀ (old : Nat), old < l.length + m.length → ∀ (row : Option Nat),
      OwnB e (w.drew.alloc (.cells ((bytesOf l).toArray ++ (bytesOf m).toArray ++ Builtin.zeroCells (Value.int IntKind.u8 0).cells (grownCap w (l.length + m.length) old e - (l.length + m.length))) e)) B
        (.slice (some ⟨w.heap.size, 0, none⟩) (l.length + m.length) (grownCap w (l.length + m.length) old e)) (l ++ m) ∧
      w.grownBy (w.drew.alloc (.cells ((bytesOf l).toArray ++ (bytesOf m).toArray ++ Builtin.zeroCells (Value.int IntKind.u8 0).cells (grownCap w (l.length + m.length) old e - (l.length + m.length))) e)) row := by
    intro old ho row
    have hge := grownCap_ge w (l.length + m.length) old e
    have hcm : grownCap w (l.length + m.length) old e ≤ maxLen := grownCap_le_maxLen w (l.length + m.length) old e h63
    refine ⟨.inr ⟨w.heap.size, _, _, (0, 0), by rw [List.length_append], hbase, heap_alloc_new w.drew _, .inl rfl, by rw [List.length_append]; exact hge, hcm, ?_, ?_⟩, ⟨rfl, rfl, rfl, by simp, fun k hk _ => (World.grownBy_alloc w.drew _ none).block k hk (by simp)⟩⟩
    · have hz1 : (Value.int IntKind.u8 0).cells.size = 1 := rfl
      simp only [Array.size_append, List.size_toArray, size_zeroCells, hz1, bytesOf_length]
      omega
    · simp only [Array.toList_append]
      rw [bytesOf_append, List.take_append_of_le_length (by simp [bytesOf_length]), List.take_of_length_le (by simp [bytesOf_length])]
  have hempty : ∀ (ao : Option Addr) (n c : Nat), (Builtin.firstCells 1 0 (.slice ao n c)).run P w = .ok #[] w := by
    intro ao n c
    cases ao with
    | none => simp [Builtin.firstCells]
    | some a =>
      have := run_firstCells_some (P := P) w 1 0 a n c [] rfl (fun j u hj => by simp at hj)
      simpa using this
  rcases hx with ⟨rfl, hm0, _⟩ | ⟨bx, ox, cx, rfl, hmc, hcx, hcells⟩
  · -- nothing to append
    have hm : m = [] := List.eq_nil_of_length_eq_zero hm0
    subst hm
    rcases hown with ⟨rfl, rfl⟩ | ⟨g, cap, cur, fz, rfl, hbg, hg, hfz, hnc, hcm, hcs, htake⟩
    · refine ⟨.slice none 0 0, w, ?_, by simpa using OwnB.nil e w B, ⟨rfl, rfl, rfl, Nat.le_refl _, fun _ _ _ => rfl⟩⟩
      simp [Builtin.append_, run_underlying ht, sizeOf, typeInfo, hi, Builtin.lenOf, Builtin.firstCells, loadCells, loadCellsFrom]
    · refine ⟨_, w, ?_, by rw [List.append_nil]; exact .inr ⟨g, cap, cur, fz, rfl, hbg, hg, hfz, hnc, hcm, hcs, htake⟩, ⟨rfl, rfl, rfl, Nat.le_refl _, fun _ _ _ => rfl⟩⟩
      simp [Builtin.append_, run_underlying ht, sizeOf, typeInfo, hi, Builtin.lenOf, hnc, Builtin.firstCells, storeCells]
  · have hnews : ∀ j u, (bytesOf m)[j]? = some u → w.cell? ((⟨bx, ox, none⟩ : Addr).add j) = some u := fun j u hj => by rw [addr_add]; exact hcells j u hj
    rcases hown with ⟨rfl, rfl⟩ | ⟨g, cap, cur, fz, rfl, hbg, hg, hfz, hnc, hcm, hcs, htake⟩
    · by_cases hm : m.length = 0
      · have hme : m = [] := List.eq_nil_of_length_eq_zero hm
        subst hme
        refine ⟨.slice none 0 0, w, ?_, by simpa using OwnB.nil e w B, ⟨rfl, rfl, rfl, Nat.le_refl _, fun _ _ _ => rfl⟩⟩
        simp [Builtin.append_, run_underlying ht, sizeOf, typeInfo, hi, hsize, Builtin.lenOf, hempty, loadCells, loadCellsFrom]
      · have hr := run_append_nil (P := P) w t ty e i _ ht hi hz ⟨bx, ox, none⟩ m.length cx (bytesOf m) (by rw [bytesOf_length, hsize, Nat.mul_one]) hnews (by omega) (by simp at hsmall; omega) (by rw [hby]; simp at hbytes; omega)
        have hgr := grown 0 (by simp; omega) (Value.ownBlock (.slice none 0 0))
        simp only [List.length_nil, Nat.zero_add, List.nil_append] at hgr ⊢
        refine ⟨_, _, hr, ?_, ?_⟩
        · simpa [bytesOf] using hgr.1
        · simpa [bytesOf] using hgr.2
    · by_cases hroom : l.length + m.length ≤ cap
      · have hf := run_firstCells_some (P := P) w i.size m.length ⟨bx, ox, none⟩ m.length cx (bytesOf m) (by rw [bytesOf_length, hsize, Nat.mul_one]) hnews
        have hst := run_storeCells_atM P g l.length e fz (bytesOf m) 0 cur w hg hfz (by rw [bytesOf_length]; omega) (bytesOf_one m)
        simp only [Nat.add_zero, bytesOf_length] at hst
        refine ⟨.slice (some ⟨g, 0, none⟩) (l.length + m.length) cap, w.setRow g (cur.toList.take l.length ++ bytesOf m ++ cur.toList.drop (l.length + m.length)).toArray, ?_, .inr ⟨g, cap, _, fz, by rw [List.length_append], hbg, setRow_heap w g cur _ e _ hg, ?_, by rw [List.length_append]; exact hroom, hcm, ?_, ?_⟩, ⟨rfl, rfl, rfl, by simp, fun k _ hk => setRow_other w g k _ (fun e => hk (by simp [Value.ownBlock, e]))⟩⟩
        · rw [hsize] at hf
          simp [Builtin.append_, run_underlying ht, sizeOf, typeInfo, hi, hsize, Builtin.lenOf, hroom, hf, Addr.add_lit, hst]
        · have hsz : (cur.toList.take l.length ++ bytesOf m ++ cur.toList.drop (l.length + m.length)).toArray.size = cur.size := by
            simp only [List.size_toArray, List.length_append, List.length_take, List.length_drop, Array.length_toList, bytesOf_length]
            omega
          rw [hsz]
          exact hfz
        · simp only [List.size_toArray, List.length_append, List.length_take, List.length_drop, Array.length_toList, bytesOf_length]
          omega
        · rw [htake, bytesOf_append, List.take_append_of_le_length (by simp [bytesOf_length]), List.take_of_length_le (by simp [bytesOf_length])]
      · have holds : ∀ j u, (bytesOf l)[j]? = some u → w.cell? ((⟨g, 0, none⟩ : Addr).add j) = some u := by
          intro j u hj
          rw [addr_add]
          have hl : j < l.length := by
            have := (List.getElem?_eq_some_iff.1 hj).1
            rwa [bytesOf_length] at this
          rw [← htake, List.getElem?_take, if_pos hl] at hj
          simp only [World.cell?, hg, Nat.zero_add]
          simpa using hj
        have hr := run_append_grow (P := P) w t ty e i _ ht hi hz ⟨g, 0, none⟩ l.length cap (bytesOf l) (by rw [bytesOf_length, hsize, Nat.mul_one]) holds ⟨bx, ox, none⟩ m.length cx (bytesOf m) (by rw [bytesOf_length, hsize, Nat.mul_one]) hnews (by omega) (by omega) (by rw [hby]; exact growslice_fits (by omega) (by omega))
        have hgr := grown cap (by omega) (Value.ownBlock (.slice (some ⟨g, 0, none⟩) l.length cap))
        exact ⟨_, _, hr, hgr.1, hgr.2⟩
/-- an append, from a string -/
theorem run_appBs (t u ty e : TypeId) (i : TypeInfo) (ht : P.underlying t = some (.slice e)) (hu : P.underlying u = some .string) (hi : P.info? e = some i) (hz : i.zero = some (.int .u8 0)) (hsize : i.size = 1) (hby : i.bytes = 1)
    {B : Nat} {v : Value} {l : List UInt8} (hown : OwnB e w B v l) (s : ByteArray)
    (h63 : l.length + s.size ≤ maxLen) (hbytes : l.length + s.size ≤ 140737488355328) (hbase : B ≤ w.heap.size) :
    ∃ v' w', (Builtin.append_ #[t, u] ty #[v, .string s]).run P w = .ok v' w' ∧ OwnB e w' B v' (l ++ s.data.toList) ∧ w.grownBy w' v.ownBlock := by
  have hsz : s.data.toList.length = s.size := by simp
  rcases hown with ⟨rfl, rfl⟩ | ⟨g, cap, cur, fz, rfl, hbg, hg, hfz, hnc, hcm, hcs, htake⟩
  · obtain ⟨v', w', h1, h2, h3, h4⟩ := Lib.run_append_own_string (P := P) w B t u ty e i ht hu hi hz hsize hby (.slice none 0 0) 0 [] ⟨rfl, .inl ⟨rfl, rfl⟩⟩ s (by simpa using h63) (by simpa using hbytes) hbase
    refine ⟨v', w', h1, OwnB.ofL ?_, h3⟩
    unfold OwnL
    have hf := flat_B s.data.toList
    simp only [List.nil_append, Nat.zero_add] at h2 ⊢
    rw [hf, ← strCells_bytes, hsz]
    exact h2
  · have hsmall : l.length + s.size ≤ 9223372036854775807 := by simp only [maxLen] at h63; omega
    by_cases hroom : l.length + s.size ≤ cap
    · have hf := Lib.run_firstCells_string (P := P) w 1 s
      have hst := run_storeCells_atM P g l.length e fz (Lib.strCells s) 0 cur w hg hfz (by rw [Lib.strCells_length]; omega) (Lib.strCells_oneCell s)
      simp only [Nat.add_zero, Lib.strCells_length] at hst
      refine ⟨.slice (some ⟨g, 0, none⟩) (l.length + s.size) cap, w.setRow g (cur.toList.take l.length ++ Lib.strCells s ++ cur.toList.drop (l.length + s.size)).toArray, ?_, .inr ⟨g, cap, _, fz, by rw [List.length_append, hsz], hbg, setRow_heap w g cur _ e _ hg, ?_, by rw [List.length_append, hsz]; exact hroom, hcm, ?_, ?_⟩, ⟨rfl, rfl, rfl, by simp, fun k _ hk => setRow_other w g k _ (fun e => hk (by simp [Value.ownBlock, e]))⟩⟩
      · simp [Builtin.append_, run_underlying ht, run_underlying hu, sizeOf, typeInfo, hi, hsize, Builtin.lenOf, hroom, hf, Addr.add_lit, hst]
      · have hsz2 : (cur.toList.take l.length ++ Lib.strCells s ++ cur.toList.drop (l.length + s.size)).toArray.size = cur.size := by
          simp only [List.size_toArray, List.length_append, List.length_take, List.length_drop, Array.length_toList, Lib.strCells_length]
          omega
        rw [hsz2]
        exact hfz
      · simp only [List.size_toArray, List.length_append, List.length_take, List.length_drop, Array.length_toList, Lib.strCells_length]
        omega
      · rw [htake, strCells_bytes, bytesOf_append, List.take_append_of_le_length (by simp [bytesOf_length]), List.take_of_length_le (by simp [bytesOf_length])]
    · have holds : ∀ j u, (bytesOf l)[j]? = some u → w.cell? ((⟨g, 0, none⟩ : Addr).add j) = some u := by
        intro j u hj
        rw [addr_add]
        have hl : j < l.length := by
          have := (List.getElem?_eq_some_iff.1 hj).1
          rwa [bytesOf_length] at this
        rw [← htake, List.getElem?_take, if_pos hl] at hj
        simp only [World.cell?, hg, Nat.zero_add]
        simpa using hj
      have hr := Lib.run_append_grow_string (P := P) w t u ty e i (.int .u8 0) ht hu hi hz ⟨g, 0, none⟩ l.length cap (bytesOf l) (by rw [bytesOf_length, hsize, Nat.mul_one]) holds s (by omega) (by omega) (by rw [hby]; exact growslice_fits (by omega) (by omega))
      have hge := grownCap_ge w (l.length + s.size) cap e
      have hcm2 : grownCap w (l.length + s.size) cap e ≤ maxLen := grownCap_le_maxLen w (l.length + s.size) cap e h63
      refine ⟨_, _, hr, .inr ⟨w.heap.size, _, _, (0, 0), by rw [List.length_append, hsz], hbase, heap_alloc_new w.drew _, .inl rfl, by rw [List.length_append, hsz]; exact hge, hcm2, ?_, ?_⟩, ⟨rfl, rfl, rfl, by simp, fun k hk _ => (World.grownBy_alloc w.drew _ none).block k hk (by simp)⟩⟩
      · have hz1 : (Value.int IntKind.u8 0).cells.size = 1 := rfl
        simp only [Array.size_append, List.size_toArray, size_zeroCells, hz1, bytesOf_length, Lib.strCells_length]
        omega
      · simp only [Array.toList_append]
        rw [strCells_bytes, bytesOf_append, List.take_append_of_le_length (by simp [bytesOf_length]), List.take_of_length_le (by simp [bytesOf_length])]
/-- Go's []byte: a slice of uint8 -/
structure ByteT (P : Program) (t e : TypeId) : Prop where
  sl : P.underlying t = some (.slice e)
  el : P.underlying e = some (.int .u8)
  inf : ∃ i : TypeInfo, P.info? e = some i ∧ i.zero = some (.int .u8 0) ∧ i.size = 1 ∧ i.bytes = 1
theorem ByteT.of {t e : TypeId} (h1 : P.underlying t = some (.slice e)) (h2 : P.underlying e = some (.int .u8)) (h : (P.info? e).map (fun i => (i.zero, i.size, i.bytes)) = some (some (.int .u8 0), 1, 1)) : ByteT P t e := by
  refine ⟨h1, h2, ?_⟩
  cases hi : P.info? e with
  | none => rw [hi] at h; simp at h
  | some i =>
    rw [hi] at h
    simp at h
    exact ⟨i, rfl, h.1, h.2.1, h.2.2⟩
theorem wp_appB {t e : TypeId} (E : ByteT P t e) {o : Oper} {a : Act} {K : Act → World → Prop} {Q : Exit → Act → World → Prop} (s x : Operand)
    (ho : o.op = .call { callee := .builtin .append, args := #[s, x], argTypes := #[t, t] })
    {B : Nat} {v : Value} {l : List UInt8} (hown : OwnB e w B v l) (hs : a.eval s = v)
    {vx : Value} {m : List UInt8} (hx : Sl w vx m.length (bytesOf m)) (hvx : a.eval x = vx) (hb : l.length + m.length ≤ 140737488355328) (hbase : B ≤ w.heap.size)
    (h : ∀ v' w', OwnB e w' B v' (l ++ m) → w.grownBy w' v.ownBlock → K (a.put o.dst v') w') : o.wp P a w K Q := by
  obtain ⟨i, h1, h2, h3, h4⟩ := E.inf
  obtain ⟨v', w', hr, h5, h6⟩ := run_appB (P := P) w t o.type e i E.sl h1 h2 h3 h4 hown hx (by unfold maxLen; omega) hb hbase
  unfold Oper.wp execOp
  simp only [ho, resolve, invoke, builtin, Sem.run_bind, Sem.run_pure, Result.andThen_ok, List.map_toArray, List.map_cons, List.map_nil, hs, hvx, hr]
  exact h v' w' h5 h6
theorem wpList_appB {t e : TypeId} (E : ByteT P t e) {ops : Array Oper} {rest : List Oper} {o : Oper} {a : Act} {Q : Exit → Act → World → Prop} (hgd : o.guard = none) (s x : Operand)
    (ho : o.op = .call { callee := .builtin .append, args := #[s, x], argTypes := #[t, t] })
    {B : Nat} {v : Value} {l : List UInt8} (hown : OwnB e w B v l) (hs : a.eval s = v)
    {vx : Value} {m : List UInt8} (hx : Sl w vx m.length (bytesOf m)) (hvx : a.eval x = vx) (hb : l.length + m.length ≤ 140737488355328) (hbase : B ≤ w.heap.size)
    (h : ∀ v' w', OwnB e w' B v' (l ++ m) → w.grownBy w' v.ownBlock → wpList P ops Q rest (a.put o.dst v') w') : wpList P ops Q (o :: rest) a w :=
  wpList_plain hgd fun _ hK => wp_appB w E s x ho hown hs hx hvx hb hbase (fun v' w' a1 a2 => hK _ _ (h v' w' a1 a2))
theorem wp_appBs {t u e : TypeId} (E : ByteT P t e) (hu : P.underlying u = some .string) {o : Oper} {a : Act} {K : Act → World → Prop} {Q : Exit → Act → World → Prop} (s x : Operand)
    (ho : o.op = .call { callee := .builtin .append, args := #[s, x], argTypes := #[t, u] })
    {B : Nat} {v : Value} {l : List UInt8} (hown : OwnB e w B v l) (hs : a.eval s = v)
    {m : ByteArray} (hvx : a.eval x = .string m) (hb : l.length + m.size ≤ 140737488355328) (hbase : B ≤ w.heap.size)
    (h : ∀ v' w', OwnB e w' B v' (l ++ m.data.toList) → w.grownBy w' v.ownBlock → K (a.put o.dst v') w') : o.wp P a w K Q := by
  obtain ⟨i, h1, h2, h3, h4⟩ := E.inf
  obtain ⟨v', w', hr, h5, h6⟩ := run_appBs (P := P) w t u o.type e i E.sl hu h1 h2 h3 h4 hown m (by unfold maxLen; omega) hb hbase
  unfold Oper.wp execOp
  simp only [ho, resolve, invoke, builtin, Sem.run_bind, Sem.run_pure, Result.andThen_ok, List.map_toArray, List.map_cons, List.map_nil, hs, hvx, hr]
  exact h v' w' h5 h6
theorem wpList_appBs {t u e : TypeId} (E : ByteT P t e) (hu : P.underlying u = some .string) {ops : Array Oper} {rest : List Oper} {o : Oper} {a : Act} {Q : Exit → Act → World → Prop} (hgd : o.guard = none) (s x : Operand)
    (ho : o.op = .call { callee := .builtin .append, args := #[s, x], argTypes := #[t, u] })
    {B : Nat} {v : Value} {l : List UInt8} (hown : OwnB e w B v l) (hs : a.eval s = v)
    {m : ByteArray} (hvx : a.eval x = .string m) (hb : l.length + m.size ≤ 140737488355328) (hbase : B ≤ w.heap.size)
    (h : ∀ v' w', OwnB e w' B v' (l ++ m.data.toList) → w.grownBy w' v.ownBlock → wpList P ops Q rest (a.put o.dst v') w') : wpList P ops Q (o :: rest) a w :=
  wpList_plain hgd fun _ hK => wp_appBs w E hu s x ho hown hs hvx hb hbase (fun v' w' a1 a2 => hK _ _ (h v' w' a1 a2))
/-- a string out of bytes -/
theorem run_string_of {t u e : TypeId} (E : ByteT P t e) (hu : P.underlying u = some .string) {v : Value} {l : List UInt8} (h : Sl w v l.length (bytesOf l)) :
    (convert t u v).run P w = .ok (.string ⟨l.toArray⟩) w := by
  rcases h with ⟨rfl, hn, _⟩ | ⟨b, off, cap, rfl, _, _, hc⟩
  · have : l = [] := List.eq_nil_of_length_eq_zero hn
    subst this
    exact run_convert_bytes_nil w t e E.sl E.el 0 0 u hu
  · refine run_convert_bytes_back w t u e ⟨b, off, none⟩ cap l E.sl E.el hu (fun j hj => ?_)
    rw [addr_add]
    refine hc j _ ?_
    unfold bytesOf
    rw [List.getElem?_map, List.getElem?_eq_getElem hj]
    rfl
end
theorem RowKit.Below.appB {a w w' : World} {v : Value} {e : TypeId} {l : List UInt8} (h : Below a.heap.size a w) (hg : w.grownBy w' v.ownBlock) (ho : OwnB e w a.heap.size v l) : Below a.heap.size a w' := by
  refine ⟨hg.os.trans h.os, hg.tape.trans h.tape, hg.output.trans h.output, Nat.le_trans h.size hg.size, fun k hk => ?_⟩
  rw [hg.block k (Nat.lt_of_lt_of_le hk h.size) (fun e => by have := ho.lt k e.symm; omega)]
  exact h.block k hk
end Go
