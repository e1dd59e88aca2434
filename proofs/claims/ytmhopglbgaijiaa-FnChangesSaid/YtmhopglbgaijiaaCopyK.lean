/- Copying, clearing and lengthening rows of elements of whatever many cells, in a block that is known whole. No condition but the stated ones. -/
import Derived.Test.YtmhopglbgaijiaaMark
import Derived.Laws.CopyOwn
import Derived.Lib.AppendZerosOnto
import Derived.Lib.Overlaps
set_option linter.unusedVariables false
set_option linter.unusedSimpArgs false
namespace Go
open Go.RowKit

theorem setRow_setB {w : World} {g : Nat} {cur cs : Array Value} {t : TypeId} (hg : w.heap[g]? = some (.cells cur t (0, 0))) : w.setRow g cs = w.setB g (.cells cs t) := by
  unfold World.setRow World.setB
  congr 1
  apply Array.ext_getElem?
  intro i
  have hl := World.lt_of_get hg
  rw [Array.getElem?_modify, Array.getElem?_setIfInBounds]
  by_cases e : g = i
  · subst e
    rw [if_pos rfl, if_pos rfl, if_pos hl, hg]
    rfl
  · rw [if_neg e, if_neg e]
section
variable {P : Program} {w : World} {t e : TypeId} {k bytes : Nat}
theorem run_copyK (E : Elem P t e k bytes) (ty : TypeId) (g off dLen dCap : Nat) (ad : Addr) (sLen sCap : Nat) (cur : List Value) (T : TypeId) (hg : w.heap[g]? = some (.cells cur.toArray T (0, 0)))
    (cs : List Value) (hn : cs.length = Nat.min sLen dLen * k) (hsrc : ∀ j v, cs[j]? = some v → w.cell? (ad.add j) = some v) (hfit : off + cs.length ≤ cur.length) (h1 : ∀ v ∈ cs, v.oneCell' = true) :
    (Builtin.copy_ #[t, t] ty #[.slice (some ⟨g, off, none⟩) dLen dCap, .slice (some ad) sLen sCap]).run P w = .ok (goInt (Nat.min sLen dLen)) (w.setB g (.cells (splice cur off cs).toArray T)) := by
  obtain ⟨i, z, hi, hz, hs, hb, hzz⟩ := E.hi
  have hl := run_loadCells_list (P := P) w ad cs hsrc
  have hst := run_storeCells_at P g off T cs 0 cur.toArray w hg (by simpa using hfit) h1
  rw [setRow_setB hg] at hst
  have e1 : (cur.toArray.toList.take (off + 0) ++ cs ++ cur.toArray.toList.drop (off + 0 + cs.length)) = splice cur off cs := by unfold splice; simp
  rw [e1] at hst
  subst hs
  simp [Builtin.copy_, run_underlying E.ht, Builtin.lenOf, Builtin.firstCells, sizeOf, typeInfo, hi, ← hn, hl, hst]
theorem app_zeros {tn : TypeId} (E : Elem P t e k bytes) (htn : P.underlying tn = some (.int .i64)) (base : Option Addr) (sLen sCap : Nat) (olds : List Value) (hol : olds.length = sLen * k) (hold : base = none → sLen = 0) (hsrc : ∀ ad, base = some ad → ∀ j v, olds[j]? = some v → w.cell? (ad.add j) = some v)
    (m : Nat) (h0 : 0 < m) (hg : sCap < sLen + m) (hbig : (sLen + m) * bytes ≤ 140737488355328) (hmb : m * bytes ≤ 281474976710656) (h63 : sLen + m ≤ 9223372036854775807) :
    ∃ (G : Nat) (L : List Value), sLen + m ≤ G ∧ G ≤ maxLen ∧ L.length = G * k ∧ L.take (sLen * k) = olds ∧
      ∀ ty, (Builtin.append_ #[t, tn] ty #[.slice base sLen sCap, .int .i64 (m : Int)]).run P w = .ok (.slice (some ⟨w.heap.size, 0, none⟩) (sLen + m) G) (w.drew.alloc (.cells L.toArray e)) := by
  obtain ⟨i, z, hi, hz, hs, hb, hzz⟩ := E.hi
  have hpos := E.pos
  subst hs hb
  have ho : (Builtin.firstCells i.size sLen (.slice base sLen sCap)).run P w.drew = .ok olds.toArray w.drew := by
    cases base with
    | none =>
      have := hold rfl
      subst this
      have : olds = [] := List.eq_nil_of_length_eq_zero (by omega)
      subst this
      exact run_firstCells_none w.drew i.size 0 0 sCap
    | some ad => exact run_firstCells_some w.drew i.size sLen ad sLen sCap olds hol (fun j v hj => hsrc ad rfl j v hj)
  refine ⟨grownCap w (sLen + m) sCap e, olds ++ (Builtin.zeroCells z.cells m).toList ++ (Builtin.zeroCells z.cells (grownCap w (sLen + m) sCap e - (sLen + m))).toList, grownCap_ge w _ _ _, grownCap_le_maxLen w _ _ _ (by unfold maxLen; omega), ?_, ?_, fun ty => ?_⟩
  · have hge := grownCap_ge w (sLen + m) sCap e
    rw [List.length_append, List.length_append, hol]
    simp only [Builtin.zeroCells, Array.length_toList, Array.size_map, Array.size_range, hzz]
    rw [← Nat.add_mul, ← Nat.add_mul]
    congr 1
    omega
  · rw [List.append_assoc, ← hol, List.take_left]
  · have h := Lib.run_append_grow_zeros w t tn ty e i z .i64 .i64 E.ht htn hi hz base sLen sCap olds ho m h0 hpos hg (by omega) hmb (growslice_fits hg hbig)
    rw [h]
    congr 3
    apply Array.ext'
    simp
theorem wp_copyR {o : Oper} {a : Act} {K : Act → World → Prop} {Q : Exit → Act → World → Prop} {w' : World} {v u r : Value} (d s : Operand) (t : TypeId)
    (ho : o.op = .call { callee := .builtin .copy, args := #[d, s], argTypes := #[t, t] }) (hd : a.eval d = v) (hs : a.eval s = u)
    (hr : (Builtin.copy_ #[t, t] o.type #[v, u]).run P w = .ok r w') (h : K (a.put o.dst r) w') : o.wp P a w K Q := by
  unfold Oper.wp execOp
  simp only [ho, resolve, invoke, builtin, Sem.run_bind, Sem.run_pure, Result.andThen_ok, List.map_toArray, List.map_cons, List.map_nil, hd, hs, hr]
  exact h
theorem wpList_copyR {ops : Array Oper} {rest : List Oper} {o : Oper} {a : Act} {Q : Exit → Act → World → Prop} {w' : World} {v u r : Value} (hgd : o.guard = none) (d s : Operand) (t : TypeId)
    (ho : o.op = .call { callee := .builtin .copy, args := #[d, s], argTypes := #[t, t] }) (hd : a.eval d = v) (hs : a.eval s = u)
    (hr : (Builtin.copy_ #[t, t] o.type #[v, u]).run P w = .ok r w') (h : wpList P ops Q rest (a.put o.dst r) w') : wpList P ops Q (o :: rest) a w :=
  wpList_plain hgd fun _ hK => wp_copyR d s t ho hd hs hr (hK _ _ h)
theorem wpList_appR {ops : Array Oper} {rest : List Oper} {o : Oper} {a : Act} {Q : Exit → Act → World → Prop} {w' : World} {v u r : Value} (hgd : o.guard = none) (d s : Operand) (t tn : TypeId)
    (ho : o.op = .call { callee := .builtin .append, args := #[d, s], argTypes := #[t, tn] }) (hd : a.eval d = v) (hs : a.eval s = u)
    (hr : (Builtin.append_ #[t, tn] o.type #[v, u]).run P w = .ok r w') (h : wpList P ops Q rest (a.put o.dst r) w') : wpList P ops Q (o :: rest) a w :=
  wpList_plain hgd fun _ hK => by
    unfold Oper.wp execOp
    simp only [ho, resolve, invoke, builtin, Sem.run_bind, Sem.run_pure, Result.andThen_ok, List.map_toArray, List.map_cons, List.map_nil, hd, hs, hr]
    exact hK _ _ h
theorem zeros_one {z : Value} (n : Nat) (hz : ∀ u ∈ z.cells, u.oneCell' = true) : ∀ v ∈ (Builtin.zeroCells z.cells n).toList, v.oneCell' = true := by
  intro v hv
  simp only [Builtin.zeroCells, Array.toList_map, List.mem_map, Array.mem_toList_iff, Array.mem_range] at hv
  obtain ⟨i, hi, rfl⟩ := hv
  have h0 : 0 < z.cells.size := by
    rcases Nat.eq_zero_or_pos z.cells.size with h | h
    · rw [h] at hi; omega
    · exact h
  have hlt : i % z.cells.size < z.cells.size := Nat.mod_lt _ h0
  rw [getElem!_pos z.cells _ hlt]
  exact hz _ (Array.getElem_mem hlt)
theorem run_clearK (z : Value) (ht : P.underlying t = some (.slice e)) (hv0 : (P.info? e).map (fun i => i.zero) = some (some z)) (h1 : ∀ u ∈ z.cells, u.oneCell' = true) (ty : TypeId) (g off n c : Nat) (hn : 0 < n) (cur : List Value) (T : TypeId) (hg : w.heap[g]? = some (.cells cur.toArray T (0, 0)))
    (hfit : off + n * z.cells.size ≤ cur.length) :
    (Builtin.clear_ #[t] ty #[.slice (some ⟨g, off, none⟩) n c]).run P w = .ok (.tuple #[]) (w.setB g (.cells (splice cur off (Builtin.zeroCells z.cells n).toList).toArray T)) := by
  have hv : ∀ w, (zeroValue e).run P w = .ok z w := fun w => by
    cases hi : P.info? e with
    | none => rw [hi] at hv0; cases hv0
    | some i =>
      rw [hi] at hv0
      have hz : i.zero = some z := by simpa using hv0
      simp [zeroValue, typeInfo, hi, hz]
  have hl : (Builtin.zeroCells z.cells n).toList.length = n * z.cells.size := by simp [Builtin.zeroCells]
  have hst := run_storeCells_at P g off T (Builtin.zeroCells z.cells n).toList 0 cur.toArray w hg (by rw [hl]; simpa using hfit) (zeros_one n h1)
  rw [setRow_setB hg] at hst
  have e1 : (cur.toArray.toList.take (off + 0) ++ (Builtin.zeroCells z.cells n).toList ++ cur.toArray.toList.drop (off + 0 + (Builtin.zeroCells z.cells n).toList.length)) = splice cur off (Builtin.zeroCells z.cells n).toList := by unfold splice; simp
  rw [e1] at hst
  obtain ⟨m, rfl⟩ : ∃ m, n = m + 1 := ⟨n - 1, by omega⟩
  simp [Builtin.clear_, run_underlying ht, hv, hst]
end
/-- what lies ahead of a splice -/
theorem take_splice {α : Type} (L : List α) (off : Nat) (cs : List α) (m : Nat) (h : m ≤ off) (hl : off ≤ L.length) : (splice L off cs).take m = L.take m := by
  unfold splice
  rw [List.take_append_of_le_length (by rw [List.length_take]; omega), List.take_take, Nat.min_eq_left h]
theorem upon_grown {w w' : World} {row : Option Nat} (h : w.grownBy w' row) : Upon row.toList w w' :=
  ⟨h.os, h.tape, h.output, h.size, fun b hb hn => h.block b hb (fun e => hn (by rw [← e]; simp))⟩
theorem getElem?_splice_in {α : Type} (L : List α) (off : Nat) (cs : List α) (hl : off + cs.length ≤ L.length) (j : Nat) (hj : j < cs.length) : (splice L off cs)[off + j]? = cs[j]? := by
  unfold splice
  rw [List.getElem?_append_right (by rw [List.length_take]; omega), List.length_take, Nat.min_eq_left (by omega), Nat.add_sub_cancel_left, List.getElem?_append_left hj]
theorem splice_def {α : Type} (L : List α) (off : Nat) (cs : List α) : splice L off cs = L.take off ++ (cs ++ L.drop (off + cs.length)) := rfl
/-- one splice laid right behind another -/
theorem splice_then {α : Type} (L : List α) (off : Nat) (cs ds : List α) (hl : off + cs.length + ds.length ≤ L.length) : (splice (splice L off cs) (off + cs.length) ds).take (off + cs.length + ds.length) = L.take off ++ (cs ++ ds) := by
  have e1 : (splice L off cs).take (off + cs.length) = L.take off ++ cs := by
    unfold splice
    rw [← List.append_assoc, List.take_left' (by rw [List.length_append, List.length_take]; omega)]
  have e2 : (splice (splice L off cs) (off + cs.length) ds) = (L.take off ++ cs) ++ (ds ++ (splice L off cs).drop (off + cs.length + ds.length)) := by
    rw [splice_def (splice L off cs), e1]
  rw [e2, ← List.append_assoc, List.take_left' (by simp only [List.length_append, List.length_take]; omega), List.append_assoc]
/-- one splice laid right ahead of another -/
theorem splice_ahead {α : Type} (L : List α) (off : Nat) (cs ds : List α) (hl : off + cs.length + ds.length ≤ L.length) : (splice (splice L (off + cs.length) ds) off cs).take (off + cs.length + ds.length) = L.take off ++ (cs ++ ds) := by
  have e1 : (splice L (off + cs.length) ds).take off = L.take off := take_splice _ _ _ _ (by omega) (by omega)
  have e2 : (splice L (off + cs.length) ds).drop (off + cs.length) = ds ++ L.drop (off + cs.length + ds.length) := by
    unfold splice
    rw [List.drop_left' (by rw [List.length_take]; omega)]
  have e3 : splice (splice L (off + cs.length) ds) off cs = (L.take off ++ (cs ++ ds)) ++ L.drop (off + cs.length + ds.length) := by
    rw [splice_def (splice L (off + cs.length) ds), e1, e2]
    simp only [List.append_assoc]
  rw [e3, List.take_left' (by simp only [List.length_append, List.length_take]; omega)]
end Go
