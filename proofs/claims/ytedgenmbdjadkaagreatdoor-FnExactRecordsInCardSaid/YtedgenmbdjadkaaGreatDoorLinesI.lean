/- The program's LinesIn: the library's iterator over the pieces of a text, and the loop over it. Each condition stands in its theorem. -/
import Derived.Test.YtedgenmbdjadkaaGreatDoorLines
import Derived.Test.YtedgenmbdjadkaaGreatDoorRange
import Derived.Test.YtedgenmbdjadkaaGreatDoorShelf
import Derived.RangeFuncNested
import Derived.RangeFuncBound
import Derived.RangeFuncCalls
import Derived.RangeFuncLeaves
import Derived.RangeFuncBox
import Derived.Shelf.Abstract
import Derived.WalkKit
import Derived.OwnWalkIn
import Derived.TacticsInMore
import Derived.LoopNIn
import Derived.LoopIn
import Derived.Maps.AppendAt
set_option linter.unusedVariables false
set_option linter.unusedSimpArgs false
namespace Go.Proofs.YtedgenmbdjadkaaGreatDoor
open Go.ChangeShapes Go.WideShapes Go.ChangeAt Go.RowKit Go.Shelf
attribute [local go_sem] Oper.semAt_some

/-- does a text end with byte 10? -/
def endsB (s : ByteArray) : Bool := s.data.toList.getLast? == some 10
theorem endsB_nil {s : ByteArray} (h : s.size = 0) : endsB s = false := by
  have e : s.data.toList = [] := List.eq_nil_of_length_eq_zero (by simpa using h)
  unfold endsB
  rw [e]
  rfl
theorem endsB_cut {s : ByteArray} {m : Nat} (h : s.size = m + 1) : ((s.extract m s.size).toList == [10]) = endsB s := by
  have e2 : s.data.toList.length = m + 1 := by simpa using h
  have e1 : (s.extract m s.size).toList = [s.data.toList[m]] := by
    rw [bl1, cut_list, h, show m + 1 - m = 0 + 1 by omega, List.take_succ_eq_append_getElem (by rw [List.length_drop]; omega)]
    simp
  rw [e1]
  have e3 : s.data.toList.getLast? = some s.data.toList[m] := by
    rw [List.getLast?_eq_getElem?, show s.data.toList.length - 1 = m by omega]
    exact List.getElem?_eq_getElem (by omega)
  unfold endsB
  rw [e3]
  generalize s.data.toList[m] = c
  by_cases hc : c = 10
  · subst hc; rfl
  · have h1 : ([c] == [(10 : UInt8)]) = false := by rw [beq_eq_false_iff_ne]; simp [hc]
    have h2 : ((some c : Option UInt8) == some 10) = false := by rw [beq_eq_false_iff_ne]; simp [hc]
    rw [h1, h2]
theorem lib_HasSuffix0 (s : ByteArray) (w : World) (hs : s.size ≤ 1048577) :
    Calls Tryz.prog 95 #[.string s, .string ⟨#[10]⟩] w fun e w' => e = .returned (.bool (endsB s)) ∧ w = w' := by
  have hl : (⟨#[10]⟩ : ByteArray).size = 1 := rfl
  by_cases h0 : s.size = 0
  · have he := endsB_nil h0
    have HE := Lib.hid he
    have h1 : ¬ (1 : Int) ≤ s.size := by omega
    clear he
    go_enter Tryz.func95, Tryz.ntmps95
    go_wp2
    go_ret
    exact ⟨by rw [HE.out]; rfl, rfl⟩
  · obtain ⟨m, hm⟩ : ∃ m, s.size = m + 1 := ⟨s.size - 1, by omega⟩
    have he := endsB_cut hm
    have HE := Lib.hid he
    have hmi : (s.size : Int) - 1 = m := by omega
    have hml : (m : Int) ≤ s.size := by omega
    have h1 : (1 : Int) ≤ s.size := by omega
    clear he hm h0
    go_enter Tryz.func95, Tryz.ntmps95
    go_wp2
    go_ret
    exact ⟨by rw [← HE.out]; rfl, rfl⟩
theorem lib_HasSuffix (s : ByteArray) (w : World) (hs : s.size ≤ 1048577) :
    Calls Tryz.prog 68 #[.string s, .string ⟨#[10]⟩] w fun e w' => e = .returned (.bool (endsB s)) ∧ w = w' := by
  go_enter Tryz.func68, Tryz.ntmps68
  go_wp2_with fail
  (go_at_call 95; refine (lib_HasSuffix0 s _ hs).mono ?_; rintro e w' ⟨rfl, rfl⟩)
  go_wp2
  go_ret
  exact ⟨rfl, rfl⟩
/-- the world in which the iterator has been made -/
def seqW (s : ByteArray) (w : World) : World := ((w.alloc (.cells #[.string s] 9)).alloc (.cells #[.string ⟨#[10]⟩] 9)).alloc (.cells #[.int .i64 1] 3)
def seqV (B : Nat) : Value := .func (.func 109) #[] #[.pointer (some ⟨B + 1, 0, none⟩), .pointer (some ⟨B, 0, none⟩), .pointer (some ⟨B + 2, 0, none⟩)]
theorem lib_splitSeq (s : ByteArray) (w : World) :
    Calls Tryz.prog 94 #[.string s, .string ⟨#[10]⟩, .int .i64 1] w fun e w' => e = .returned (seqV w.heap.size) ∧ w' = seqW s w := by
  unfold seqV seqW
  go_enter Tryz.func94, Tryz.ntmps94
  go_wp2
  go_ret
  exact ⟨rfl, rfl⟩
theorem lib_SplitAfterSeq (s : ByteArray) (w : World) :
    Calls Tryz.prog 67 #[.string s, .string ⟨#[10]⟩] w fun e w' => e = .returned (seqV w.heap.size) ∧ w' = seqW s w := by
  go_enter Tryz.func67, Tryz.ntmps67
  go_wp2_with fail
  (go_at_call 94; refine (lib_splitSeq s _).mono ?_; rintro e w' ⟨rfl, rfl⟩)
  go_wp2
  go_ret
  exact ⟨rfl, rfl⟩
/-- the first byte 10, or none -/
theorem at10 : ∀ L : List UInt8, (Lib.index L [10] = -1 ∧ (10 : UInt8) ∉ L) ∨ ∃ a r, L = a ++ 10 :: r ∧ (10 : UInt8) ∉ a ∧ Lib.index L [10] = (a.length : Int) := by
  intro L
  rw [Lib.index_one]
  induction L with
  | nil => exact .inl ⟨rfl, by simp⟩
  | cons b L ih =>
    by_cases hb : b = 10
    · subst hb
      exact .inr ⟨[], L, rfl, by simp, by simp [Lib.indexByte]⟩
    · have hb2 : (b == 10) = false := by simp [hb]
      rcases ih with ⟨h1, h2⟩ | ⟨a, r, h1, h2, h3⟩
      · refine .inl ⟨?_, ?_⟩
        · simp [Lib.indexByte, hb2, h1]
        · intro hm
          rcases List.mem_cons.1 hm with hm | hm
          · exact hb hm.symm
          · exact h2 hm
      · refine .inr ⟨b :: a, r, by rw [h1]; rfl, ?_, ?_⟩
        · intro hm
          rcases List.mem_cons.1 hm with hm | hm
          · exact hb hm.symm
          · exact h2 hm
        · simp [Lib.indexByte, hb2, h3]
/-- the pieces of a text -/
def Pieces (L : List UInt8) (xs : List ByteArray) : Prop := ∃ r, (10 : UInt8) ∉ r ∧ xs.map (·.data.toList) = linesL L ++ [r]
def sizeAt (w : World) (b : Nat) : Nat := match w.cell? ⟨b, 0, none⟩ with
  | some (.string s) => s.size
  | _ => 0
theorem sizeAt_eq {w : World} {b : Nat} {s : ByteArray} (h : w.cell? ⟨b, 0, none⟩ = some (.string s)) : sizeAt w b = s.size := by unfold sizeAt; rw [h]
theorem setCell_box {w : World} {p : Nat} {u v : Value} {t : TypeId} {f : Nat × Nat} (h : w.heap[p]? = some (.cells #[u] t f)) : w.setCell ⟨p, 0, none⟩ v = w.setB p (.cells #[v] t f) := by
  have hp := (Array.getElem?_eq_some_iff.1 h).1
  have := World.setCell_setB_at w p 0 v #[u] t f hp
  rw [World.setB_self h] at this
  exact this
/-- the iterator's cells -/
def SeqK (B : Nat) (p : Nat) : Prop := p = 0 ∨ (B ≤ p ∧ p < B + 3)
set_option maxRecDepth 100000 in
set_option maxHeartbeats 4000000 in
theorem lib_seq (n B : Nat) (s : ByteArray) (hs : s.size ≤ 1048576) (w : World) (hB1 : w.heap[B]? = some (.cells #[.string s] 9 (0, 0))) (hB2 : w.heap[B + 1]? = some (.cells #[.string ⟨#[10]⟩] 9 (0, 0)))
    (hB3 : w.heap[B + 2]? = some (.cells #[.int .i64 1] 3 (0, 0))) (hm : ∃ m, w.cell? ⟨0, 0, none⟩ = some (.int .i64 m)) (hml : 0 < B) :
    SeqOwn n Tryz.prog 109 #[.pointer (some ⟨B + 1, 0, none⟩), .pointer (some ⟨B, 0, none⟩), .pointer (some ⟨B + 2, 0, none⟩)] (fun x : ByteArray => Value.string x) B (B + 1) (SeqK B) ((linesL s.data.toList).length + 1) (fun x => x.size ≤ 1048577) (Pieces s.data.toList) w := by
  intro l J W hbw hab htn hY h0
  obtain ⟨m, hm⟩ := hm
  have k1 := (hbw.block _ (Array.getElem?_eq_some_iff.1 hB1).1).trans hB1
  have k2 := (hbw.block _ (Array.getElem?_eq_some_iff.1 hB2).1).trans hB2
  have k3 := (hbw.block _ (Array.getElem?_eq_some_iff.1 hB3).1).trans hB3
  have km := (Grew.below hbw).cell hm
  have hsz : B + 2 < W.heap.size := (Array.getElem?_eq_some_iff.1 k3).1
  clear hB1 hB2 hB3 hm hbw
  have c1 : W.cell? ⟨B, 0, none⟩ = some (.string s) := by simp [World.cell?, k1]
  have c2 : W.cell? ⟨B + 1, 0, none⟩ = some (.string ⟨#[10]⟩) := by simp [World.cell?, k2]
  refine callsIn_of_wp Tryz.func109 rfl trivial ?_ rfl
  simp only [Tryz.ntmps109, List.size_toArray, List.length_cons, List.length_nil, Nat.reduceAdd, Nat.reduceSub, Array.replicate_succ, Array.replicate_zero, List.push_toArray, List.append_toArray, List.nil_append, List.cons_append]
  gi_wp2
  gi_loopw [7, 8] (fun _ _ wr => ∃ (pre : List ByteArray) (cur : ByteArray), wr.heap[B]? = some (.cells #[.string cur] 9 (0, 0)) ∧ wr.heap[B + 1]? = some (.cells #[.string ⟨#[10]⟩] 9 (0, 0)) ∧ wr.heap[B + 2]? = some (.cells #[.int .i64 1] 3 (0, 0)) ∧ wr.cell? ⟨0, 0, none⟩ = some (.int .i64 m) ∧ J pre wr ∧ pre.map (·.data.toList) ++ linesL cur.data.toList = linesL s.data.toList ∧ cur.size ≤ s.size)
    (fun _ _ wr => sizeAt wr B)
  case atStart => exact ⟨[], s, k1, k2, k3, km, h0, by simp, by omega⟩
  case round =>
    obtain ⟨pre, cur, b1, b2, b3, bm, hj, hlin, hcs⟩ := hrel
    have hB : B < wr.heap.size := (Array.getElem?_eq_some_iff.1 b1).1
    have d1 : wr.cell? ⟨B, 0, none⟩ = some (.string cur) := by simp [World.cell?, b1]
    have d2 : wr.cell? ⟨B + 1, 0, none⟩ = some (.string ⟨#[10]⟩) := by simp [World.cell?, b2]
    have d3 : wr.cell? ⟨B + 2, 0, none⟩ = some (.int .i64 1) := by simp [World.cell?, b3]
    have hpl : pre.length + (linesL cur.data.toList).length = (linesL s.data.toList).length := by rw [← hlin, List.length_append, List.length_map]
    have hcl : cur.data.toList.length = cur.size := by simp
    have HI := Lib.hid (Tryz.strings_Index cur ⟨#[10]⟩ m wr (by omega) bm)
    rcases at10 cur.data.toList with ⟨hi, hno⟩ | ⟨x, r, hx, hno, hi⟩
    · have HI2 := Lib.hid hi
      obtain ⟨fn, tmps, assign, body, hy, hR⟩ := hY pre cur wr hj (by omega) (by omega)
      have HR := Lib.hid hR
      have HJ := Lib.hid hj
      have HL := Lib.hid hlin
      clear hR hj hlin hcl hpl hi
      gi_wp2_with (refine ⟨trivial, (fun h => by simp [Fence.wide] at h), ?_⟩; gi_at_call 111; refine (callsIn_wide.2 HI.out).mono ?_; rintro e w' ⟨rfl, rfl⟩; rw [HI2.out])
      refine ⟨(fun h => by simp [Fence.wide] at h), HR.out.mono ?_⟩
      rintro e W3 ⟨rfl, hJ3, _, _⟩
      gi_wp2
      go_end0
      exact ⟨⟨_, rfl⟩, pre ++ [cur], ⟨cur.data.toList, hno, by rw [List.map_append, ← HL.out, linesL_none hno]; simp⟩, hJ3⟩
    · have HI2 := Lib.hid hi
      have hxl : cur.size = x.length + (r.length + 1) := by rw [← hcl, hx, List.length_append, List.length_cons]
      have hL2 := hlin
      rw [hx, linesL_app r hno] at hL2
      have e1 : (cur.extract 0 (x.length + 1)).data.toList = x ++ [10] := by
        rw [cut_list, hx, List.drop_zero, Nat.sub_zero, List.take_length_add_append]
        rfl
      have e2 : (cur.extract (x.length + 1) cur.size).data.toList = r := by
        rw [cut_list, hx, List.drop_length_add_append, List.drop_succ_cons, List.drop_zero, List.take_of_length_le (by omega)]
      have hfs : (x.length : Int) + 1 ≤ cur.size := by omega
      obtain ⟨fn, tmps, assign, body, hy, hR⟩ := hY pre (cur.extract 0 (x.length + 1)) wr hj (by omega) (by rw [ByteArray.size_extract]; omega)
      have HR := Lib.hid hR
      have HJ := Lib.hid hj
      have HL := Lib.hid hL2
      have HE1 := Lib.hid e1
      have HE2 := Lib.hid e2
      have HXL := Lib.hid hxl
      have HM := Lib.hid (sizeAt_eq d1)
      clear hR hj hlin hcl hpl hi hL2 hx e1 e2 hxl
      gi_wp2_with (refine ⟨trivial, (fun h => by simp [Fence.wide] at h), ?_⟩; gi_at_call 111; refine (callsIn_wide.2 HI.out).mono ?_; rintro e w' ⟨rfl, rfl⟩; rw [HI2.out])
      refine ⟨(fun h => by simp [Fence.wide] at h), HR.out.mono ?_⟩
      rintro e W3 ⟨rfl, hJ3, hz3, hs3⟩
      have g1 := (hs3 B (.inr (by omega))).trans b1
      have g2 := (hs3 (B + 1) (.inr (by omega))).trans b2
      have g3 := (hs3 (B + 2) (.inr (by omega))).trans b3
      have gm := (World.cell?_of_block (w := w') (a := ⟨0, 0, none⟩) (hs3 0 (.inl rfl))).trans bm
      clear b1 b2 b3 bm d1 d2 d3 hs3
      have d1 : W3.cell? ⟨B, 0, none⟩ = some (.string cur) := by simp [World.cell?, g1]
      have d2 : W3.cell? ⟨B + 1, 0, none⟩ = some (.string ⟨#[10]⟩) := by simp [World.cell?, g2]
      have f1 : W3.frozen? ⟨B, 0, none⟩ = false := by simp [World.frozen?, g1]
      have hB3 : B < W3.heap.size := by omega
      gi_wp2
      rw [setCell_box g1]
      go_roundw
      case rel => 
        refine ⟨pre ++ [cur.extract 0 (x.length + 1)], cur.extract (x.length + 1) cur.size, World.setB_at _ _ _ hB3, (World.setB_get _ _ _ _ (by omega)).trans g2, (World.setB_get _ _ _ _ (by omega)).trans g3, (World.cell?_setB_ne _ _ _ _ _ (by omega)).trans gm, htn _ _ _ _ (by omega) (by omega) hJ3, ?_, ?_⟩
        · rw [List.map_append, HE2.out, List.append_assoc, ← HL.out]
          show _ ++ ([(cur.extract 0 (x.length + 1)).data.toList] ++ _) = _
          rw [HE1.out]
          rfl
        · have := HXL.out
          rw [ByteArray.size_extract]
          omega
      case measure =>
        have := HXL.out
        rw [HM.out, sizeAt_eq (s := cur.extract (x.length + 1) cur.size) (World.cell?_setB_at _ _ _ _ _ _ hB3), ByteArray.size_extract]
        omega

theorem linesL_end {L : List UInt8} {p : List UInt8} (h : p ∈ linesL L) : p.getLast? = some 10 := by
  unfold linesL at h
  obtain ⟨a, ha, rfl⟩ := List.mem_map.1 h
  simp
theorem pieces_ends {L : List UInt8} {xs : List ByteArray} (h : Pieces L xs) : (xs.filter endsB).map (·.data.toList) = linesL L := by
  obtain ⟨r, hr, h⟩ := h
  have h1 : (xs.filter endsB).map (·.data.toList) = (xs.map (·.data.toList)).filter (fun l => l.getLast? == some 10) := by
    rw [List.filter_map]
    rfl
  rw [h1, h, List.filter_append]
  have h2 : (linesL L).filter (fun l => l.getLast? == some 10) = linesL L := by
    rw [List.filter_eq_self]
    intro p hp
    rw [linesL_end hp]
    rfl
  have h3 : [r].filter (fun l => l.getLast? == some 10) = [] := by
    rw [List.filter_eq_nil_iff]
    intro p hp
    rw [List.mem_singleton.1 hp]
    intro hq
    exact hr (List.mem_of_getLast? (eq_of_beq hq))
  rw [h2, h3, List.append_nil]
/-- the library's variable -/
def MaxC (w : World) : Prop := ∃ m, w.cell? ⟨0, 0, none⟩ = some (.int .i64 m)
theorem MaxC.below {w w' : World} (h : MaxC w) (hb : Below w.heap.size w w') : MaxC w' := by
  obtain ⟨m, hm⟩ := h
  exact ⟨m, (Grew.below hb).cell hm⟩
/-- what the loop has gathered -/
def Gath (nb n0 Bo : Nat) (w0 : World) (pre : List ByteArray) (W : World) : Prop := ∃ v, W.heap[Bo]? = some (.cells #[v] 61 (0, 0)) ∧ OwnL rStr 9 W nb v (pre.filter endsB) ∧ Below n0 w0 W ∧ nb ≤ W.heap.size
theorem Gath.own {nb n0 Bo B : Nat} {w0 : World} (h0 : w0.heap.size = n0) (hB : n0 ≤ B) : OwnFrom B (Gath nb n0 Bo w0) := by
  rintro pre W W' row ⟨v, hv, hr, hb, hnb⟩ hg hrow
  obtain ⟨v', hv', hr', rfl⟩ := holdsRow_own (β := List ByteArray) nb Bo 61 9 1 (fun xs => (xs.filter endsB).length) (fun xs => (xs.filter endsB).flatMap rStr.row) (fun _ u => u = v) pre W W' row ⟨v, hv, hr, rfl⟩ hg (fun r e => (hrow r e).2)
  exact ⟨v', hv', hr', hb.grown hg (by have := hb.size; omega) (fun k e => by have := (hrow k e).1; omega), Nat.le_trans hnb hg.size⟩
theorem Gath.turns {nb n0 Bo lo hi : Nat} {w0 : World} (h0 : w0.heap.size = n0) (h1 : Bo < lo) (h2 : n0 ≤ lo) (h3 : hi ≤ nb) : Turns lo hi (Gath nb n0 Bo w0) := by
  rintro pre W p o hlo hhi ⟨v, hv, hr, hb, hnb⟩
  have hg : W.grownBy (W.setB p o) (some p) := ⟨rfl, rfl, rfl, by simp [World.setB_size], fun k _ hk => World.setB_get _ _ _ _ (fun e => hk (by rw [e]))⟩
  refine ⟨v, (World.setB_get _ _ _ _ (by omega)).trans hv, hr.kept hg ?_, hb.grown hg (by have := hb.size; omega) (fun k e => by cases e; omega), Nat.le_trans hnb hg.size⟩
  rcases hr.2 with ⟨rfl, _⟩ | ⟨g, cap, cur, rfl, hgb, _⟩
  · exact .inl rfl
  · exact .inr (fun e => by simp [Value.ownBlock] at e; omega)
theorem lt_of_cell {w : World} {b : Nat} {v : Value} (h : w.cell? ⟨b, 0, none⟩ = some v) : b < w.heap.size := by
  cases hb : w.heap[b]? with
  | none => simp [World.cell?, hb] at h
  | some o => exact (Array.getElem?_eq_some_iff.1 hb).1
theorem cell_new_s (W : World) (v : Value) (t : TypeId) : (W.alloc (.cells #[v] t)).cell? ⟨W.heap.size, 0, none⟩ = some v := by
  have := World.alloc_heap_new W (.cells #[v] t)
  unfold World.cell?
  rw [this]
  rfl
theorem wpListIn_appS {F : Fence} {n : Nat} {w : World} {ops : Array Oper} {rest : List Oper} {o : Oper} {a : Act} {Q : Exit → Act → World → Prop} (hgd : o.guard = none) (s x : Operand)
    (ho : o.op = .call { callee := .builtin .append, args := #[s, x], argTypes := #[61, 61] })
    {B : Nat} {v : Value} {xs : List ByteArray} (hown : OwnL rStr 9 w B v xs) (hs : a.eval s = v) (y : ByteArray) (b : Nat) (hx : a.eval x = .slice (some ⟨b, 0, none⟩) 1 1) (hy : w.cell? ⟨b, 0, none⟩ = some (.string y)) (hl : xs.length ≤ 1099511627776) (hB : B ≤ w.heap.size)
    (h : ∀ v' w', OwnL rStr 9 w' B v' (xs ++ [y]) → w.grownBy w' v.ownBlock → wpListIn F n Tryz.prog ops Q rest (a.put o.dst v') w') : wpListIn F n Tryz.prog ops Q (o :: rest) a w := by
  obtain ⟨i, z, h1, h2, h3, h4, h5⟩ := Tryz.elemStrR.hi
  refine wpListIn_append_own w hgd s x 61 ho B 9 i z 1 16 Tryz.elemStrR.ht h1 h2 h3 h4 (by rw [h5]) (by decide) v xs.length (xs.flatMap rStr.row) hs hown ⟨b, 0, none⟩ 1 1 [.string y] hx rfl ?_ (by simp [Value.oneCell']) (by unfold maxLen; omega) (by omega) hB ?_
  · intro j u hj
    match j, hj with
    | 0, hj => cases hj; exact hy
  · intro v' w' hv' hg _
    refine h v' w' ?_ hg
    show World.ownsRow _ _ _ _ _ _ _
    rw [List.length_append, List.flatMap_append]
    exact hv'
set_option maxRecDepth 100000 in
set_option maxHeartbeats 4000000 in
theorem impl_LinesIn (s : ByteArray) (w : World) (hm : MaxC w) (hs : s.size ≤ 1048576) :
    Calls Tryz.prog 34 #[.string s] w (LnP 9 s w) := by
  have hml : 0 < w.heap.size := by
    obtain ⟨m, hm⟩ := hm
    exact lt_of_cell hm
  have HMX := Lib.hid hm
  clear hm
  refine (callsIn_wide (n := 5)).1 (callsIn_of_wp_marks Tryz.func34 rfl trivial ?_ rfl)
  simp only [Tryz.ntmps34, List.size_toArray, List.length_cons, List.length_nil, Nat.reduceAdd, Nat.reduceSub, Array.replicate_succ, Array.replicate_zero, List.push_toArray, List.append_toArray, List.nil_append, List.cons_append]
  gi_wp2_with (refine ⟨trivial, ?_⟩; gi_at_call 67; refine (callsIn_wide.2 (lib_SplitAfterSeq s _)).mono ?_; rintro e w' ⟨rfl, rfl⟩)
  have hz : (seqW s (w.alloc (.cells #[.slice none 0 0] 61))).heap.size = w.heap.size + 4 := by simp [seqW]
  have hb0 : Below w.heap.size w (seqW s (w.alloc (.cells #[.slice none 0 0] 61))) := by unfold seqW; exact (by repeat (first | with_reducible exact Below.refl _ _ | with_reducible apply Below.ofExt | with_reducible apply Below.ofAlloc | with_reducible apply Below.drew | with_reducible apply Below.ofDrewN | with_reducible assumption | (with_reducible refine Below.setCell ?_ (by first | exact Nat.le_refl _ | (simp [go_sem]; done) | (simp [go_sem]; omega)) _)))
  have hBo : (seqW s (w.alloc (.cells #[.slice none 0 0] 61))).heap[w.heap.size]? = some (.cells #[.slice none 0 0] 61 (0, 0)) := by
    unfold seqW
    rw [Below.heap_alloc _ _ _ (by simp; omega), Below.heap_alloc _ _ _ (by simp; omega), Below.heap_alloc _ _ _ (by simp)]
    exact World.alloc_heap_new _ _
  have hB1 : (seqW s (w.alloc (.cells #[.slice none 0 0] 61))).heap[w.heap.size + 1]? = some (.cells #[.string s] 9 (0, 0)) := by
    unfold seqW
    rw [Below.heap_alloc _ _ _ (by simp), Below.heap_alloc _ _ _ (by simp)]
    exact alloc_newA' _ _ _ (by simp)
  have hB2 : (seqW s (w.alloc (.cells #[.slice none 0 0] 61))).heap[w.heap.size + 1 + 1]? = some (.cells #[.string ⟨#[10]⟩] 9 (0, 0)) := by
    unfold seqW
    rw [Below.heap_alloc _ _ _ (by simp)]
    exact alloc_newA' _ _ _ (by simp)
  have hB3 : (seqW s (w.alloc (.cells #[.slice none 0 0] 61))).heap[w.heap.size + 1 + 2]? = some (.cells #[.int .i64 1] 3 (0, 0)) := by
    unfold seqW
    exact alloc_newA' _ _ _ (by simp)
  generalize hW : seqW s (w.alloc (.cells #[.slice none 0 0] 61)) = W0 at *
  clear hW
  refine range_own (n := 5) (gf := 109) (lb := #[.pointer (some ⟨w.heap.size + 1 + 1, 0, none⟩), .pointer (some ⟨w.heap.size + 1, 0, none⟩), .pointer (some ⟨w.heap.size + 1 + 2, 0, none⟩)]) rfl (enters_of Tryz.func109 (by kernel_rfl) rfl)
    (enc := fun x : ByteArray => Value.string x) (lo := w.heap.size + 1) (hi := w.heap.size + 1 + 1) (by omega) (K := SeqK (w.heap.size + 1)) (fun p hp => by rcases hp with rfl | hp <;> omega) (N := (linesL s.data.toList).length + 1) (X := fun x => x.size ≤ 1048577) (S := Pieces s.data.toList)
    (lib_seq _ (w.heap.size + 1) s hs W0 hB1 hB2 hB3 (by obtain ⟨m, hm⟩ := HMX.out; exact ⟨m, (Grew.below hb0).cell hm⟩) (by omega)) rfl
    (Gath (w.heap.size + 4) w.heap.size w.heap.size w) (Gath.own rfl (by omega)) (Gath.turns rfl (by omega) (by omega) (by omega)) ⟨_, hBo, OwnL.nil _ _ _ _, hb0, by omega⟩
    (fun x => { tmps := #[.string s, undef, .slice none 0 0, .pointer (some ⟨w.heap.size, 0, none⟩), .string x, .string s, seqV (w.heap.size + 1), .string x, undef, undef, undef, undef, undef, undef, undef], defers := [] }) ?assign ?body ?done
  case assign =>
    intro l x W K hK
    gi_wp2
    exact hK
  case body =>
    rintro l pre x W ⟨v, hv, hr, hb, hnb⟩ hlen hxs
    have hfl := List.length_filter_le endsB pre
    have hll := linesL_len s.data.toList
    have hsl : s.data.toList.length = s.size := by simp
    have hWz := hb.size
    have hvc : W.cell? ⟨w.heap.size, 0, none⟩ = some v := by simp [World.cell?, hv]
    have hvf : W.frozen? ⟨w.heap.size, 0, none⟩ = false := by simp [World.frozen?, hv]
    have HR := Lib.hid hr
    have HB := Lib.hid hb
    have HV := Lib.hid hv
    have HX := Lib.hid hxs
    have HS := Lib.hid (CallsIn.inRound l ((callsIn_wide (n := 2)).2 (lib_HasSuffix x W hxs)))
    have HW := Lib.hid hWz
    have hnW : w.heap.size < W.heap.size := lt_of_cell hvc
    clear hr hb hv hxs
    cases he : endsB x with
    | false =>
      have hf : (pre ++ [x]).filter endsB = pre.filter endsB := by rw [List.filter_append]; simp [he]
      have HE := Lib.hid he
      have HF := Lib.hid hf
      clear he hf
      gi_wp2_with (refine ⟨trivial, ?_⟩; gi_at_call 68; refine HS.out.mono ?_; rintro e w' ⟨rfl, rfl⟩; rw [HE.out])
      exact ⟨KeepsFrom.refl _ _, fun p _ => rfl, v, HV.out, by rw [HF.out]; exact HR.out, HB.out, hnb⟩
    | true =>
      have hf : (pre ++ [x]).filter endsB = pre.filter endsB ++ [x] := by rw [List.filter_append]; simp [he]
      have HE := Lib.hid he
      have HF := Lib.hid hf
      clear he hf
      gi_wp2_with (first | (refine ⟨trivial, ?_⟩; gi_at_call 68; refine HS.out.mono ?_; rintro e w' ⟨rfl, rfl⟩; rw [HE.out]) | (gi_at_builtin; refine Stop.here ?_))
      refine wpListIn_appS rfl _ _ rfl (HR.out.alloc _) rfl x W.heap.size rfl (cell_new_s _ _ _) (by omega) (by simp; omega) ?_
      intro v4 w4 hown4 hg4
      have hvne : some w.heap.size ≠ v.ownBlock := fun e => by have := HR.out.lt _ e.symm; omega
      have hv4 : w4.heap[w.heap.size]? = some (.cells #[v] 61 (0, 0)) := (hg4.block _ (by simp; omega) hvne).trans ((Below.heap_alloc _ _ _ hnW).trans HV.out)
      have hvc4 : w4.cell? ⟨w.heap.size, 0, none⟩ = some v := by simp [World.cell?, hv4]
      have hvf4 : w4.frozen? ⟨w.heap.size, 0, none⟩ = false := by simp [World.frozen?, hv4]
      have hz4 := hg4.size
      have hlow : ∀ p, p < W.heap.size → some p ≠ v.ownBlock → w4.heap[p]? = W.heap[p]? := fun p hp hne => (hg4.block _ (by simp; omega) hne).trans (Below.heap_alloc _ _ _ hp)
      have hrow : ∀ k, v.ownBlock = some k → w.heap.size + 4 ≤ k ∧ k < W.heap.size := HR.out.lt
      have hnc : ∀ k o, W.heap[k]? = some o → o.isCells = false → some k ≠ v.ownBlock := fun k o hk ho e => by
        rcases HR.out.2 with ⟨rfl, _⟩ | ⟨g, cap, cur, rfl, _, hgb, _⟩
        · simp [Value.ownBlock] at e
        · simp [Value.ownBlock] at e
          subst e
          rw [hgb] at hk
          cases hk
          cases ho
      have hb4 : Below w.heap.size w w4 := (HB.out.alloc HB.out.size _).grown hg4 (by simp; omega) (fun k e => by have := hrow k e; omega)
      obtain ⟨g, cap, rfl⟩ : ∃ g cap, v4 = .slice (some ⟨g, 0, none⟩) ((pre.filter endsB).length + 1) cap := by
        have := hown4
        unfold OwnL at this
        rw [List.length_append, List.length_singleton] at this
        exact ownsRow_succ this
      have hgl := hown4.lt g rfl
      have HG4 := Lib.hid hb4
      have HO4 := Lib.hid hown4
      have HLOW := Lib.hid hlow
      have HNC := Lib.hid hnc
      have HROW := Lib.hid hrow
      have HV4 := Lib.hid hv4
      clear hvc hvf hown4 hg4 hb4 hlow hnc hv4 hrow hvne
      simp at hz4
      gi_wp2
      rw [setCell_box HV4.out]
      have hgs : w4.grownBy (w4.setB w.heap.size (.cells #[.slice (some ⟨g, 0, none⟩) ((pre.filter endsB).length + 1) cap] 61 (0, 0))) (some w.heap.size) := ⟨rfl, rfl, rfl, by simp [World.setB_size], fun k _ hk => World.setB_get _ _ _ _ (fun e => hk (by rw [e]))⟩
      refine ⟨⟨by rw [World.setB_size]; omega, fun k o hk hko hcc => ?_⟩, fun p hp => ?_, _, World.setB_at _ _ _ (by omega), ?_, HG4.out.grown hgs (by omega) (fun k e => by cases e; omega), by rw [World.setB_size]; omega⟩
      · rw [World.setB_get _ _ _ _ (by omega), HLOW.out k (Array.getElem?_eq_some_iff.1 hko).1 (HNC.out k o hko hcc)]
        exact hko
      · have hpl : p < w.heap.size + 4 ∧ p ≠ w.heap.size := by rcases hp with rfl | hp <;> omega
        rw [World.setB_get _ _ _ _ hpl.2]
        exact HLOW.out p (by have := HB.out.size; omega) (fun e => by have := HROW.out p e.symm; omega)
      · rw [HF.out]
        exact HO4.out.kept hgs (.inr (fun e => by simp [Value.ownBlock] at e; omega))
  case done =>
    rintro D xs W hD hP ⟨v, hv, hr, hb, _⟩ hDd
    have hvc : W.cell? ⟨w.heap.size, 0, none⟩ = some v := by simp [World.cell?, hv]
    have HR := Lib.hid hr
    have HB := Lib.hid hb
    clear hr hb hv
    gi_wp2
    refine ⟨by simp, .inl ⟨_, _, rfl, run_takeDeferred hDd, ?_⟩⟩
    refine ⟨_, results_tmp rfl _ _ _, ?_⟩
    have hv : ({ tmps := #[.string s, undef, v, .pointer (some ⟨w.heap.size, 0, none⟩), undef, .string s, seqV (w.heap.size + 1), undef, undef, undef, undef, undef, undef, undef, v], defers := [{ target := Target.collected D, args := #[] }] } : Act).tmps.getD 2 undef = v := by
      simp [Array.getD]
    rw [hv]
    exact LnP.mk (v := v) (ownsRow_putObj (HR.out.base (B' := w.heap.size) (by omega)) _ hDd rfl) (pieces_ends hP) (HB.out.grown (grownBy_putObj' _ _ _) HB.out.size (fun k e => by cases e; omega))
end Go.Proofs.YtedgenmbdjadkaaGreatDoor
