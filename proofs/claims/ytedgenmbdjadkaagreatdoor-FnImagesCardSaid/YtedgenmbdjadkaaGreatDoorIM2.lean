/- Texts of this claim, merged: the laws of the walks and what they stand on. Each condition stands in its theorem. -/
import Derived.Test.YtedgenmbdjadkaaGreatDoorIM1
import Derived.Laws.CopyOwn
import Derived.Lib.AppendZerosOnto
import Derived.Lib.Overlaps
import Derived.Laws.Externs
import Derived.Lib.Split
import Derived.Lib.CountLaws
import Derived.Lib.SplitLaws
import Derived.Lib.AppendStr
import Derived.Lib.FrozenHead
import Derived.Laws.IdiomStrings
import Derived.Lib.HexFns
import Derived.Lib.ItoaNum
import Derived.Lib.AppendIntMem
import Derived.Lib.ShelfFacts
import Derived.Lib.AtoiAllCases
set_option linter.unusedVariables false
set_option linter.unusedSimpArgs false
namespace Go.Proofs.YtedgenmbdjadkaaGreatDoor
open Go.ChangeShapes Go.WideShapes Go.ChangeAt Go.RowKit

theorem impl_put1 (c : CellD) (key : ByteArray) (b : Nat) (w : World) (hb : b < w.heap.size) (hc : w.cell? ⟨b, 0, none⟩ = some (.string key)) :
    Calls Tryz.prog 88 #[.agg #[.string c.key, .string c.val], .pointer (some ⟨b, 0, none⟩)] w fun e w' => e = .returned (.bool (isKey key c)) ∧ Below w.heap.size w w' := by
  have h : isKey key c = (c.key.toList == key.toList) := rfl
  rw [h]
  clear h
  go_enter Tryz.func88, Tryz.ntmps88
  go_wp2
  go_ret
  exact ⟨rfl, (by repeat (first | with_reducible exact Below.refl _ _ | with_reducible apply Below.ofExt | with_reducible apply Below.ofAlloc | with_reducible apply Below.drew | with_reducible apply Below.ofDrewN | with_reducible assumption | (with_reducible refine Below.setCell ?_ (by first | exact Nat.le_refl _ | (simp [go_sem]; done) | (simp [go_sem]; omega)) _)))⟩
theorem impl_put2 (c : CellD) (key : ByteArray) (b : Nat) (w : World) (hb : b < w.heap.size) (hc : w.cell? ⟨b, 0, none⟩ = some (.string key)) :
    Calls Tryz.prog 90 #[.agg #[.string c.key, .string c.val], .pointer (some ⟨b, 0, none⟩)] w fun e w' => e = .returned (.bool (gtKey key c)) ∧ Below w.heap.size w w' := by
  cases hg : gtKey key c with
  | true =>
    have hik := gtKey_not hg
    have hle := less_gt hg
    have hke : (c.key.toList == key.toList) = false := hik
    have hge : Op.bytesLess key.toList c.key.toList = true := hg
    go_enter Tryz.func90, Tryz.ntmps90
    go_wp2
    go_ret
    exact ⟨rfl, (by repeat (first | with_reducible exact Below.refl _ _ | with_reducible apply Below.ofExt | with_reducible apply Below.ofAlloc | with_reducible apply Below.drew | with_reducible apply Below.ofDrewN | with_reducible assumption | (with_reducible refine Below.setCell ?_ (by first | exact Nat.le_refl _ | (simp [go_sem]; done) | (simp [go_sem]; omega)) _)))⟩
  | false =>
    have hge : Op.bytesLess key.toList c.key.toList = false := hg
    cases hik : isKey key c with
    | true =>
      have hle := less_same hik
      have hke : (c.key.toList == key.toList) = true := hik
      go_enter Tryz.func90, Tryz.ntmps90
      go_wp2
      go_ret
      exact ⟨rfl, (by repeat (first | with_reducible exact Below.refl _ _ | with_reducible apply Below.ofExt | with_reducible apply Below.ofAlloc | with_reducible apply Below.drew | with_reducible apply Below.ofDrewN | with_reducible assumption | (with_reducible refine Below.setCell ?_ (by first | exact Nat.le_refl _ | (simp [go_sem]; done) | (simp [go_sem]; omega)) _)))⟩
    | false =>
      have hle := less_other hg hik
      have hke : (c.key.toList == key.toList) = false := hik
      go_enter Tryz.func90, Tryz.ntmps90
      go_wp2
      go_ret
      exact ⟨rfl, (by repeat (first | with_reducible exact Below.refl _ _ | with_reducible apply Below.ofExt | with_reducible apply Below.ofAlloc | with_reducible apply Below.drew | with_reducible apply Below.ofDrewN | with_reducible assumption | (with_reducible refine Below.setCell ?_ (by first | exact Nat.le_refl _ | (simp [go_sem]; done) | (simp [go_sem]; omega)) _)))⟩
set_option maxRecDepth 100000 in
theorem cells_IndexFunc1 (v : Value) (ds : List CellD) (key : ByteArray) (b0 : Nat) (w : World) (hs : RdL rCell w v ds) (hb0 : b0 < w.heap.size) (hc0 : w.cell? ⟨b0, 0, none⟩ = some (.string key)) :
    Calls Tryz.prog 89 #[v, .func (Fn.func 88) #[] #[.pointer (some ⟨b0, 0, none⟩)]] w fun e w' => e = .returned (.int .i64 (firstIdx (isKey key) ds)) ∧ Below w.heap.size w w' := by
  obtain ⟨ao, cap, rfl, hc1, hc2, hnil, hne⟩ := hs.shape
  have HX := Lib.hid hne
  have HC := Lib.hid hc0
  clear hs hne hnil hc0
  unfold maxLen at hc2
  go_enter Tryz.func89, Tryz.ntmps89
  go_wp2
  go_loopw [8] (fun k wr => ∃ (n : Nat), k = .int .i64 n ∧ n ≤ ds.length ∧ Below w.heap.size w wr ∧ (ds.take n).any (isKey key) = false) (fun k _ => ds.length - (intOf k).toNat)
  case atStart => exact ⟨0, rfl, by omega, (by repeat (first | with_reducible exact Below.refl _ _ | with_reducible apply Below.ofExt | with_reducible apply Below.ofAlloc | with_reducible apply Below.drew | with_reducible apply Below.ofDrewN | with_reducible assumption | (with_reducible refine Below.setCell ?_ (by first | exact Nat.le_refl _ | (simp [go_sem]; done) | (simp [go_sem]; omega)) _))), rfl⟩
  case round =>
    obtain ⟨n, rfl, hn, hbel, hany⟩ := hrel
    obtain ⟨X, rfl⟩ := hbel.ext
    have HA := Lib.hid hany
    clear hany
    by_cases hlt : (n : Int) < ds.length
    · have hk : n < ds.length := by omega
      obtain ⟨b, off, rfl, hbl, hcell⟩ := HX.out (by intro e; simp [e] at hk)
      have hc := hcell n hk
      have hst := any_take_step (isKey key) ds n hk
      have hff : (ds.take n).any (isKey key) = false → isKey key ds[n] = true → firstIdx (isKey key) ds = n := fun h h2 => firstIdx_found (isKey key) ds n hk h h2
      generalize ds[n] = d at hc hst hff
      have y0 : w.cell? ⟨b, off + n * 2, none⟩ = some (.string d.key) := hc 0 _ rfl
      have y1 : w.cell? ⟨b, off + n * 2 + 1, none⟩ = some (.string d.val) := hc 1 _ rfl
      clear hc hcell
      have hbl := hbl (by decide)
      have HT := Lib.hid hst
      have HF := Lib.hid hff
      clear hst hff
      cases hm : isKey key d with
      | true =>
        have HM := Lib.hid hm
        clear hm
        go_wp2_with fail
        (go_at_call 88; refine (impl_put1 d key b0 _ (by simp [go_sem]; try omega) (by repeat (first | exact HC.out | refine Grew.cell (Grew.ext _ _) ?_ | refine Grew.cell (Grew.alloc _ _) ?_))).mono ?_; rintro e w' ⟨rfl, hb⟩; obtain ⟨X, rfl⟩ := hb.ext; clear hb)
        rw [HM.out]
        go_wp2
        go_ret
        exact ⟨by rw [HF.out HA.out HM.out]; rfl, (by repeat (first | with_reducible exact Below.refl _ _ | with_reducible apply Below.ofExt | with_reducible apply Below.ofAlloc | with_reducible apply Below.drew | with_reducible apply Below.ofDrewN | with_reducible assumption | (with_reducible refine Below.setCell ?_ (by first | exact Nat.le_refl _ | (simp [go_sem]; done) | (simp [go_sem]; omega)) _)))⟩
      | false =>
        have HM := Lib.hid hm
        clear hm
        go_wp2_with fail
        (go_at_call 88; refine (impl_put1 d key b0 _ (by simp [go_sem]; try omega) (by repeat (first | exact HC.out | refine Grew.cell (Grew.ext _ _) ?_ | refine Grew.cell (Grew.alloc _ _) ?_))).mono ?_; rintro e w' ⟨rfl, hb⟩; obtain ⟨X, rfl⟩ := hb.ext; clear hb)
        rw [HM.out]
        go_wp2
        go_roundw
        case rel => exact ⟨n + 1, by go_num, by omega, (by repeat (first | with_reducible exact Below.refl _ _ | with_reducible apply Below.ofExt | with_reducible apply Below.ofAlloc | with_reducible apply Below.drew | with_reducible apply Below.ofDrewN | with_reducible assumption | (with_reducible refine Below.setCell ?_ (by first | exact Nat.le_refl _ | (simp [go_sem]; done) | (simp [go_sem]; omega)) _))), by rw [HT.out, HA.out, HM.out]; rfl⟩
        case measure => simp [intOf]; omega
    · go_wp2
      go_ret
      have e : n = ds.length := by omega
      subst e
      have ha := HA.out
      rw [List.take_length] at ha
      exact ⟨by rw [firstIdx_none (isKey key) ds ha]; rfl, (by repeat (first | with_reducible exact Below.refl _ _ | with_reducible apply Below.ofExt | with_reducible apply Below.ofAlloc | with_reducible apply Below.drew | with_reducible apply Below.ofDrewN | with_reducible assumption | (with_reducible refine Below.setCell ?_ (by first | exact Nat.le_refl _ | (simp [go_sem]; done) | (simp [go_sem]; omega)) _)))⟩
set_option maxRecDepth 100000 in
theorem cells_IndexFunc2 (v : Value) (ds : List CellD) (key : ByteArray) (b0 : Nat) (w : World) (hs : RdL rCell w v ds) (hb0 : b0 < w.heap.size) (hc0 : w.cell? ⟨b0, 0, none⟩ = some (.string key)) :
    Calls Tryz.prog 89 #[v, .func (Fn.func 90) #[] #[.pointer (some ⟨b0, 0, none⟩)]] w fun e w' => e = .returned (.int .i64 (firstIdx (gtKey key) ds)) ∧ Below w.heap.size w w' := by
  obtain ⟨ao, cap, rfl, hc1, hc2, hnil, hne⟩ := hs.shape
  have HX := Lib.hid hne
  have HC := Lib.hid hc0
  clear hs hne hnil hc0
  unfold maxLen at hc2
  go_enter Tryz.func89, Tryz.ntmps89
  go_wp2
  go_loopw [8] (fun k wr => ∃ (n : Nat), k = .int .i64 n ∧ n ≤ ds.length ∧ Below w.heap.size w wr ∧ (ds.take n).any (gtKey key) = false) (fun k _ => ds.length - (intOf k).toNat)
  case atStart => exact ⟨0, rfl, by omega, (by repeat (first | with_reducible exact Below.refl _ _ | with_reducible apply Below.ofExt | with_reducible apply Below.ofAlloc | with_reducible apply Below.drew | with_reducible apply Below.ofDrewN | with_reducible assumption | (with_reducible refine Below.setCell ?_ (by first | exact Nat.le_refl _ | (simp [go_sem]; done) | (simp [go_sem]; omega)) _))), rfl⟩
  case round =>
    obtain ⟨n, rfl, hn, hbel, hany⟩ := hrel
    obtain ⟨X, rfl⟩ := hbel.ext
    have HA := Lib.hid hany
    clear hany
    by_cases hlt : (n : Int) < ds.length
    · have hk : n < ds.length := by omega
      obtain ⟨b, off, rfl, hbl, hcell⟩ := HX.out (by intro e; simp [e] at hk)
      have hc := hcell n hk
      have hst := any_take_step (gtKey key) ds n hk
      have hff : (ds.take n).any (gtKey key) = false → gtKey key ds[n] = true → firstIdx (gtKey key) ds = n := fun h h2 => firstIdx_found (gtKey key) ds n hk h h2
      generalize ds[n] = d at hc hst hff
      have y0 : w.cell? ⟨b, off + n * 2, none⟩ = some (.string d.key) := hc 0 _ rfl
      have y1 : w.cell? ⟨b, off + n * 2 + 1, none⟩ = some (.string d.val) := hc 1 _ rfl
      clear hc hcell
      have hbl := hbl (by decide)
      have HT := Lib.hid hst
      have HF := Lib.hid hff
      clear hst hff
      cases hm : gtKey key d with
      | true =>
        have HM := Lib.hid hm
        clear hm
        go_wp2_with fail
        (go_at_call 90; refine (impl_put2 d key b0 _ (by simp [go_sem]; try omega) (by repeat (first | exact HC.out | refine Grew.cell (Grew.ext _ _) ?_ | refine Grew.cell (Grew.alloc _ _) ?_))).mono ?_; rintro e w' ⟨rfl, hb⟩; obtain ⟨X, rfl⟩ := hb.ext; clear hb)
        rw [HM.out]
        go_wp2
        go_ret
        exact ⟨by rw [HF.out HA.out HM.out]; rfl, (by repeat (first | with_reducible exact Below.refl _ _ | with_reducible apply Below.ofExt | with_reducible apply Below.ofAlloc | with_reducible apply Below.drew | with_reducible apply Below.ofDrewN | with_reducible assumption | (with_reducible refine Below.setCell ?_ (by first | exact Nat.le_refl _ | (simp [go_sem]; done) | (simp [go_sem]; omega)) _)))⟩
      | false =>
        have HM := Lib.hid hm
        clear hm
        go_wp2_with fail
        (go_at_call 90; refine (impl_put2 d key b0 _ (by simp [go_sem]; try omega) (by repeat (first | exact HC.out | refine Grew.cell (Grew.ext _ _) ?_ | refine Grew.cell (Grew.alloc _ _) ?_))).mono ?_; rintro e w' ⟨rfl, hb⟩; obtain ⟨X, rfl⟩ := hb.ext; clear hb)
        rw [HM.out]
        go_wp2
        go_roundw
        case rel => exact ⟨n + 1, by go_num, by omega, (by repeat (first | with_reducible exact Below.refl _ _ | with_reducible apply Below.ofExt | with_reducible apply Below.ofAlloc | with_reducible apply Below.drew | with_reducible apply Below.ofDrewN | with_reducible assumption | (with_reducible refine Below.setCell ?_ (by first | exact Nat.le_refl _ | (simp [go_sem]; done) | (simp [go_sem]; omega)) _))), by rw [HT.out, HA.out, HM.out]; rfl⟩
        case measure => simp [intOf]; omega
    · go_wp2
      go_ret
      have e : n = ds.length := by omega
      subst e
      have ha := HA.out
      rw [List.take_length] at ha
      exact ⟨by rw [firstIdx_none (gtKey key) ds ha]; rfl, (by repeat (first | with_reducible exact Below.refl _ _ | with_reducible apply Below.ofExt | with_reducible apply Below.ofAlloc | with_reducible apply Below.drew | with_reducible apply Below.ofDrewN | with_reducible assumption | (with_reducible refine Below.setCell ?_ (by first | exact Nat.le_refl _ | (simp [go_sem]; done) | (simp [go_sem]; omega)) _)))⟩
end Go.Proofs.YtedgenmbdjadkaaGreatDoor
namespace Go
open Go.RowKit

theorem setRow_setB {w : World} {g : Nat} {cur cs : Array Value} {t : TypeId} (hg : w.heap[g]? = some (.cells cur t (0, 0))) : w.setRow g cs = w.setB g (.cells cs t) := by
  unfold World.setRow World.setB
  congr 1
  apply Array.ext_getElem?
  intro i
  have hl := World.lt_of_get hg
  rw [Array.getElem?_modify, Array.getElem?_setIfInBounds]
  by_cases e : g = i
  · subst e
    rw [if_pos rfl, if_pos rfl, if_pos hl, hg]
    rfl
  · rw [if_neg e, if_neg e]
section
variable {P : Program} {w : World} {t e : TypeId} {k bytes : Nat}
theorem run_copyK (E : Elem P t e k bytes) (ty : TypeId) (g off dLen dCap : Nat) (ad : Addr) (sLen sCap : Nat) (cur : List Value) (T : TypeId) (hg : w.heap[g]? = some (.cells cur.toArray T (0, 0)))
    (cs : List Value) (hn : cs.length = Nat.min sLen dLen * k) (hsrc : ∀ j v, cs[j]? = some v → w.cell? (ad.add j) = some v) (hfit : off + cs.length ≤ cur.length) (h1 : ∀ v ∈ cs, v.oneCell' = true) :
    (Builtin.copy_ #[t, t] ty #[.slice (some ⟨g, off, none⟩) dLen dCap, .slice (some ad) sLen sCap]).run P w = .ok (goInt (Nat.min sLen dLen)) (w.setB g (.cells (splice cur off cs).toArray T)) := by
  obtain ⟨i, z, hi, hz, hs, hb, hzz⟩ := E.hi
  have hl := run_loadCells_list (P := P) w ad cs hsrc
  have hst := run_storeCells_at P g off T cs 0 cur.toArray w hg (by simpa using hfit) h1
  rw [setRow_setB hg] at hst
  have e1 : (cur.toArray.toList.take (off + 0) ++ cs ++ cur.toArray.toList.drop (off + 0 + cs.length)) = splice cur off cs := by unfold splice; simp
  rw [e1] at hst
  subst hs
  simp [Builtin.copy_, run_underlying E.ht, Builtin.lenOf, Builtin.firstCells, sizeOf, typeInfo, hi, ← hn, hl, hst]
theorem app_zeros {tn : TypeId} (E : Elem P t e k bytes) (htn : P.underlying tn = some (.int .i64)) (base : Option Addr) (sLen sCap : Nat) (olds : List Value) (hol : olds.length = sLen * k) (hold : base = none → sLen = 0) (hsrc : ∀ ad, base = some ad → ∀ j v, olds[j]? = some v → w.cell? (ad.add j) = some v)
    (m : Nat) (h0 : 0 < m) (hg : sCap < sLen + m) (hbig : (sLen + m) * bytes ≤ 140737488355328) (hmb : m * bytes ≤ 281474976710656) (h63 : sLen + m ≤ 9223372036854775807) :
    ∃ (G : Nat) (L : List Value), sLen + m ≤ G ∧ G ≤ maxLen ∧ L.length = G * k ∧ L.take (sLen * k) = olds ∧
      ∀ ty, (Builtin.append_ #[t, tn] ty #[.slice base sLen sCap, .int .i64 (m : Int)]).run P w = .ok (.slice (some ⟨w.heap.size, 0, none⟩) (sLen + m) G) (w.drew.alloc (.cells L.toArray e)) := by
  obtain ⟨i, z, hi, hz, hs, hb, hzz⟩ := E.hi
  have hpos := E.pos
  subst hs hb
  have ho : (Builtin.firstCells i.size sLen (.slice base sLen sCap)).run P w.drew = .ok olds.toArray w.drew := by
    cases base with
    | none =>
      have := hold rfl
      subst this
      have : olds = [] := List.eq_nil_of_length_eq_zero (by omega)
      subst this
      exact run_firstCells_none w.drew i.size 0 0 sCap
    | some ad => exact run_firstCells_some w.drew i.size sLen ad sLen sCap olds hol (fun j v hj => hsrc ad rfl j v hj)
  refine ⟨grownCap w (sLen + m) sCap e, olds ++ (Builtin.zeroCells z.cells m).toList ++ (Builtin.zeroCells z.cells (grownCap w (sLen + m) sCap e - (sLen + m))).toList, grownCap_ge w _ _ _, grownCap_le_maxLen w _ _ _ (by unfold maxLen; omega), ?_, ?_, fun ty => ?_⟩
  · have hge := grownCap_ge w (sLen + m) sCap e
    rw [List.length_append, List.length_append, hol]
    simp only [Builtin.zeroCells, Array.length_toList, Array.size_map, Array.size_range, hzz]
    rw [← Nat.add_mul, ← Nat.add_mul]
    congr 1
    omega
  · rw [List.append_assoc, ← hol, List.take_left]
  · have h := Lib.run_append_grow_zeros w t tn ty e i z .i64 .i64 E.ht htn hi hz base sLen sCap olds ho m h0 hpos hg (by omega) hmb (growslice_fits hg hbig)
    rw [h]
    congr 3
    apply Array.ext'
    simp
theorem wp_copyR {o : Oper} {a : Act} {K : Act → World → Prop} {Q : Exit → Act → World → Prop} {w' : World} {v u r : Value} (d s : Operand) (t : TypeId)
    (ho : o.op = .call { callee := .builtin .copy, args := #[d, s], argTypes := #[t, t] }) (hd : a.eval d = v) (hs : a.eval s = u)
    (hr : (Builtin.copy_ #[t, t] o.type #[v, u]).run P w = .ok r w') (h : K (a.put o.dst r) w') : o.wp P a w K Q := by
  unfold Oper.wp execOp
  simp only [ho, resolve, invoke, builtin, Sem.run_bind, Sem.run_pure, Result.andThen_ok, List.map_toArray, List.map_cons, List.map_nil, hd, hs, hr]
  exact h
theorem wpList_copyR {ops : Array Oper} {rest : List Oper} {o : Oper} {a : Act} {Q : Exit → Act → World → Prop} {w' : World} {v u r : Value} (hgd : o.guard = none) (d s : Operand) (t : TypeId)
    (ho : o.op = .call { callee := .builtin .copy, args := #[d, s], argTypes := #[t, t] }) (hd : a.eval d = v) (hs : a.eval s = u)
    (hr : (Builtin.copy_ #[t, t] o.type #[v, u]).run P w = .ok r w') (h : wpList P ops Q rest (a.put o.dst r) w') : wpList P ops Q (o :: rest) a w :=
  wpList_plain hgd fun _ hK => wp_copyR d s t ho hd hs hr (hK _ _ h)
theorem wpList_appR {ops : Array Oper} {rest : List Oper} {o : Oper} {a : Act} {Q : Exit → Act → World → Prop} {w' : World} {v u r : Value} (hgd : o.guard = none) (d s : Operand) (t tn : TypeId)
    (ho : o.op = .call { callee := .builtin .append, args := #[d, s], argTypes := #[t, tn] }) (hd : a.eval d = v) (hs : a.eval s = u)
    (hr : (Builtin.append_ #[t, tn] o.type #[v, u]).run P w = .ok r w') (h : wpList P ops Q rest (a.put o.dst r) w') : wpList P ops Q (o :: rest) a w :=
  wpList_plain hgd fun _ hK => by
    unfold Oper.wp execOp
    simp only [ho, resolve, invoke, builtin, Sem.run_bind, Sem.run_pure, Result.andThen_ok, List.map_toArray, List.map_cons, List.map_nil, hd, hs, hr]
    exact hK _ _ h
theorem zeros_one {z : Value} (n : Nat) (hz : ∀ u ∈ z.cells, u.oneCell' = true) : ∀ v ∈ (Builtin.zeroCells z.cells n).toList, v.oneCell' = true := by
  intro v hv
  simp only [Builtin.zeroCells, Array.toList_map, List.mem_map, Array.mem_toList_iff, Array.mem_range] at hv
  obtain ⟨i, hi, rfl⟩ := hv
  have h0 : 0 < z.cells.size := by
    rcases Nat.eq_zero_or_pos z.cells.size with h | h
    · rw [h] at hi; omega
    · exact h
  have hlt : i % z.cells.size < z.cells.size := Nat.mod_lt _ h0
  rw [getElem!_pos z.cells _ hlt]
  exact hz _ (Array.getElem_mem hlt)
theorem run_clearK (z : Value) (ht : P.underlying t = some (.slice e)) (hv0 : (P.info? e).map (fun i => i.zero) = some (some z)) (h1 : ∀ u ∈ z.cells, u.oneCell' = true) (ty : TypeId) (g off n c : Nat) (hn : 0 < n) (cur : List Value) (T : TypeId) (hg : w.heap[g]? = some (.cells cur.toArray T (0, 0)))
    (hfit : off + n * z.cells.size ≤ cur.length) :
    (Builtin.clear_ #[t] ty #[.slice (some ⟨g, off, none⟩) n c]).run P w = .ok (.tuple #[]) (w.setB g (.cells (splice cur off (Builtin.zeroCells z.cells n).toList).toArray T)) := by
  have hv : ∀ w, (zeroValue e).run P w = .ok z w := fun w => by
    cases hi : P.info? e with
    | none => rw [hi] at hv0; cases hv0
    | some i =>
      rw [hi] at hv0
      have hz : i.zero = some z := by simpa using hv0
      simp [zeroValue, typeInfo, hi, hz]
  have hl : (Builtin.zeroCells z.cells n).toList.length = n * z.cells.size := by simp [Builtin.zeroCells]
  have hst := run_storeCells_at P g off T (Builtin.zeroCells z.cells n).toList 0 cur.toArray w hg (by rw [hl]; simpa using hfit) (zeros_one n h1)
  rw [setRow_setB hg] at hst
  have e1 : (cur.toArray.toList.take (off + 0) ++ (Builtin.zeroCells z.cells n).toList ++ cur.toArray.toList.drop (off + 0 + (Builtin.zeroCells z.cells n).toList.length)) = splice cur off (Builtin.zeroCells z.cells n).toList := by unfold splice; simp
  rw [e1] at hst
  obtain ⟨m, rfl⟩ : ∃ m, n = m + 1 := ⟨n - 1, by omega⟩
  simp [Builtin.clear_, run_underlying ht, hv, hst]
end
/-- what lies ahead of a splice -/
theorem take_splice {α : Type} (L : List α) (off : Nat) (cs : List α) (m : Nat) (h : m ≤ off) (hl : off ≤ L.length) : (splice L off cs).take m = L.take m := by
  unfold splice
  rw [List.take_append_of_le_length (by rw [List.length_take]; omega), List.take_take, Nat.min_eq_left h]
theorem upon_grown {w w' : World} {row : Option Nat} (h : w.grownBy w' row) : Upon row.toList w w' :=
  ⟨h.os, h.tape, h.output, h.size, fun b hb hn => h.block b hb (fun e => hn (by rw [← e]; simp))⟩
theorem getElem?_splice_in {α : Type} (L : List α) (off : Nat) (cs : List α) (hl : off + cs.length ≤ L.length) (j : Nat) (hj : j < cs.length) : (splice L off cs)[off + j]? = cs[j]? := by
  unfold splice
  rw [List.getElem?_append_right (by rw [List.length_take]; omega), List.length_take, Nat.min_eq_left (by omega), Nat.add_sub_cancel_left, List.getElem?_append_left hj]
theorem splice_def {α : Type} (L : List α) (off : Nat) (cs : List α) : splice L off cs = L.take off ++ (cs ++ L.drop (off + cs.length)) := rfl
/-- one splice laid right behind another -/
theorem splice_then {α : Type} (L : List α) (off : Nat) (cs ds : List α) (hl : off + cs.length + ds.length ≤ L.length) : (splice (splice L off cs) (off + cs.length) ds).take (off + cs.length + ds.length) = L.take off ++ (cs ++ ds) := by
  have e1 : (splice L off cs).take (off + cs.length) = L.take off ++ cs := by
    unfold splice
    rw [← List.append_assoc, List.take_left' (by rw [List.length_append, List.length_take]; omega)]
  have e2 : (splice (splice L off cs) (off + cs.length) ds) = (L.take off ++ cs) ++ (ds ++ (splice L off cs).drop (off + cs.length + ds.length)) := by
    rw [splice_def (splice L off cs), e1]
  rw [e2, ← List.append_assoc, List.take_left' (by simp only [List.length_append, List.length_take]; omega), List.append_assoc]
/-- one splice laid right ahead of another -/
theorem splice_ahead {α : Type} (L : List α) (off : Nat) (cs ds : List α) (hl : off + cs.length + ds.length ≤ L.length) : (splice (splice L (off + cs.length) ds) off cs).take (off + cs.length + ds.length) = L.take off ++ (cs ++ ds) := by
  have e1 : (splice L (off + cs.length) ds).take off = L.take off := take_splice _ _ _ _ (by omega) (by omega)
  have e2 : (splice L (off + cs.length) ds).drop (off + cs.length) = ds ++ L.drop (off + cs.length + ds.length) := by
    unfold splice
    rw [List.drop_left' (by rw [List.length_take]; omega)]
  have e3 : splice (splice L (off + cs.length) ds) off cs = (L.take off ++ (cs ++ ds)) ++ L.drop (off + cs.length + ds.length) := by
    rw [splice_def (splice L (off + cs.length) ds), e1, e2]
    simp only [List.append_assoc]
  rw [e3, List.take_left' (by simp only [List.length_append, List.length_take]; omega)]
end Go
namespace Go.Proofs.YtedgenmbdjadkaaGreatDoor
open Go.ChangeShapes Go.WideShapes Go.ChangeAt Go.RowKit

theorem any_first {α : Type} (p : α → Bool) : ∀ xs : List α, xs.any p = true → ∃ n, ∃ h : n < xs.length, (xs.take n).any p = false ∧ p xs[n] = true
  | [], h => by cases h
  | x :: xs, h => by
    cases hp : p x with
    | true => exact ⟨0, by simp, rfl, hp⟩
    | false =>
      rw [List.any_cons, hp, Bool.false_or] at h
      obtain ⟨n, hn, h1, h2⟩ := any_first p xs h
      exact ⟨n + 1, by simpa using hn, by rw [List.take_succ_cons, List.any_cons, hp, h1]; rfl, by simpa using h2⟩
theorem without_none (key : ByteArray) (xs : List CellD) (h : xs.any (isKey key) = false) : without key xs = xs := by
  unfold without
  rw [List.filter_eq_self]
  intro c hc
  rw [List.any_eq_false] at h
  simpa using h c hc
theorem rows_len (xs : List CellD) : (xs.flatMap CellD.row).length = xs.length * 2 := by
  have := rCell.flat_len xs
  exact this
theorem toList_get {cs : Array Value} {i : Nat} : cs.toList[i]? = cs[i]? := Array.getElem?_toList
set_option maxRecDepth 100000 in
set_option maxHeartbeats 4000000 in
theorem cells_DeleteFunc (v : Value) (ds : List CellD) (key : ByteArray) (b0 B : Nat) (w : World) (ho : OwnL rCell 39 w B v ds) (hb0 : b0 < w.heap.size) (hnb0 : v.ownBlock ≠ some b0) (hc0 : w.cell? ⟨b0, 0, none⟩ = some (.string key)) :
    Calls Tryz.prog 87 #[v, .func (Fn.func 88) #[] #[.pointer (some ⟨b0, 0, none⟩)]] w fun e w' => ∃ v', e = .returned v' ∧ OwnL rCell 39 w' B v' (without key ds) ∧ v'.ownBlock = v.ownBlock ∧ Upon v.ownBlock.toList w w' := by
  have HOWN := Lib.hid ho
  cases hany : ds.any (isKey key) with
  | false =>
    have HI : Hid (firstIdx (isKey key) ds = -1) := firstIdx_none _ _ hany
    have HW : Hid (without key ds = ds) := without_none key ds hany
    obtain ⟨ao, cap, rfl⟩ := ho.rd.form
    have HC := Lib.hid hc0
    clear ho hc0 hany
    go_enter Tryz.func87, Tryz.ntmps87
    go_wp2_with fail
    (go_at_call 89; refine (cells_IndexFunc1 _ ds key b0 _ HOWN.out.rd hb0 HC.out).mono ?_; rintro e w' ⟨rfl, hb⟩; obtain ⟨X, rfl⟩ := hb.ext; clear hb)
    rw [HI.out]
    go_wp2
    go_ret
    exact ⟨_, rfl, by rw [HW.out]; exact HOWN.out.ext _, rfl, Upon.below (by repeat (first | with_reducible exact Below.refl _ _ | with_reducible apply Below.ofExt | with_reducible apply Below.ofAlloc | with_reducible apply Below.drew | with_reducible apply Below.ofDrewN | with_reducible assumption | (with_reducible refine Below.setCell ?_ (by first | exact Nat.le_refl _ | (simp [go_sem]; done) | (simp [go_sem]; omega)) _)))⟩
  | true =>
    obtain ⟨i0, hi0, hbef, hat⟩ := any_first _ _ hany
    have HI : Hid (firstIdx (isKey key) ds = i0) := firstIdx_found _ _ i0 hi0 hbef hat
    have HST : Hid (without key (ds.take (i0 + 1)) = ds.take i0) := by
      show _ = _
      rw [List.take_succ_eq_append_getElem hi0, without_snoc, hat, if_pos rfl, List.append_nil, without_none key _ hbef]
    clear hany hbef hat
    rcases ho.2 with ⟨_, h0⟩ | ⟨g, cap, cur, rfl, hg, hh, hn, hm, hsz, ht⟩
    · have : ds = [] := List.eq_nil_of_length_eq_zero h0
      rw [this] at hi0
      simp at hi0
    have hgl := World.lt_of_get hh
    have hnb : b0 ≠ g := fun e => hnb0 (by rw [e]; rfl)
    have hnb' : ¬ g = b0 := fun e => hnb e.symm
    clear hnb0 ho
    have HH := Lib.hid hh
    have HT : Hid (cur.toList.take (ds.length * 2) = ds.flatMap CellD.row) := ht
    have HSZ : Hid (cur.size = cap * 2) := hsz
    have HE : Hid (w.setB g (.cells cur 39 (0, 0)) = w) := World.setB_self hh
    have HC := Lib.hid hc0
    have hce : ∀ (n : Nat) (hk : n < ds.length), cur[n * 2]? = some (.string ds[n].key) ∧ cur[n * 2 + 1]? = some (.string ds[n].val) := by
      intro n hk
      obtain ⟨ao', cp', e1, _, _, _, hne⟩ := HOWN.out.rd.shape
      obtain ⟨b', off', rfl, _, hcell⟩ := hne (by intro e; rw [e] at hk; simp at hk)
      simp only [Value.slice.injEq, Option.some.injEq, Addr.mk.injEq, and_true, true_and] at e1
      obtain ⟨⟨rfl, rfl⟩, rfl⟩ := e1
      have h0 := hcell n hk 0 _ rfl
      have h1 := hcell n hk 1 _ rfl
      rw [World.cell?_of_get HH.out] at h0 h1
      simp only [show rCell.k = 2 from rfl, Nat.zero_add, Nat.add_zero] at h0 h1
      exact ⟨h0, h1⟩
    clear hh ht hsz hc0
    unfold maxLen at hm
    refine World.at_block HH.out ?_
    go_enter Tryz.func87, Tryz.ntmps87
    go_wp2_with fail
    (go_at_call 89; refine (cells_IndexFunc1 _ ds key b0 _ (by rw [HE.out]; exact HOWN.out.rd) (by simp [go_sem]; omega) (by rw [HE.out]; exact HC.out)).mono ?_; rintro e w' ⟨rfl, hb⟩; obtain ⟨X, rfl⟩ := hb.ext; clear hb)
    rw [HI.out]
    have HCE := Lib.hid hce
    clear hce
    have hne1 : ((i0 : Int) == -1) = false := beq_false_of_ne (by omega)
    go_wp2
    go_loopw [5, 6] (fun iv jv wr => ∃ (k j : Nat) (cs : Array Value), iv = .int .i64 k ∧ jv = .int .i64 j ∧ k < j ∧ j ≤ ds.length ∧ Below (w.setB g (.cells cs 39)).heap.size (w.setB g (.cells cs 39)) wr ∧ cs.size = cap * 2 ∧ cs.toList.take (k * 2) = (without key (ds.take j)).flatMap CellD.row ∧ ∀ m, j * 2 ≤ m → m < ds.length * 2 → cs[m]? = cur[m]?) (fun _ jv _ => ds.length - (intOf jv).toNat)
    case atStart => exact ⟨i0, i0 + 1, cur, rfl, by go_num, by omega, by omega, (by repeat (first | with_reducible exact Below.refl _ _ | with_reducible apply Below.ofExt | with_reducible apply Below.ofAlloc | with_reducible apply Below.drew | with_reducible apply Below.ofDrewN | with_reducible assumption | (with_reducible refine Below.setCell ?_ (by first | exact Nat.le_refl _ | (simp [go_sem]; done) | (simp [go_sem]; omega)) _))), HSZ.out, by
      rw [HST.out]
      have h := HT.out
      have h2 := congrArg (List.take (i0 * 2)) h
      rw [List.take_take, Nat.min_eq_left (by omega)] at h2
      rw [h2]
      have e : ds.flatMap CellD.row = (ds.take i0).flatMap CellD.row ++ (ds.drop i0).flatMap CellD.row := by rw [← List.flatMap_append, List.take_append_drop]
      rw [e, List.take_left' (by rw [rows_len, List.length_take, Nat.min_eq_left (by omega)])], fun m _ _ => rfl⟩
    case round =>
      obtain ⟨k, j, cs, rfl, rfl, hkj, hj, hbel, hcs, htk, htl⟩ := hrel
      obtain ⟨Y, rfl⟩ := hbel.ext
      clear hbel
      have HTK := Lib.hid htk
      have HTL := Lib.hid htl
      have HCS := Lib.hid hcs
      clear htk htl hcs
      by_cases hlt : (j : Int) < ds.length
      case pos =>
        have hk : j < ds.length := by omega
        obtain ⟨y0, y1⟩ := HCE.out j hk
        rw [← HTL.out _ (by omega) (by omega)] at y0
        rw [← HTL.out _ (by omega) (by omega)] at y1
        have hst : ds.take (j + 1) = ds.take j ++ [ds[j]] := List.take_succ_eq_append_getElem hk
        generalize ds[j] = d at y0 y1 hst
        have l0 : k * 2 < cs.size := by rw [HCS.out]; omega
        have l1 : k * 2 + 1 < cs.size := by rw [HCS.out]; omega
        have l4 : g < w.heap.size + Y.bs.size := by omega
        have l5 : g < w.heap.size + Y.bs.size + 1 := by omega
        have l6 : ¬ g = w.heap.size + Y.bs.size := by omega
        cases hik : isKey key d with
        | true =>
          have HS : Hid (without key (ds.take (j + 1)) = without key (ds.take j)) := by show _ = _; rw [hst, without_snoc, hik, if_pos rfl, List.append_nil]
          clear hst
          go_wp2_with fail
          (go_at_call 88; refine (impl_put1 d key b0 _ (by simp [go_sem]; try omega) (by repeat (first | exact HC.out | refine Grew.cell (Grew.ext _ _) ?_ | refine Grew.cell (Grew.alloc _ _) ?_ | rw [World.cell?_setB_ne _ _ _ _ _ hnb]))).mono ?_; rintro e w' ⟨rfl, hb⟩; obtain ⟨X, rfl⟩ := hb.ext; clear hb)
          rw [hik]
          go_wp2
          go_roundw
          case rel => exact ⟨k, j + 1, cs, rfl, by go_num, by omega, by omega, (by repeat (first | with_reducible exact Below.refl _ _ | with_reducible apply Below.ofExt | with_reducible apply Below.ofAlloc | with_reducible apply Below.drew | with_reducible apply Below.ofDrewN | with_reducible assumption | (with_reducible refine Below.setCell ?_ (by first | exact Nat.le_refl _ | (simp [go_sem]; done) | (simp [go_sem]; omega)) _))), HCS.out, by rw [HS.out]; exact HTK.out, fun m h1 h2 => HTL.out m (by omega) h2⟩
          case measure => simp [intOf]; omega
        | false =>
          have HS : Hid (without key (ds.take (j + 1)) = without key (ds.take j) ++ [d]) := by show _ = _; rw [hst, without_snoc, hik]; rfl
          clear hst
          go_wp2_with fail
          (go_at_call 88; refine (impl_put1 d key b0 _ (by simp [go_sem]; try omega) (by repeat (first | exact HC.out | refine Grew.cell (Grew.ext _ _) ?_ | refine Grew.cell (Grew.alloc _ _) ?_ | rw [World.cell?_setB_ne _ _ _ _ _ hnb]))).mono ?_; rintro e w' ⟨rfl, hb⟩; obtain ⟨X, rfl⟩ := hb.ext; clear hb)
          rw [hik]
          go_wp2
          go_roundw
          case rel => exact ⟨k + 1, j + 1, _, by go_num, by go_num, by omega, by omega, (by repeat (first | with_reducible exact Below.refl _ _ | with_reducible apply Below.ofExt | with_reducible apply Below.ofAlloc | with_reducible apply Below.drew | with_reducible apply Below.ofDrewN | with_reducible assumption | (with_reducible refine Below.setCell ?_ (by first | exact Nat.le_refl _ | (simp [go_sem]; done) | (simp [go_sem]; omega)) _))), by simpa using HCS.out, by
            have h0 := take_set1' (v := .string d.key) HTK.out rfl rfl (by omega)
            have h1 := take_set1' (p := (k + 1) * 2) (v := .string d.val) h0 rfl (by omega) (by simp; omega)
            rw [HS.out, List.flatMap_append]
            simpa [CellD.row] using h1, fun m h1 h2 => by
            rw [Array.getElem?_setIfInBounds_ne (by omega), Array.getElem?_setIfInBounds_ne (by omega)]
            exact HTL.out m (by omega) h2⟩
          case measure => simp [intOf]; omega
      case neg =>
        have e : j = ds.length := by omega
        have hlen : k = (without key ds).length := by
          have := congrArg List.length HTK.out
          rw [e, List.take_length, rows_len, List.length_take, show cs.toList.length = cap * 2 from (Array.length_toList (xs := cs)).trans HCS.out] at this
          omega
        have HLEN := Lib.hid hlen
        have hck : ¬ cap = k := by have := HLEN.out; omega
        have HLC : Hid (cs.toList.length = cap * 2) := (Array.length_toList (xs := cs)).trans HCS.out
        have HG : Hid (((w.setB g (.cells cs 39)).ext Y).heap[g]? = some (.cells cs.toList.toArray 39 (0, 0))) := by
          show _ = _
          rw [World.ext_get _ _ (by rw [World.setB_size]; exact hgl), World.setB_at _ _ _ hgl, Array.toArray_toList]
        have hcl : ∀ ty, (Builtin.clear_ #[35] ty #[.slice (some ⟨g, k * 2, none⟩) (ds.length - k) (cap - k)]).run Tryz.prog ((w.setB g (.cells cs 39)).ext Y) = .ok (.tuple #[]) ((w.setB g (.cells (splice cs.toList (k * 2) (Builtin.zeroCells (Value.agg #[.string ⟨#[]⟩, .string ⟨#[]⟩]).cells (ds.length - k)).toList).toArray 39)).ext Y) := fun ty => by
          have := run_clearK (P := Tryz.prog) (w := (w.setB g (.cells cs 39)).ext Y) (t := 35) (e := 39) (.agg #[.string ⟨#[]⟩, .string ⟨#[]⟩]) Tryz.underlying35 (by kernel_rfl) (by decide) ty g (k * 2) (ds.length - k) (cap - k) (by omega) cs.toList 39 HG.out (by rw [HLC.out]; show k * 2 + (ds.length - k) * 2 ≤ _; omega)
          rw [this]
          congr 1
          rw [World.setB_ext _ _ _ _ (by rw [World.setB_size]; exact hgl), World.setB_setB]
        obtain ⟨L, hL⟩ : ∃ L, L = splice cs.toList (k * 2) (Builtin.zeroCells (Value.agg #[.string ⟨#[]⟩, .string ⟨#[]⟩]).cells (ds.length - k)).toList := ⟨_, rfl⟩
        rw [← hL] at hcl
        have HL : Hid (L.length = cap * 2 ∧ L.take (k * 2) = (without key ds).flatMap CellD.row) := by
          rw [hL]
          refine ⟨?_, ?_⟩
          · rw [length_splice _ _ _ (by rw [show (Builtin.zeroCells (Value.agg #[.string ⟨#[]⟩, .string ⟨#[]⟩]).cells (ds.length - k)).toList.length = (ds.length - k) * 2 by simp [Builtin.zeroCells, Value.cells], HLC.out]; omega), HLC.out]
          · rw [take_splice _ _ _ _ (Nat.le_refl _) (by rw [HLC.out]; omega), HTK.out, e, List.take_length]
        clear hL hlen
        go_wp2
        go_ret
        have hlen := HLEN.out
        refine ⟨_, rfl, ?_, rfl, ?_⟩
        · show OwnL rCell 39 _ B (.slice (some ⟨g, 0, none⟩) k cap) _
          rw [hlen]
          refine OwnL.ext ?_ _
          refine ⟨rCell.flat_len _, .inr ⟨g, cap, L.toArray, rfl, hg, World.setB_at _ _ _ hgl, by rw [← hlen]; omega, by unfold maxLen; omega, by show L.toArray.size = cap * 2; simpa using HL.out.1, by rw [← hlen]; show L.toArray.toList.take (k * 2) = _; exact HL.out.2⟩⟩
        · exact Upon.setBExt _ _ _ (by simp [Value.ownBlock])
end Go.Proofs.YtedgenmbdjadkaaGreatDoor
namespace Go
theorem Sx.refl (w : World) : Sx w w := ⟨⟨#[], w.drawn⟩, (World.ext_nil _ _ rfl).symm⟩
section
variable {P : Program} {ops : Array Oper} {Q : Exit → Act → World → Prop} {S : World → Prop} {n : Nat}

/-- j waits for i, in some steps -/
def reaches (ops : Array Oper) : Nat → Nat → Nat → Bool
  | 0, _, _ => false
  | f + 1, j, i => match ops[j]? with
    | none => false
    | some o => o.after.any fun e => Region.binds .any e && (e.on == i || reaches ops f e.on i)
def tailReach (ops : Array Oper) (n i : Nat) : Bool := (List.range ops.size).all fun j => decide (j < n) || reaches ops ops.size j i
/-- what is listed has its grounds listed -/
def Closed (ops : Array Oper) (listed : Array Bool) : Prop := ∀ k o, ops[k]? = some o → listed.getD k false = true → ∀ e ∈ o.after, Region.binds .any e = true → listed.getD e.on false = true
theorem reach_listed {listed : Array Bool} (hc : Closed ops listed) {i : Nat} : ∀ (f j : Nat) (o : Oper), ops[j]? = some o → (∀ e ∈ o.after, Region.binds .any e = true → listed.getD e.on false = true) → reaches ops f j i = true → listed.getD i false = true
  | 0, _, _, _, _, h => by simp [reaches] at h
  | f + 1, j, o, ho, hd, h => by
    simp only [reaches, ho] at h
    obtain ⟨e, he, hb⟩ := Array.any_eq_true'.1 h
    simp only [Bool.and_eq_true, Bool.or_eq_true, beq_iff_eq] at hb
    obtain ⟨hb1, hb2⟩ := hb
    have hl := hd e he hb1
    rcases hb2 with hb2 | hb2
    · rw [← hb2]; exact hl
    · cases ho2 : ops[e.on]? with
      | none =>
        cases f with
        | zero => simp [reaches] at hb2
        | succ f => simp [reaches, ho2] at hb2
      | some o2 => exact reach_listed hc f e.on o2 ho2 (hc e.on o2 ho2 hl) hb2
theorem closed_set {listed : Array Bool} (hc : Closed ops listed) {i : Nat} (hr : i ∈ Region.ready .any ops listed) : Closed ops (listed.setIfInBounds i true) := by
  obtain ⟨_, oi, hoi, hall⟩ := mem_ready.1 hr
  have keep : ∀ k, listed.getD k false = true → (listed.setIfInBounds i true).getD k false = true := fun k hk => getD_set_true hk
  intro k o ho hk e he hb
  by_cases hik : i = k
  · subst hik
    rw [hoi] at ho
    cases ho
    exact keep _ (hall e he hb)
  · rw [getD_set_ne false hik] at hk
    exact keep _ (hc k o ho hk e he hb)
theorem tailReach_spec {i j : Nat} {o : Oper} (h : tailReach ops n i = true) (hj : ops[j]? = some o) (hn : n ≤ j) : reaches ops ops.size j i = true := by
  have hlt : j < ops.size := (Array.getElem?_eq_some_iff.1 hj).1
  have h1 := List.all_eq_true.1 h j (List.mem_range.2 hlt)
  simp only [Bool.or_eq_true, decide_eq_true_eq] at h1
  rcases h1 with h1 | h1
  · omega
  · exact h1
theorem closed_none (ops : Array Oper) (m : Nat) : Closed ops (Array.replicate m false) := by
  intro k o _ h
  simp only [Array.getD_eq_getD_getElem?, Array.getElem?_replicate] at h
  split at h <;> simp at h
theorem wpAnyB_firstT {i : Nat} {oi : Oper} {v : Value} (hi : ops[i]? = some oi) (hs : Region.noSelect ops = true)
    (hQ : ∀ c a w, Q (.panic c) (a.put oi.dst v) w → Q (.panic c) a w) (ht : tailReach ops n i = true) :
    ∀ (fuel : Nat) (listed : Array Bool) (a : Act) (w : World), Closed ops listed →
      (∀ j oj, ops[j]? = some oj → j ≠ i → listed.getD j true = false → (∀ e ∈ oj.after, Region.binds .any e = true → e.on ≠ i) → oi.apart ops oj = true) →
      i ∈ Region.ready .any ops listed → YieldsQ P ops S oi v a → S w →
      wpAnyB P ops Q S n fuel (listed.setIfInBounds i true) (a.put oi.dst v) w → wpAnyB P ops Q S n (fuel + 1) listed a w := by
  have hsel := Region.noSelect_spec hs
  intro fuel
  induction fuel with
  | zero =>
    intro listed a w _ _ hr hy hS H
    refine ⟨fun h => (by rw [h] at hr; cases hr), fun j hj => ?_⟩
    by_cases hji : j = i
    · subst hji; exact hy.wpOp hi hS ⟨fun _ => hS, H⟩
    · have := ready_mono hj hji
      rw [H.1] at this
      cases this
  | succ fuel ih =>
    intro listed a w hcl hfree hr hy hS H
    refine ⟨fun h => (by rw [h] at hr; cases hr), fun j hj => ?_⟩
    by_cases hji : j = i
    · subst hji; exact hy.wpOp hi hS ⟨fun _ => hS, H⟩
    · have h1 := H.2 j (ready_mono hj hji)
      obtain ⟨hjun, oj, hoj, hall⟩ := mem_ready.1 hj
      have hnot : ∀ e ∈ oj.after, Region.binds .any e = true → e.on ≠ i := fun e he hb heq =>
        unlisted_not (mem_ready.1 hr).1 (heq ▸ hall e he hb)
      have hjn : j < n := by
        rcases Nat.lt_or_ge j n with h | h
        · exact h
        · exact (unlisted_not (mem_ready.1 hr).1 (reach_listed hcl _ j oj hoj hall (tailReach_spec ht hoj h))).elim
      have h2 := wpOp_putQ hoj (hfree j oj hoj hji hjun hnot) (fun cs b => hsel i oi cs b hi) (fun cs b => hsel j oj cs b hoj) hQ hy h1
      have hfree' : ∀ k ok, ops[k]? = some ok → k ≠ i → (listed.setIfInBounds j true).getD k true = false →
          (∀ e ∈ ok.after, Region.binds .any e = true → e.on ≠ i) → oi.apart ops ok = true := fun k ok hk hki hun hno => by
        refine hfree k ok hk hki ?_ hno
        by_cases hjk : j = k
        · subst hjk; exact hjun
        · rw [getD_set_ne true hjk] at hun; exact hun
      refine wpOp_mono (fun a' w' h3 => ⟨fun _ => h3.2.1 hjn, ih (listed.setIfInBounds j true) a' w' (closed_set hcl hj) hfree' (ready_mono hr (Ne.symm hji)) h3.1 (h3.2.1 hjn) ?_⟩) h2
      rw [Array.setIfInBounds_comm _ _ hji]
      exact h3.2.2

def ordOkT (ops : Array Oper) (n : Nat) : List (Nat × Bool) → Array Bool → Bool
  | [], listed => (Region.ready .any ops listed).isEmpty
  | (i, true) :: r, listed => decide (i < n) && (Region.ready .any ops listed).contains i && Region.free .any ops listed i && tailReach ops n i && ordOkT ops n r (listed.setIfInBounds i true)
  | (i, false) :: r, listed => (decide (i < n) || r.all fun x => decide (n ≤ x.1)) && (match Region.ready .any ops listed with | [j] => j == i | _ => false) && ordOkT ops n r (listed.setIfInBounds i true)

theorem wpAnyB_of_ordT {ι : Type} {F : ι → World} (hs : Region.noSelect ops = true) (hQ : ∀ c (a : Act) (d : Option Tmp) (v : Value) w, Q (.panic c) (a.put d v) w → Q (.panic c) a w) :
    ∀ (ord : List (Nat × Bool)) (listed : Array Bool) (a : Act) (w : World), Closed ops listed → ordOkT ops n ord listed = true → ((∃ x ∈ ord, x.1 < n) → Sf F w) → wpOrd P ops Q F n ord a w →
      wpAnyB P ops Q (Sf F) n ord.length listed a w
  | [], listed, a, w, _, hok, _, h => by
    simp only [ordOkT, List.isEmpty_iff] at hok
    exact ⟨hok, h⟩
  | (i, true) :: r, listed, a, w, hcl, hok, hS, h => by
    simp only [ordOkT, Bool.and_eq_true, decide_eq_true_eq] at hok
    obtain ⟨⟨⟨⟨hin, hr⟩, hf⟩, ht⟩, hok⟩ := hok
    have hw := hS ⟨(i, true), by simp, hin⟩
    simp only [wpOrd] at h
    cases ho : ops[i]? with
    | none => simp [ho] at h
    | some o =>
      simp only [ho] at h
      have again := fun a' h' => wpAnyB_of_ordT hs hQ r (listed.setIfInBounds i true) a' w (closed_set hcl (by simpa using hr)) hok (fun _ => hw) h'
      by_cases hwt : Region.wanted o (yielded ops a.tmps) = true
      · simp only [hwt, if_true] at h
        obtain ⟨v, hv, hk⟩ := h
        exact wpAnyB_firstT ho hs (fun c a w => hQ c a _ _ w) ht _ listed a w hcl (Region.free_spec ho hf) (by simpa using hr)
          (Or.inl ⟨hwt, fun w' hw' => by obtain ⟨X, rfl⟩ := hw'; exact hv X⟩) hw (again _ hk)
      · have hwt' : Region.wanted o (yielded ops a.tmps) = false := by simpa using hwt
        simp only [hwt', Bool.false_eq_true, if_false] at h
        exact wpAnyB_firstT ho hs (fun c a w => hQ c a _ _ w) ht _ listed a w hcl (Region.free_spec ho hf) (by simpa using hr)
          (Or.inr ⟨hwt', rfl⟩) hw (again _ h)
  | (i, false) :: r, listed, a, w, hcl, hok, hS, h => by
    simp only [ordOkT, Bool.and_eq_true, Bool.or_eq_true, decide_eq_true_eq] at hok
    obtain ⟨⟨hin, hr⟩, hok⟩ := hok
    have hr' : Region.ready .any ops listed = [i] := by
      split at hr
      · rename_i j hj; rw [hj]; simp at hr; rw [hr]
      · cases hr
    refine ⟨fun h0 => (by rw [h0] at hr'; cases hr'), fun j hj => ?_⟩
    rw [hr', List.mem_singleton] at hj
    subst hj
    simp only [wpOrd] at h
    cases ho : ops[j]? with
    | none => simp [ho] at h
    | some o =>
      simp only [ho] at h
      unfold wpOp
      simp only [ho]
      have again := fun (a' : Act) (w' : World) (hw' : (∃ x ∈ r, x.1 < n) → Sf F w') h' => wpAnyB_of_ordT (F := F) hs hQ r (listed.setIfInBounds j true) a' w' (closed_set hcl (by rw [hr']; simp)) hok hw' h'
      have later : (∃ x ∈ r, x.1 < n) → j < n := fun ⟨x, hx, hxn⟩ => by
        rcases hin with h1 | h1
        · exact h1
        · have := List.all_eq_true.1 h1 x hx
          simp only [decide_eq_true_eq] at this
          omega
      by_cases hwt : Region.wanted o (yielded ops a.tmps) = true
      · simp only [hwt, if_true] at h ⊢
        exact Or.inl (Oper.wp_mono (fun a' w' h' => ⟨h'.1, again a' w' (fun hx => h'.1 (later hx)) h'.2⟩) h)
      · have hwt' : Region.wanted o (yielded ops a.tmps) = false := by simpa using hwt
        simp only [hwt', Bool.false_eq_true, if_false] at h ⊢
        exact ⟨fun hj => hS ⟨(j, false), by simp, hj⟩, again _ _ (fun hx => hS ⟨(j, false), by simp, later hx⟩) h⟩

theorem wp_region_ordTF {ι : Type} (F : ι → World) {id : Nat} {l : List Oper} {a : Act} {w : World} (ord : List (Nat × Bool)) (n : Nat) (hm : P.follows .mixedOrders = true)
    (hok : (ordOkT l.toArray n ord (Array.replicate l.toArray.size false) && Region.noSelect l.toArray && ord.length == l.toArray.size) = true)
    (h0 : Sf F w.drew) (h : wpOrd P l.toArray (NoPan Q) F n ord a w.drew) : (Code.region id l.toArray true).wp P Q a w := by
  simp only [Bool.and_eq_true, beq_iff_eq] at hok
  have h1 : (Code.region id l.toArray true).wp P (NoPan Q) a w := by
    refine wp_region_any hm ?_
    rw [← hok.2]
    exact wpAny_of_B _ _ _ _ (wpAnyB_of_ordT hok.1.2 (fun _ _ _ _ _ h => h) ord _ a _ (closed_none _ _) (hok.2 ▸ hok.1.1) (fun _ => h0) h)
  exact Code.wp_mono (fun e a w h => by cases e <;> first | exact h | exact h.elim) h1

theorem wp_region_ordT {id : Nat} {l : List Oper} {a : Act} {w : World} (ord : List (Nat × Bool)) (n : Nat) (hm : P.follows .mixedOrders = true)
    (hok : (ordOkT l.toArray n ord (Array.replicate l.toArray.size false) && Region.noSelect l.toArray && ord.length == l.toArray.size) = true)
    (h : wpOrd P l.toArray (NoPan Q) (fun X => w.ext X) n ord a w.drew) : (Code.region id l.toArray true).wp P Q a w := wp_region_ordTF (fun X => w.ext X) ord n hm hok (Sx.drew w) h

end
end Go
namespace Go.Proofs.YtedgenmbdjadkaaGreatDoor
open Go.ChangeShapes Go.WideShapes Go.ChangeAt Go.RowKit

theorem one_rdl (w : World) (c : CellD) (gx : Nat) (hx : w.heap[gx]? = some (.cells #[.string c.key, .string c.val] 39 (0, 0))) : RdL rCell w (.slice (some ⟨gx, 0, none⟩) 1 1) [c] := by
  refine .inr ⟨gx, 0, 1, rfl, Nat.le_refl _, by unfold maxLen; omega, fun j u hj => ?_⟩
  rw [World.cell?_of_get hx, Nat.zero_add]
  simpa [rCell, CellD.row] using hj
theorem alloc_new (w : World) (o : Obj) (n : Nat) (h : n = w.heap.size) : (w.alloc o).heap[n]? = some o := by
  subst h
  show (w.heap.push o)[_]? = _
  simp
theorem alloc_old (w : World) (o : Obj) {b : Nat} (h : b < w.heap.size) : (w.alloc o).heap[b]? = w.heap[b]? := by
  show (w.heap.push o)[_]? = _
  rw [Array.getElem?_push, if_neg (Nat.ne_of_lt h)]
theorem own_cells {w : World} {B g n cap : Nat} {ds : List CellD} {cur : Array Value} (hh : w.heap[g]? = some (.cells cur 39 (0, 0))) (hg : B ≤ g) (hl : n = ds.length) (hn : n ≤ cap) (hm : cap ≤ maxLen) (hs : cur.size = cap * 2) (ht : cur.toList.take (n * 2) = ds.flatMap CellD.row) : OwnL rCell 39 w B (.slice (some ⟨g, 0, none⟩) n cap) ds := by
  subst hl
  exact ⟨rCell.flat_len _, .inr ⟨g, cap, cur, rfl, hg, hh, hn, hm, hs, ht⟩⟩
set_option maxRecDepth 100000 in
set_option maxHeartbeats 4000000 in
theorem cells_Insert (v : Value) (ds : List CellD) (i : Nat) (c : CellD) (gx B : Nat) (w : World) (ho : OwnL rCell 39 w B v ds) (hi : i ≤ ds.length) (hx : w.heap[gx]? = some (.cells #[.string c.key, .string c.val] 39 (0, 0))) (hgx : v.ownBlock ≠ some gx) (hl : ds.length ≤ 4194304) (hB : B ≤ w.heap.size) :
    Calls Tryz.prog 91 #[v, .int .i64 i, .slice (some ⟨gx, 0, none⟩) 1 1] w fun e w' => ∃ v', e = .returned v' ∧ OwnL rCell 39 w' B v' (ds.take i ++ c :: ds.drop i) ∧ Upon v.ownBlock.toList w w'  := by
  have HX := Lib.hid (one_rdl w c gx hx)
  have HGX := Lib.hid hx
  have HOWN := Lib.hid ho
  have hgl := World.lt_of_get hx
  rcases ho.2 with ⟨rfl, h0⟩ | ⟨g, cap, cur, rfl, hg, hh, hn, hm, hsz, ht⟩
  · have : ds = [] := List.eq_nil_of_length_eq_zero h0
    subst this
    obtain rfl : i = 0 := by simpa using hi
    have HF : Hid (([] : List CellD).take 0 ++ c :: ([] : List CellD).drop 0 = [] ++ [c]) := rfl
    clear ho hx
    go_enter Tryz.func91, Tryz.ntmps91
    go_wp2_with (at_builtin; refine Stop.here ?_)
    refine wpList_appL rfl _ _ _ rfl Tryz.elemCellS (B := B) (R := rCell) (xs := []) HOWN.out rfl (ys := [c]) HX.out rfl (by simp only [List.length_singleton]; omega) (by simp only [List.length_singleton]; unfold maxLen; omega) hB ?_
    intro v4 w4 hown4 hgr4 _
    have HO4 := Lib.hid hown4
    have HU4 := Lib.hid (upon_grown hgr4)
    clear hown4 hgr4
    go_wp2
    go_ret
    exact ⟨_, rfl, by first | exact HO4.out | (rw [HF.out]; exact HO4.out), HU4.out⟩
  have HH := Lib.hid hh
  have HT : Hid (cur.toList.take (ds.length * 2) = ds.flatMap CellD.row) := ht
  have HSZ : Hid (cur.size = cap * 2) := hsz
  have hgb := World.lt_of_get hh
  have hne : gx ≠ g := fun e => hgx (by rw [e]; rfl)
  clear ho hx hh ht hsz hgx
  unfold maxLen at hm
  by_cases hin : i = ds.length
  case pos =>
    have HF : Hid (ds.take i ++ c :: ds.drop i = ds ++ [c]) := by show _ = _; rw [hin, List.take_length, List.drop_length]
    subst hin
    by_cases hcap : cap = ds.length
    case pos =>
      have hcap2 : ¬ ds.length < cap := by omega
      go_enter Tryz.func91, Tryz.ntmps91
      go_wp2_with (at_builtin; refine Stop.here ?_)
      refine wpList_appL rfl _ _ _ rfl Tryz.elemCellS (B := B) (R := rCell) (xs := ds) HOWN.out rfl (ys := [c]) HX.out rfl (by simp only [List.length_singleton]; omega) (by simp only [List.length_singleton]; unfold maxLen; omega) hB ?_
      intro v4 w4 hown4 hgr4 _
      have HO4 := Lib.hid hown4
      have HU4 := Lib.hid (upon_grown hgr4)
      clear hown4 hgr4
      go_wp2
      go_ret
      exact ⟨_, rfl, by first | exact HO4.out | (rw [HF.out]; exact HO4.out), HU4.out⟩
    case neg =>
      go_enter Tryz.func91, Tryz.ntmps91
      go_wp2_with (at_builtin; refine Stop.here ?_)
      refine wpList_appL rfl _ _ _ rfl Tryz.elemCellS (B := B) (R := rCell) (xs := ds) HOWN.out rfl (ys := [c]) HX.out rfl (by simp only [List.length_singleton]; omega) (by simp only [List.length_singleton]; unfold maxLen; omega) hB ?_
      intro v4 w4 hown4 hgr4 _
      have HO4 := Lib.hid hown4
      have HU4 := Lib.hid (upon_grown hgr4)
      clear hown4 hgr4
      go_wp2
      go_ret
      exact ⟨_, rfl, by first | exact HO4.out | (rw [HF.out]; exact HO4.out), HU4.out⟩
  case neg =>
    have hlt : i < ds.length := by omega
    have hz2 : ¬ ((i : Int) = (ds.length : Int)) := by omega
    have hc1 : ¬ cap = i := by omega
    obtain ⟨Ra, hRa⟩ : ∃ R, R = (ds.take i).flatMap CellD.row := ⟨_, rfl⟩
    obtain ⟨Rb, hRb⟩ : ∃ R, R = (ds.drop i).flatMap CellD.row := ⟨_, rfl⟩
    obtain ⟨Rc, hRc⟩ : ∃ R, R = CellD.row c := ⟨_, rfl⟩
    have la : Ra.length = i * 2 := by rw [hRa, rows_len, List.length_take, Nat.min_eq_left hi]
    have lb : Rb.length = (ds.length - i) * 2 := by rw [hRb, rows_len, List.length_drop]
    have lc : Rc.length = 2 := by rw [hRc]; rfl
    have hab : cur.toList.take (ds.length * 2) = Ra ++ Rb := by rw [HT.out, hRa, hRb, ← List.flatMap_append, List.take_append_drop]
    have HR : Hid ((ds.take i ++ c :: ds.drop i).flatMap CellD.row = Ra ++ (Rc ++ Rb)) := by show _ = _; rw [List.flatMap_append, List.flatMap_cons, hRa, hRb, hRc]
    have oa : ∀ u ∈ Ra, u.oneCell' = true := by rw [hRa]; intro u hu; obtain ⟨d, _, hd⟩ := List.mem_flatMap.1 hu; exact vCell_one d u hd
    have ob : ∀ u ∈ Rb, u.oneCell' = true := by rw [hRb]; intro u hu; obtain ⟨d, _, hd⟩ := List.mem_flatMap.1 hu; exact vCell_one d u hd
    have oc : ∀ u ∈ Rc, u.oneCell' = true := by rw [hRc]; exact vCell_one c
    have hcl : cur.toList.length = cap * 2 := (Array.length_toList (xs := cur)).trans HSZ.out
    have ga : ∀ j u, Ra[j]? = some u → cur[j]? = some u := fun j u hj => by
      have h := (List.getElem?_eq_some_iff.1 hj).1
      have h2 := congrArg (fun l => l[j]?) hab
      simp only [List.getElem?_take, List.getElem?_append_left h] at h2
      rw [if_pos (by omega), Array.getElem?_toList] at h2
      rw [h2]
      exact hj
    have gb : ∀ j u, Rb[j]? = some u → cur[i * 2 + j]? = some u := fun j u hj => by
      have h := (List.getElem?_eq_some_iff.1 hj).1
      have h2 := congrArg (fun l => l[i * 2 + j]?) hab
      simp only [List.getElem?_take] at h2
      rw [if_pos (by omega), List.getElem?_append_right (by omega), la, Nat.add_sub_cancel_left, Array.getElem?_toList] at h2
      rw [h2]
      exact hj
    have gc : ∀ (W : World), W.heap[gx]? = some (.cells #[.string c.key, .string c.val] 39 (0, 0)) → ∀ j u, Rc[j]? = some u → W.cell? ((⟨gx, 0, none⟩ : Addr).add j) = some u := fun W hW j u hj => by
      rw [Addr.add_lit, World.cell?_of_get hW, Nat.zero_add]
      rw [hRc] at hj
      simpa [CellD.row] using hj
    have HRa := Lib.hid hRa
    clear hRa hRb hRc
    by_cases hroom : cap = ds.length
    case pos =>
      -- no room: a new row
      have hrm2 : ¬ ds.length < cap := by omega
      subst hroom
      obtain ⟨G, L, hG1, hG2, hL1, hL2, hrz0⟩ := app_zeros (P := Tryz.prog) (w := w) (tn := 3) Tryz.elemCellS Tryz.underlying3 (some ⟨g, 0, none⟩) i ds.length Ra la (fun h => by cases h) (fun ad had j u hj => by
        cases had
        rw [Addr.add_lit, World.cell?_of_get HH.out, Nat.zero_add]
        exact ga j u hj) (ds.length + 1 - i) (by omega) (by omega) (by omega) (by omega) (by omega)
      have hrz : ∀ ty, (Builtin.append_ #[35, 3] ty #[.slice (some ⟨g, 0, none⟩) i ds.length, .int .i64 ((ds.length : Int) + 1 - (i : Int))]).run Tryz.prog w = .ok (.slice (some ⟨w.heap.size, 0, none⟩) (ds.length + 1) G) (w.alloc (.cells L.toArray 39)).drew := fun ty => by
        have h := hrz0 ty
        rw [show i + (ds.length + 1 - i) = ds.length + 1 by omega] at h
        rw [show (ds.length : Int) + 1 - (i : Int) = ((ds.length + 1 - i : Nat) : Int) by omega]
        exact h
      have hmn1 : Nat.min 1 (ds.length + 1 - i) = 1 := Nat.min_eq_left (by omega)
      have hmn2 : Nat.min (ds.length - i) (ds.length - i) = ds.length - i := Nat.min_self _
      have hcp1 : ∀ ty dc, (Builtin.copy_ #[35, 35] ty #[.slice (some ⟨w.heap.size, i * 2, none⟩) (ds.length + 1 - i) dc, .slice (some ⟨gx, 0, none⟩) 1 1]).run Tryz.prog (w.alloc (.cells L.toArray 39)).drew = .ok (goInt 1) (w.alloc (.cells (splice L (i * 2) Rc).toArray 39)).drew := fun ty dc => by
        have h := run_copyK (P := Tryz.prog) (w := (w.alloc (.cells L.toArray 39)).drew) Tryz.elemCellS ty w.heap.size (i * 2) (ds.length + 1 - i) dc ⟨gx, 0, none⟩ 1 1 L 39 (alloc_new w _ _ rfl) Rc (by rw [lc, hmn1]) (gc _ ((alloc_old w _ hgl).trans HGX.out)) (by rw [lc]; omega) oc
        rw [hmn1, World.setB_drew, World.setB_alloc_at w w.heap.size _ _ rfl] at h
        exact h
      have hcp2 : ∀ ty dc sc, (Builtin.copy_ #[35, 35] ty #[.slice (some ⟨w.heap.size, (i + 1) * 2, none⟩) (ds.length - i) dc, .slice (some ⟨g, i * 2, none⟩) (ds.length - i) sc]).run Tryz.prog (w.alloc (.cells (splice L (i * 2) Rc).toArray 39)).drew.drew = .ok (goInt ((ds.length - i : Nat) : Int)) (w.alloc (.cells (splice (splice L (i * 2) Rc) ((i + 1) * 2) Rb).toArray 39)).drew.drew := fun ty dc sc => by
        have h := run_copyK (P := Tryz.prog) (w := (w.alloc (.cells (splice L (i * 2) Rc).toArray 39)).drew.drew) Tryz.elemCellS ty w.heap.size ((i + 1) * 2) (ds.length - i) dc ⟨g, i * 2, none⟩ (ds.length - i) sc (splice L (i * 2) Rc) 39 (alloc_new w _ _ rfl) Rb (by rw [lb, hmn2]) (fun j u hj => by
          rw [Addr.add_lit]
          have h2 := World.cell?_of_get (w := (w.alloc (.cells (splice L (i * 2) Rc).toArray 39)).drew.drew) (i := i * 2 + j) (show _ from (alloc_old w _ hgb).trans HH.out)
          rw [h2]
          exact gb j u hj) (by rw [length_splice _ _ _ (by rw [lc]; omega), lb]; omega) ob
        rw [hmn2, World.setB_drew, World.setB_drew, World.setB_alloc_at w w.heap.size _ _ rfl] at h
        exact h
      obtain ⟨L1, hE1⟩ : ∃ L1, L1 = splice L (i * 2) Rc := ⟨_, rfl⟩
      obtain ⟨L2, hE2⟩ : ∃ L2, L2 = splice L1 ((i + 1) * 2) Rb := ⟨_, rfl⟩
      rw [← hE1] at hcp1 hcp2
      rw [← hE2] at hcp2
      have HFIN : Hid (L2.length = G * 2 ∧ L2.take ((ds.length + 1) * 2) = Ra ++ (Rc ++ Rb)) := by
        have e1 : (i + 1) * 2 = i * 2 + Rc.length := by rw [lc]; omega
        refine ⟨?_, ?_⟩
        · rw [hE2, length_splice _ _ _ (by rw [hE1, length_splice _ _ _ (by rw [lc]; omega), lb]; omega), hE1, length_splice _ _ _ (by rw [lc]; omega), hL1]
        · have h := splice_then L (i * 2) Rc Rb (by rw [lb, lc]; omega)
          rw [← e1, ← hE1, ← hE2, hL2] at h
          rw [← h]
          congr 1
          rw [lb]; omega
      have HRZ := Lib.hid hrz
      have HC1 := Lib.hid hcp1
      have HC2 := Lib.hid hcp2
      clear hrz0 hrz hcp1 hcp2 hE1 hE2 hL1 hL2
      rw [show i + (ds.length + 1 - i) = ds.length + 1 by omega] at hG1
      have hGi : ¬ G = i := by omega
      have hGi1 : ¬ G = i + 1 := by omega
      have htn : ((i : Int) + 1).toNat = i + 1 := by omega
      have hb1 : (0 : Int) ≤ (i : Int) + 1 := by omega
      have hb3 : (i : Int) + 1 ≤ (ds.length : Int) + 1 := by omega
      unfold maxLen at hG2
      go_enter Tryz.func91, Tryz.ntmps91
      go_wp2_with (at_builtin; refine Stop.here ?_)
      refine wpList_appR rfl _ _ _ _ rfl rfl rfl (HRZ.out _) ?_
      have hcp1 := HC1.out
      go_wp2
      clear hcp1
      refine wp_region_ordT [(0,true),(1,true),(2,true),(3,true),(4,true),(5,true),(6,true),(7,true),(8,false)] 8 (by kernel_rfl) (by kernel_rfl) ?_
      repeat (refine wpOrd_quiet rfl (fun K hK => ?_); go_simp; (try simp (disch := omega) only [IntWalk.i64_in]); refine hK _ ?_; clear hK K)
      refine wpOrd_tail rfl rfl (fun K hK => ?_)
      rw [if_pos (by rfl)]
      refine wp_copyR (.tmp 50) (.tmp 53) 35 rfl (v := .slice (some ⟨w.heap.size, (i + 1) * 2, none⟩) (ds.length - i) (G - (i + 1))) (u := .slice (some ⟨g, i * 2, none⟩) (ds.length - i) (ds.length - i)) (by rfl) (by rfl) (HC2.out _ _ _) ?_
      refine hK _ _ ?_
      clear hK K
      refine wpOrd_nil ?_
      go_wp2
      go_ret
      exact ⟨_, rfl, own_cells (alloc_new w _ _ rfl) hB (by simp; omega) hG1 (by unfold maxLen; omega) (by simpa using HFIN.out.1) (by rw [HR.out]; simpa using HFIN.out.2), Upon.below (by repeat (first | with_reducible exact Below.refl _ _ | with_reducible apply Below.ofExt | with_reducible apply Below.ofAlloc | with_reducible apply Below.drew | with_reducible apply Below.ofDrewN | with_reducible assumption | (with_reducible refine Below.setCell ?_ (by first | exact Nat.le_refl _ | (simp [go_sem]; done) | (simp [go_sem]; omega)) _)))⟩
    case neg =>
      have hrm : ds.length < cap := by omega
      have hrm2 : ds.length + 1 ≤ cap := by omega
      have hta : cur.toList.take (i * 2) = Ra := by
        have h2 := congrArg (List.take (i * 2)) hab
        rw [List.take_take, Nat.min_eq_left (by omega), List.take_left' la] at h2
        exact h2
      have hov : ∀ lb cb, (callFunc 107 #[.slice (some ⟨gx, 0, none⟩) 1 1, .slice (some ⟨g, (i + 1) * 2, none⟩) lb cb]).run Tryz.prog w = .ok (.value (.bool false)) w := fun lb cb => by
        obtain ⟨i0, z0, hi0, hz0, hs0, _, _⟩ := (Tryz.elemCellS).hi
        rw [run_callFunc_extern Tryz.func107 (by kernel_rfl) (by kernel_rfl) (by kernel_rfl) (e := Extern.SlicesOverlaps.overlaps #[35, 35] #[4]) (by kernel_rfl),
          Lib.run_overlaps_apart w 35 4 39 Tryz.underlying35 2 (fun w => by simp [sizeOf, typeInfo, hi0, hs0]) ⟨gx, 0, none⟩ ⟨g, (i + 1) * 2, none⟩ 1 1 lb cb hne 39 39 2 (cap * 2) (by simp [World.shape?, HGX.out]) (by simp [World.shape?, HH.out, HSZ.out]) (by omega) (by simp [World.frozen?, HGX.out]) (by simp [World.frozen?, HGX.out])]
        rfl
      have hmn1 : Nat.min (ds.length + 1 - i) (ds.length - i) = ds.length - i := Nat.min_eq_right (by omega)
      have hmn2 : Nat.min 1 (ds.length + 1 - i) = 1 := Nat.min_eq_left (by omega)
      have hcp1 : ∀ ty dc sc, (Builtin.copy_ #[35, 35] ty #[.slice (some ⟨g, (i + 1) * 2, none⟩) (ds.length - i) dc, .slice (some ⟨g, i * 2, none⟩) (ds.length + 1 - i) sc]).run Tryz.prog w.drew = .ok (goInt ((ds.length - i : Nat) : Int)) (w.setB g (.cells (splice cur.toList ((i + 1) * 2) Rb).toArray 39)).drew := fun ty dc sc => by
        have h := run_copyK (P := Tryz.prog) (w := w.drew) Tryz.elemCellS ty g ((i + 1) * 2) (ds.length - i) dc ⟨g, i * 2, none⟩ (ds.length + 1 - i) sc cur.toList 39 (by rw [Array.toArray_toList]; exact HH.out) Rb (by rw [lb, hmn1]) (fun j u hj => by
          rw [Addr.add_lit, World.cell?_of_get (w := w.drew) HH.out]
          exact gb j u hj) (by rw [lb, hcl]; omega) ob
        rw [hmn1, World.setB_drew] at h
        exact h
      have hcp2 : ∀ ty dc, (Builtin.copy_ #[35, 35] ty #[.slice (some ⟨g, i * 2, none⟩) (ds.length + 1 - i) dc, .slice (some ⟨gx, 0, none⟩) 1 1]).run Tryz.prog (w.setB g (.cells (splice cur.toList ((i + 1) * 2) Rb).toArray 39)).drew = .ok (goInt 1) (w.setB g (.cells (splice (splice cur.toList ((i + 1) * 2) Rb) (i * 2) Rc).toArray 39)).drew := fun ty dc => by
        have h := run_copyK (P := Tryz.prog) (w := (w.setB g (.cells (splice cur.toList ((i + 1) * 2) Rb).toArray 39)).drew) Tryz.elemCellS ty g (i * 2) (ds.length + 1 - i) dc ⟨gx, 0, none⟩ 1 1 (splice cur.toList ((i + 1) * 2) Rb) 39 (World.setB_at _ _ _ hgb) Rc (by rw [lc, hmn2]) (gc _ ((World.setB_get _ _ _ _ hne).trans HGX.out)) (by rw [length_splice _ _ _ (by rw [lb, hcl]; omega), lc, hcl]; omega) oc
        rw [hmn2, World.setB_drew, World.setB_setB] at h
        exact h
      obtain ⟨L1, hE1⟩ : ∃ L1, L1 = splice cur.toList ((i + 1) * 2) Rb := ⟨_, rfl⟩
      obtain ⟨L2, hE2⟩ : ∃ L2, L2 = splice L1 (i * 2) Rc := ⟨_, rfl⟩
      rw [← hE1] at hcp1 hcp2
      rw [← hE2] at hcp2
      have HFIN : Hid (L2.length = cap * 2 ∧ L2.take ((ds.length + 1) * 2) = Ra ++ (Rc ++ Rb)) := by
        have e1 : (i + 1) * 2 = i * 2 + Rc.length := by rw [lc]; omega
        refine ⟨?_, ?_⟩
        · rw [hE2, length_splice _ _ _ (by rw [hE1, length_splice _ _ _ (by rw [lb, hcl]; omega), lc, hcl]; omega), hE1, length_splice _ _ _ (by rw [lb, hcl]; omega), hcl]
        · have h := splice_ahead cur.toList (i * 2) Rc Rb (by rw [lb, lc, hcl]; omega)
          rw [← e1, ← hE1, ← hE2, hta] at h
          rw [← h]
          congr 1
          rw [lb]; omega
      have HC1 := Lib.hid hcp1
      have HC2 := Lib.hid hcp2
      clear hcp1 hcp2 hE1 hE2 hta hab ga gb gc
      have hci1 : ¬ cap = i + 1 := by omega
      have htn : ((i : Int) + 1).toNat = i + 1 := by omega
      have htn2 : ((ds.length : Int) + 1).toNat = ds.length + 1 := by omega
      have hb1 : (0 : Int) ≤ (i : Int) + 1 := by omega
      have hb2 : (0 : Int) ≤ (ds.length : Int) + 1 := by omega
      have hb3 : (i : Int) + 1 ≤ (ds.length : Int) + 1 := by omega
      have hb4 : (ds.length : Int) + 1 ≤ (cap : Int) := by omega
      have hb5 : (i : Int) ≤ (ds.length : Int) + 1 := by omega
      go_enter Tryz.func91, Tryz.ntmps91
      go_wp2_with (simp only [hov])
      clear hov
      refine wp_region_ordT [(0,true),(1,true),(2,true),(3,true),(4,true),(5,true),(6,true),(7,true),(8,false)] 8 (by kernel_rfl) (by kernel_rfl) ?_
      repeat (refine wpOrd_quiet rfl (fun K hK => ?_); go_simp; (try simp (disch := omega) only [IntWalk.i64_in]); refine hK _ ?_; clear hK K)
      refine wpOrd_tail rfl rfl (fun K hK => ?_)
      rw [if_pos (by rfl)]
      refine wp_copyR (.tmp 73) (.tmp 76) 35 rfl (v := .slice (some ⟨g, (i + 1) * 2, none⟩) (ds.length - i) (cap - (i + 1))) (u := .slice (some ⟨g, i * 2, none⟩) (ds.length + 1 - i) (cap - i)) (by rfl) (by rfl) (HC1.out _ _ _) ?_
      refine hK _ _ ?_
      clear hK K
      refine wpOrd_nil ?_
      have hcp2 := HC2.out
      go_wp2
      clear hcp2
      go_ret
      exact ⟨_, rfl, own_cells (World.setB_at _ _ _ hgb) hg (by simp; omega) hrm2 (by unfold maxLen; omega) (by simpa using HFIN.out.1) (by rw [HR.out]; simpa using HFIN.out.2), (show Upon [g] w (w.setB g (.cells L2.toArray 39)) from Upon.setB _ _ (by simp)).trans (Upon.below (by repeat (first | with_reducible exact Below.refl _ _ | with_reducible apply Below.ofExt | with_reducible apply Below.ofAlloc | with_reducible apply Below.drew | with_reducible apply Below.ofDrewN | with_reducible assumption | (with_reducible refine Below.setCell ?_ (by first | exact Nat.le_refl _ | (simp [go_sem]; done) | (simp [go_sem]; omega)) _))))⟩
end Go.Proofs.YtedgenmbdjadkaaGreatDoor
namespace Go.Proofs.YtedgenmbdjadkaaGreatDoor
open Go.ChangeShapes Go.WideShapes Go.ChangeAt Go.RowKit

theorem insC_at (key val : ByteArray) (ys : List CellD) (n : Nat) (hn : n < ys.length) (h : (ys.take n).any (gtKey key) = false) (h2 : gtKey key ys[n] = true) : insC key val ys = ys.take n ++ CellD.mk key val :: ys.drop n := by
  unfold insC
  have e : ys = ys.take n ++ ys[n] :: ys.drop (n + 1) := by rw [← List.drop_eq_getElem_cons hn, List.take_append_drop]
  have ha : ∀ x ∈ ys.take n, (!gtKey key x) = true := fun x hx => by
    rw [List.any_eq_false] at h
    simpa using h x hx
  have e1 : (ys.takeWhile fun c => !gtKey key c) = ys.take n := by
    conv => lhs; rw [e]
    rw [List.takeWhile_append_of_pos ha, List.takeWhile_cons, h2, Bool.not_true, if_neg (by decide), List.append_nil]
  have e2 : (ys.dropWhile fun c => !gtKey key c) = ys.drop n := by
    conv => lhs; rw [e]
    rw [List.dropWhile_append_of_pos ha, List.dropWhile_cons, h2, Bool.not_true, if_neg (by decide)]
    exact (List.drop_eq_getElem_cons hn).symm
  rw [e1, e2]
set_option maxRecDepth 100000 in
set_option maxHeartbeats 4000000 in
theorem impl_put (v : Value) (ds : List CellD) (key val : ByteArray) (B : Nat) (w : World) (ho : OwnL rCell 39 w B v ds) (hks : key.size ≤ 9223372036854775807) (hl : ds.length ≤ 4194304) (hB : B ≤ w.heap.size) :
    Calls Tryz.prog 61 #[v, .string key, .string val] w fun e w' => ∃ v', e = .returned v' ∧ OwnL rCell 39 w' B v' (putC key val ds) ∧ Upon v.ownBlock.toList w w' := by
  obtain ⟨ao, cap, rfl⟩ := ho.rd.form
  have HO := Lib.hid ho
  have HSB := Lib.hid hB
  have hnb : (Value.slice ao ds.length cap).ownBlock ≠ some w.heap.size := fun e => absurd (ho.lt _ e).2 (Nat.lt_irrefl _)
  clear ho hB
  have hwl := without_len key ds
  cases hk0 : keyOk key with
  | false =>
    have HK0 := Lib.hid hk0
    have HF : Hid (putC key val ds = ds) := by show _ = _; unfold putC; rw [if_pos (.inl hk0)]
    clear hk0
    go_enter Tryz.func61, Tryz.ntmps61
    go_wp2_with fail
    (go_at_call 53; refine (impl_KeyOk key _ hks).mono ?_; rintro e w' ⟨rfl, rfl⟩)
    rw [HK0.out]
    go_wp2
    go_ret
    exact ⟨_, rfl, by rw [HF.out]; exact HO.out.alloc _, Upon.below (by repeat (first | with_reducible exact Below.refl _ _ | with_reducible apply Below.ofExt | with_reducible apply Below.ofAlloc | with_reducible apply Below.drew | with_reducible apply Below.ofDrewN | with_reducible assumption | (with_reducible refine Below.setCell ?_ (by first | exact Nat.le_refl _ | (simp [go_sem]; done) | (simp [go_sem]; omega)) _)))⟩
  | true =>
    have HK0 := Lib.hid hk0
    clear hk0
    by_cases hv60 : (60 : Int) < val.size
    case pos =>
      have HF : Hid (putC key val ds = ds) := by show _ = _; unfold putC; rw [if_pos (.inr (by omega))]
      go_enter Tryz.func61, Tryz.ntmps61
      go_wp2_with fail
      (go_at_call 53; refine (impl_KeyOk key _ hks).mono ?_; rintro e w' ⟨rfl, rfl⟩)
      rw [HK0.out]
      go_wp2
      go_ret
      exact ⟨_, rfl, by rw [HF.out]; exact HO.out.alloc _, Upon.below (by repeat (first | with_reducible exact Below.refl _ _ | with_reducible apply Below.ofExt | with_reducible apply Below.ofAlloc | with_reducible apply Below.drew | with_reducible apply Below.ofDrewN | with_reducible assumption | (with_reducible refine Below.setCell ?_ (by first | exact Nat.le_refl _ | (simp [go_sem]; done) | (simp [go_sem]; omega)) _)))⟩
    case neg =>
      by_cases hv : val.size = 0
      case pos =>
        obtain rfl : val = ⟨#[]⟩ := by
          obtain ⟨⟨l⟩⟩ := val
          have : l = [] := List.eq_nil_of_length_eq_zero hv
          subst this
          rfl
        have HF : Hid (putC key ⟨#[]⟩ ds = without key ds) := by show _ = _; unfold putC; rw [if_neg (fun h => h.elim (fun h => by rw [HK0.out] at h; cases h) (fun h => absurd h (by decide))), if_pos hv]
        go_enter Tryz.func61, Tryz.ntmps61
        go_wp2_with fail
        (go_at_call 53; refine (impl_KeyOk key _ hks).mono ?_; rintro e w' ⟨rfl, rfl⟩)
        rw [HK0.out]
        go_wp2_with fail
        (go_at_call 87; refine (cells_DeleteFunc _ ds key w.heap.size B (w.alloc (.cells #[.string key] 9)) (HO.out.alloc _) (by simp) hnb (by simp [go_sem])).mono ?_; rintro e w1 ⟨v1, rfl, ho1, hob1, hu1⟩)
        obtain ⟨ao1, ac1, e1⟩ := ho1.rd.form
        have hlt1 : w.heap.size < w1.heap.size := Nat.lt_of_lt_of_le (by simp) hu1.size
        have hc1 : w1.cell? ⟨w.heap.size, 0, none⟩ = some (.string key) := by
          have hq : w1.heap[w.heap.size]? = some (.cells #[.string key] 9) := (hu1.block _ (by simp) (fun h => hnb (by simpa using h))).trans (alloc_new w _ _ rfl)
          exact (World.cell?_of_get hq).trans rfl
        have HO1 := Lib.hid ho1
        have HU1 := Lib.hid (Upon.trans (Upon.below ((Below.refl w.heap.size w).ofAlloc (.cells #[.string key] 9))) hu1)
        have HOB := Lib.hid hob1
        clear ho1 hu1 hob1
        subst e1
        go_wp2
        go_ret
        exact ⟨_, rfl, by rw [HF.out]; exact HO1.out, HU1.out⟩
      case neg =>
        have hve : (val.toList == []) = false := by
          obtain ⟨⟨l⟩⟩ := val
          cases l with
          | nil => exact absurd rfl hv
          | cons a l => exact beq_false_of_ne (by rw [show (ByteArray.mk ⟨a :: l⟩).toList = _ from ByteArray.toList_eq _]; exact List.cons_ne_nil _ _)
        have hp : putC key val ds = insC key val (without key ds) := by unfold putC; rw [if_neg (fun h => h.elim (fun h => by rw [HK0.out] at h; cases h) (fun h => absurd h (by omega))), if_neg hv]
        cases hany : (without key ds).any (gtKey key) with
        | false =>
          have HI : Hid (firstIdx (gtKey key) (without key ds) = -1) := firstIdx_none _ _ hany
          have HF : Hid (putC key val ds = (without key ds).take (without key ds).length ++ CellD.mk key val :: (without key ds).drop (without key ds).length) := by show _ = _; rw [hp, insC_none hany, List.take_length, List.drop_length]
          clear hany hp
          go_enter Tryz.func61, Tryz.ntmps61
          go_wp2_with fail
          (go_at_call 53; refine (impl_KeyOk key _ hks).mono ?_; rintro e w' ⟨rfl, rfl⟩)
          rw [HK0.out]
          go_wp2_with fail
          (go_at_call 87; refine (cells_DeleteFunc _ ds key w.heap.size B (w.alloc (.cells #[.string key] 9)) (HO.out.alloc _) (by simp) hnb (by simp [go_sem])).mono ?_; rintro e w1 ⟨v1, rfl, ho1, hob1, hu1⟩)
          obtain ⟨ao1, ac1, e1⟩ := ho1.rd.form
          have hlt1 : w.heap.size < w1.heap.size := Nat.lt_of_lt_of_le (by simp) hu1.size
          have hc1 : w1.cell? ⟨w.heap.size, 0, none⟩ = some (.string key) := by
            have hq : w1.heap[w.heap.size]? = some (.cells #[.string key] 9) := (hu1.block _ (by simp) (fun h => hnb (by simpa using h))).trans (alloc_new w _ _ rfl)
            exact (World.cell?_of_get hq).trans rfl
          have HO1 := Lib.hid ho1
          have HU1 := Lib.hid (Upon.trans (Upon.below ((Below.refl w.heap.size w).ofAlloc (.cells #[.string key] 9))) hu1)
          have HOB := Lib.hid hob1
          clear ho1 hu1 hob1
          subst e1
          go_wp2_with fail
          (go_at_call 89; refine (cells_IndexFunc2 _ (without key ds) key w.heap.size _ HO1.out.rd hlt1 hc1).mono ?_; rintro e w' ⟨rfl, hb⟩; obtain ⟨X, rfl⟩ := hb.ext; clear hb)
          rw [HI.out]
          go_wp2_with fail
          (go_at_call 91; refine (cells_Insert _ (without key ds) (without key ds).length (CellD.mk key val) _ B _ (by repeat (first | exact HO1.out | exact OwnL.ext HO1.out _ | apply OwnL.alloc | apply OwnL.ext)) (by omega) (alloc_new _ _ _ (by simp [World.ext_size])) (fun e => by rw [HOB.out] at e; have := (HO.out.lt _ e).2; (try simp [World.ext_size] at this); omega) (by omega) (by simp [World.ext_size]; have := HSB.out; omega)).mono ?_; rintro e w2 ⟨v2, rfl, ho2, hu2⟩)
          have HO2 := Lib.hid ho2
          rw [HOB.out] at hu2
          have hut : Upon (Value.slice ao ds.length cap).ownBlock.toList w w2 := by
            refine Upon.trans (Upon.trans HU1.out (Upon.below ?_)) hu2
            exact (by repeat (first | with_reducible exact Below.refl _ _ | with_reducible apply Below.ofExt | with_reducible apply Below.ofAlloc | with_reducible apply Below.drew | with_reducible apply Below.ofDrewN | with_reducible assumption | (with_reducible refine Below.setCell ?_ (by first | exact Nat.le_refl _ | (simp [go_sem]; done) | (simp [go_sem]; omega)) _)))
          have HU2 := Lib.hid hut
          clear ho2 hu2 hut
          go_wp2
          go_ret
          exact ⟨_, rfl, by rw [HF.out]; exact HO2.out, HU2.out⟩
        | true =>
          obtain ⟨n, hn, hbef, hat⟩ := any_first _ _ hany
          have HI : Hid (firstIdx (gtKey key) (without key ds) = n) := firstIdx_found _ _ n hn hbef hat
          have HF : Hid (putC key val ds = (without key ds).take n ++ CellD.mk key val :: (without key ds).drop n) := by show _ = _; rw [hp, insC_at key val _ n hn hbef hat]
          clear hany hp hbef hat
          go_enter Tryz.func61, Tryz.ntmps61
          go_wp2_with fail
          (go_at_call 53; refine (impl_KeyOk key _ hks).mono ?_; rintro e w' ⟨rfl, rfl⟩)
          rw [HK0.out]
          go_wp2_with fail
          (go_at_call 87; refine (cells_DeleteFunc _ ds key w.heap.size B (w.alloc (.cells #[.string key] 9)) (HO.out.alloc _) (by simp) hnb (by simp [go_sem])).mono ?_; rintro e w1 ⟨v1, rfl, ho1, hob1, hu1⟩)
          obtain ⟨ao1, ac1, e1⟩ := ho1.rd.form
          have hlt1 : w.heap.size < w1.heap.size := Nat.lt_of_lt_of_le (by simp) hu1.size
          have hc1 : w1.cell? ⟨w.heap.size, 0, none⟩ = some (.string key) := by
            have hq : w1.heap[w.heap.size]? = some (.cells #[.string key] 9) := (hu1.block _ (by simp) (fun h => hnb (by simpa using h))).trans (alloc_new w _ _ rfl)
            exact (World.cell?_of_get hq).trans rfl
          have HO1 := Lib.hid ho1
          have HU1 := Lib.hid (Upon.trans (Upon.below ((Below.refl w.heap.size w).ofAlloc (.cells #[.string key] 9))) hu1)
          have HOB := Lib.hid hob1
          clear ho1 hu1 hob1
          subst e1
          go_wp2_with fail
          (go_at_call 89; refine (cells_IndexFunc2 _ (without key ds) key w.heap.size _ HO1.out.rd hlt1 hc1).mono ?_; rintro e w' ⟨rfl, hb⟩; obtain ⟨X, rfl⟩ := hb.ext; clear hb)
          rw [HI.out]
          go_wp2_with fail
          (go_at_call 91; refine (cells_Insert _ (without key ds) n (CellD.mk key val) _ B _ (by repeat (first | exact HO1.out | exact OwnL.ext HO1.out _ | apply OwnL.alloc | apply OwnL.ext)) (by omega) (alloc_new _ _ _ (by simp [World.ext_size])) (fun e => by rw [HOB.out] at e; have := (HO.out.lt _ e).2; (try simp [World.ext_size] at this); omega) (by omega) (by simp [World.ext_size]; have := HSB.out; omega)).mono ?_; rintro e w2 ⟨v2, rfl, ho2, hu2⟩)
          have HO2 := Lib.hid ho2
          rw [HOB.out] at hu2
          have hut : Upon (Value.slice ao ds.length cap).ownBlock.toList w w2 := by
            refine Upon.trans (Upon.trans HU1.out (Upon.below ?_)) hu2
            exact (by repeat (first | with_reducible exact Below.refl _ _ | with_reducible apply Below.ofExt | with_reducible apply Below.ofAlloc | with_reducible apply Below.drew | with_reducible apply Below.ofDrewN | with_reducible assumption | (with_reducible refine Below.setCell ?_ (by first | exact Nat.le_refl _ | (simp [go_sem]; done) | (simp [go_sem]; omega)) _)))
          have HU2 := Lib.hid hut
          clear ho2 hu2 hut
          go_wp2
          go_ret
          exact ⟨_, rfl, by rw [HF.out]; exact HO2.out, HU2.out⟩
end Go.Proofs.YtedgenmbdjadkaaGreatDoor
namespace Go.Proofs.YtedgenmbdjadkaaGreatDoor
open Go.ChangeShapes Go.WideShapes Go.ChangeAt Go.RowKit

theorem _root_.Go.OwnL.heapEq {α : Type} {R : RowOf α} {e : TypeId} {w w' : World} {B : Nat} {v : Value} {xs : List α} (h : OwnL R e w B v xs) (he : w'.heap = w.heap) : OwnL R e w' B v xs := by
  unfold OwnL World.ownsRow at *
  rwa [he]
def applyC (zs ys : List CellD) : List CellD := ys.foldl (fun s c => putC c.key c.val s) zs
theorem applyC_snoc (zs ys : List CellD) (c : CellD) : applyC zs (ys ++ [c]) = putC c.key c.val (applyC zs ys) := by
  unfold applyC
  rw [List.foldl_append]
  rfl
theorem applyC_len (zs : List CellD) : ∀ ys : List CellD, (applyC zs ys).length ≤ zs.length + ys.length := by
  intro ys
  unfold applyC
  induction ys generalizing zs with
  | nil => exact Nat.le_refl _
  | cons c ys ih =>
    have h1 := ih (putC c.key c.val zs)
    have h2 := putC_len c.key c.val zs
    rw [List.foldl_cons, List.length_cons]
    omega
theorem applyC_ok (zs ys : List CellD) (ha : ∀ c ∈ zs, c.ok) (hy : ∀ c ∈ ys, c.ok) : ∀ c ∈ applyC zs ys, c.ok := by
  unfold applyC
  induction ys generalizing zs with
  | nil => exact ha
  | cons c ys ih => exact ih _ (putC_ok ha (hy c (by simp)).1 (hy c (by simp)).2) (fun d hd => hy d (by simp [hd]))
end Go.Proofs.YtedgenmbdjadkaaGreatDoor
namespace Go
section
variable {P : Program} {ops : Array Oper} {Q : Exit → Act → World → Prop} {S : World → Prop} {n : Nat}
/-- it works on slots alone -/
def slotOp (o : Oper) : Bool := match o.op with
  | .extract _ _ => true
  | .move _ => true
  | _ => false
theorem slot_run {o : Oper} (h : slotOp o = true) {a : Act} {v : Value} {w : World} (hr : RetQ P w v ((execOp a.eval o).run P w)) (w' : World) : RetQ P w' v ((execOp a.eval o).run P w') := by
  unfold slotOp at h
  split at h
  · rename_i t k e
    unfold execOp at hr ⊢
    rw [e] at hr ⊢
    dsimp only at hr ⊢
    unfold Instr.extract at hr ⊢
    generalize a.eval t = u at hr ⊢
    cases u <;> first | exact hr.elim | skip
    simp only [Sem.run_bind] at hr ⊢
    split at hr <;> rename_i e2 <;> first | exact hr.elim | exact ⟨hr.1, rfl⟩
  · rename_i t e
    unfold execOp at hr ⊢
    rw [e] at hr ⊢
    exact ⟨hr.1, rfl⟩
  · cases h
theorem wpAnyB_firstP {i : Nat} {oi : Oper} {v : Value} (hi : ops[i]? = some oi) (hs : Region.noSelect ops = true)
    (hQ : ∀ c a w, Q (.panic c) (a.put oi.dst v) w → Q (.panic c) a w) (hn : n ≤ i) :
    ∀ (fuel : Nat) (listed : Array Bool) (a : Act) (w : World),
      (∀ j oj, ops[j]? = some oj → j ≠ i → listed.getD j true = false → (∀ e ∈ oj.after, Region.binds .any e = true → e.on ≠ i) → oi.apart ops oj = true) →
      i ∈ Region.ready .any ops listed → YieldsQ P ops (fun _ => True) oi v a →
      wpAnyB P ops Q S n fuel (listed.setIfInBounds i true) (a.put oi.dst v) w → wpAnyB P ops Q S n (fuel + 1) listed a w := by
  have hsel := Region.noSelect_spec hs
  intro fuel
  induction fuel with
  | zero =>
    intro listed a w _ hr hy H
    refine ⟨fun h => (by rw [h] at hr; cases hr), fun j hj => ?_⟩
    by_cases hji : j = i
    · subst hji; exact hy.wpOp hi trivial ⟨fun h => absurd h (by omega), H⟩
    · have := ready_mono hj hji
      rw [H.1] at this
      cases this
  | succ fuel ih =>
    intro listed a w hfree hr hy H
    refine ⟨fun h => (by rw [h] at hr; cases hr), fun j hj => ?_⟩
    by_cases hji : j = i
    · subst hji; exact hy.wpOp hi trivial ⟨fun h => absurd h (by omega), H⟩
    · have h1 := H.2 j (ready_mono hj hji)
      obtain ⟨hjun, oj, hoj, hall⟩ := mem_ready.1 hj
      have hnot : ∀ e ∈ oj.after, Region.binds .any e = true → e.on ≠ i := fun e he hb heq =>
        unlisted_not (mem_ready.1 hr).1 (heq ▸ hall e he hb)
      have h2 := wpOp_putQ hoj (hfree j oj hoj hji hjun hnot) (fun cs b => hsel i oi cs b hi) (fun cs b => hsel j oj cs b hoj) hQ hy h1
      have hfree' : ∀ k ok, ops[k]? = some ok → k ≠ i → (listed.setIfInBounds j true).getD k true = false →
          (∀ e ∈ ok.after, Region.binds .any e = true → e.on ≠ i) → oi.apart ops ok = true := fun k ok hk hki hun hno => by
        refine hfree k ok hk hki ?_ hno
        by_cases hjk : j = k
        · subst hjk; exact hjun
        · rw [getD_set_ne true hjk] at hun; exact hun
      refine wpOp_mono (fun a' w' h3 => ⟨fun h => h3.2.1 h, ih (listed.setIfInBounds j true) a' w' hfree' (ready_mono hr (Ne.symm hji)) h3.1 ?_⟩) h2
      rw [Array.setIfInBounds_comm _ _ hji]
      exact h3.2.2
def slotAt (ops : Array Oper) (i : Nat) : Bool := match ops[i]? with
  | some o => slotOp o
  | none => false
def ordOkP (ops : Array Oper) (n : Nat) : List (Nat × Bool) → Array Bool → Bool
  | [], listed => (Region.ready .any ops listed).isEmpty
  | (i, true) :: r, listed => ((decide (i < n) && tailReach ops n i) || (decide (n ≤ i) && slotAt ops i)) && (Region.ready .any ops listed).contains i && Region.free .any ops listed i && ordOkP ops n r (listed.setIfInBounds i true)
  | (i, false) :: r, listed => (decide (i < n) || r.all fun x => decide (n ≤ x.1)) && (match Region.ready .any ops listed with | [j] => j == i | _ => false) && ordOkP ops n r (listed.setIfInBounds i true)

theorem wpAnyB_of_ordP {ι : Type} {F : ι → World} (x0 : ι) (hs : Region.noSelect ops = true) (hQ : ∀ c (a : Act) (d : Option Tmp) (v : Value) w, Q (.panic c) (a.put d v) w → Q (.panic c) a w) :
    ∀ (ord : List (Nat × Bool)) (listed : Array Bool) (a : Act) (w : World), Closed ops listed → ordOkP ops n ord listed = true → ((∃ x ∈ ord, x.1 < n) → Sf F w) → wpOrd P ops Q F n ord a w →
      wpAnyB P ops Q (Sf F) n ord.length listed a w
  | [], listed, a, w, _, hok, _, h => by
    simp only [ordOkP, List.isEmpty_iff] at hok
    exact ⟨hok, h⟩
  | (i, true) :: r, listed, a, w, hcl, hok, hS, h => by
    simp only [ordOkP, Bool.and_eq_true, Bool.or_eq_true, decide_eq_true_eq] at hok
    obtain ⟨⟨⟨hin, hr⟩, hf⟩, hok⟩ := hok
    simp only [wpOrd] at h
    cases ho : ops[i]? with
    | none => simp [ho] at h
    | some o =>
      simp only [ho] at h
      have again := fun a' h' => wpAnyB_of_ordP x0 hs hQ r (listed.setIfInBounds i true) a' w (closed_set hcl (by simpa using hr)) hok (fun ⟨x, hx, hxn⟩ => hS ⟨x, List.mem_cons_of_mem _ hx, hxn⟩) h'
      rcases hin with ⟨hin, ht⟩ | ⟨hin, hsl⟩
      · have hw := hS ⟨(i, true), by simp, hin⟩
        by_cases hwt : Region.wanted o (yielded ops a.tmps) = true
        · simp only [hwt, if_true] at h
          obtain ⟨v, hv, hk⟩ := h
          exact wpAnyB_firstT ho hs (fun c a w => hQ c a _ _ w) ht _ listed a w hcl (Region.free_spec ho hf) (by simpa using hr)
            (Or.inl ⟨hwt, fun w' hw' => by obtain ⟨X, rfl⟩ := hw'; exact hv X⟩) hw (again _ hk)
        · have hwt' : Region.wanted o (yielded ops a.tmps) = false := by simpa using hwt
          simp only [hwt', Bool.false_eq_true, if_false] at h
          exact wpAnyB_firstT ho hs (fun c a w => hQ c a _ _ w) ht _ listed a w hcl (Region.free_spec ho hf) (by simpa using hr)
            (Or.inr ⟨hwt', rfl⟩) hw (again _ h)
      · simp only [slotAt, ho] at hsl
        by_cases hwt : Region.wanted o (yielded ops a.tmps) = true
        · simp only [hwt, if_true] at h
          obtain ⟨v, hv, hk⟩ := h
          exact wpAnyB_firstP ho hs (fun c a w => hQ c a _ _ w) hin _ listed a w (Region.free_spec ho hf) (by simpa using hr)
            (Or.inl ⟨hwt, fun w' _ => slot_run hsl (hv x0) w'⟩) (again _ hk)
        · have hwt' : Region.wanted o (yielded ops a.tmps) = false := by simpa using hwt
          simp only [hwt', Bool.false_eq_true, if_false] at h
          exact wpAnyB_firstP ho hs (fun c a w => hQ c a _ _ w) hin _ listed a w (Region.free_spec ho hf) (by simpa using hr)
            (Or.inr ⟨hwt', rfl⟩) (again _ h)
  | (i, false) :: r, listed, a, w, hcl, hok, hS, h => by
    simp only [ordOkP, Bool.and_eq_true, Bool.or_eq_true, decide_eq_true_eq] at hok
    obtain ⟨⟨hin, hr⟩, hok⟩ := hok
    have hr' : Region.ready .any ops listed = [i] := by
      split at hr
      · rename_i j hj; rw [hj]; simp at hr; rw [hr]
      · cases hr
    refine ⟨fun h0 => (by rw [h0] at hr'; cases hr'), fun j hj => ?_⟩
    rw [hr', List.mem_singleton] at hj
    subst hj
    simp only [wpOrd] at h
    cases ho : ops[j]? with
    | none => simp [ho] at h
    | some o =>
      simp only [ho] at h
      unfold wpOp
      simp only [ho]
      have again := fun (a' : Act) (w' : World) (hw' : (∃ x ∈ r, x.1 < n) → Sf F w') h' => wpAnyB_of_ordP (F := F) x0 hs hQ r (listed.setIfInBounds j true) a' w' (closed_set hcl (by rw [hr']; simp)) hok hw' h'
      have later : (∃ x ∈ r, x.1 < n) → j < n := fun ⟨x, hx, hxn⟩ => by
        rcases hin with h1 | h1
        · exact h1
        · have := List.all_eq_true.1 h1 x hx
          simp only [decide_eq_true_eq] at this
          omega
      by_cases hwt : Region.wanted o (yielded ops a.tmps) = true
      · simp only [hwt, if_true] at h ⊢
        exact Or.inl (Oper.wp_mono (fun a' w' h' => ⟨h'.1, again a' w' (fun hx => h'.1 (later hx)) h'.2⟩) h)
      · have hwt' : Region.wanted o (yielded ops a.tmps) = false := by simpa using hwt
        simp only [hwt', Bool.false_eq_true, if_false] at h ⊢
        exact ⟨fun hj => hS ⟨(j, false), by simp, hj⟩, again _ _ (fun hx => hS ⟨(j, false), by simp, later hx⟩) h⟩

theorem wp_region_ordPF {ι : Type} (F : ι → World) {id : Nat} {l : List Oper} {a : Act} {w : World} (ord : List (Nat × Bool)) (n : Nat) (hm : P.follows .mixedOrders = true)
    (hok : (ordOkP l.toArray n ord (Array.replicate l.toArray.size false) && Region.noSelect l.toArray && ord.length == l.toArray.size) = true)
    (h0 : Sf F w.drew) (h : wpOrd P l.toArray (NoPan Q) F n ord a w.drew) : (Code.region id l.toArray true).wp P Q a w := by
  simp only [Bool.and_eq_true, beq_iff_eq] at hok
  have h1 : (Code.region id l.toArray true).wp P (NoPan Q) a w := by
    refine wp_region_any hm ?_
    rw [← hok.2]
    have h00 := h0
    obtain ⟨x0, _⟩ := h00
    exact wpAny_of_B _ _ _ _ (wpAnyB_of_ordP x0 hok.1.2 (fun _ _ _ _ _ h => h) ord _ a _ (closed_none _ _) (hok.2 ▸ hok.1.1) (fun _ => h0) h)
  exact Code.wp_mono (fun e a w h => by cases e <;> first | exact h | exact h.elim) h1
theorem wp_region_ordP {id : Nat} {l : List Oper} {a : Act} {w : World} (ord : List (Nat × Bool)) (n : Nat) (hm : P.follows .mixedOrders = true)
    (hok : (ordOkP l.toArray n ord (Array.replicate l.toArray.size false) && Region.noSelect l.toArray && ord.length == l.toArray.size) = true)
    (h : wpOrd P l.toArray (NoPan Q) (fun X => w.ext X) n ord a w.drew) : (Code.region id l.toArray true).wp P Q a w := wp_region_ordPF (fun X => w.ext X) ord n hm hok (Sx.drew w) h
end
end Go
namespace Go.Proofs.YtedgenmbdjadkaaGreatDoor
open Go.Lib

/-- the pieces between the bytes c: one at least -/
def splitL (c : UInt8) : List UInt8 → List (List UInt8)
  | [] => [[]]
  | b :: l => if b = c then [] :: splitL c l else match splitL c l with
    | [] => [[b]]
    | x :: xs => (b :: x) :: xs
theorem splitL_ne (c : UInt8) : ∀ l, splitL c l ≠ []
  | [] => by simp [splitL]
  | b :: l => by
    unfold splitL
    split
    · simp
    · split <;> simp
theorem splitL_none (c : UInt8) : ∀ l : List UInt8, c ∉ l → splitL c l = [l]
  | [], _ => rfl
  | b :: l, h => by
    have hb : b ≠ c := fun e => h (by rw [e]; simp)
    have hl : c ∉ l := fun e => h (List.mem_cons_of_mem _ e)
    unfold splitL
    rw [if_neg hb, splitL_none c l hl]
theorem splitL_app (c : UInt8) : ∀ (a l : List UInt8), c ∉ a → splitL c (a ++ c :: l) = a :: splitL c l
  | [], l, _ => by
    show splitL c (c :: l) = _
    conv => lhs; unfold splitL
    rw [if_pos rfl]
  | b :: a, l, h => by
    have hb : b ≠ c := fun e => h (by rw [e]; simp)
    have ha : c ∉ a := fun e => h (List.mem_cons_of_mem _ e)
    show splitL c (b :: (a ++ c :: l)) = _
    conv => lhs; unfold splitL
    rw [if_neg hb, splitL_app c a l ha]
theorem index_cons (c b : UInt8) (l : List UInt8) : index (b :: l) [c] = if b = c then 0 else if index l [c] = -1 then -1 else index l [c] + 1 := by
  have e : index (b :: l) [c] = if [c].isPrefixOf (b :: l) then 0 else if index l [c] == -1 then -1 else index l [c] + 1 := rfl
  rw [e]
  by_cases h : b = c
  · subst h
    rw [if_pos (by simp [List.isPrefixOf]), if_pos rfl]
  · rw [if_neg (by simp [List.isPrefixOf]; exact fun e => h e.symm), if_neg h]
    by_cases h2 : index l [c] = -1
    · rw [if_pos (by rw [h2]; rfl), if_pos h2]
    · rw [if_neg (by simpa using h2), if_neg h2]
theorem index_miss_iff (c : UInt8) : ∀ l : List UInt8, index l [c] = -1 ↔ c ∉ l
  | [] => by simp [index]
  | b :: l => by
    rw [index_cons]
    have ih := index_miss_iff c l
    have hg := index_ge l [c]
    by_cases h : b = c
    · rw [if_pos h]
      simp [h]
    · rw [if_neg h]
      by_cases h2 : index l [c] = -1
      · rw [if_pos h2]
        have := ih.1 h2
        simp only [true_iff]
        intro hm
        rcases List.mem_cons.1 hm with e | e
        · exact h e.symm
        · exact this e
      · rw [if_neg h2]
        refine ⟨fun e => by omega, fun hm => absurd (ih.2 fun hh => hm (List.mem_cons_of_mem _ hh)) h2⟩
theorem index_at (c : UInt8) : ∀ (l : List UInt8) (i : Nat), index l [c] = i → l = l.take i ++ c :: l.drop (i + 1) ∧ c ∉ l.take i
  | [], i, h => by simp [index] at h
  | b :: l, i, h => by
    rw [index_cons] at h
    by_cases hb : b = c
    · rw [if_pos hb] at h
      have : i = 0 := by omega
      subst this
      subst hb
      exact ⟨by simp, by simp⟩
    · rw [if_neg hb] at h
      by_cases h2 : index l [c] = -1
      · rw [if_pos h2] at h; omega
      · rw [if_neg h2] at h
        have hg := index_ge l [c]
        obtain ⟨j, hj⟩ : ∃ j : Nat, i = j + 1 := ⟨i - 1, by omega⟩
        subst hj
        obtain ⟨e1, e2⟩ := index_at c l j (by omega)
        refine ⟨?_, ?_⟩
        · show b :: l = b :: (l.take j ++ c :: l.drop (j + 1))
          rw [← e1]
        · intro hm
          rcases List.mem_cons.1 hm with e | e
          · exact hb e.symm
          · exact e2 e
theorem splitK_eq (c : UInt8) : ∀ (k : Nat) (l : List UInt8), count l [c] = k → splitK [c] 0 k l = splitL c l
  | k, l, hk => by
    by_cases hm : index l [c] = -1
    · have h0 := count_miss hm
      rw [hk] at h0
      subst h0
      rw [splitL_none c l ((index_miss_iff c l).1 hm)]
      rfl
    · have hg := index_ge l [c]
      obtain ⟨i, hi⟩ : ∃ i : Nat, index l [c] = i := ⟨(index l [c]).toNat, by omega⟩
      have hc := count_hit (by simp) hi
      obtain ⟨e1, e2⟩ := index_at c l i hi
      cases k with
      | zero => omega
      | succ k =>
        have ih := splitK_eq c k (l.drop (i + 1)) (by simp only [List.length_singleton] at hc; omega)
        conv => lhs; unfold splitK
        rw [if_neg (by simpa using hm), hi]
        simp only [Int.toNat_natCast, List.length_singleton, Nat.add_zero]
        rw [ih]
        conv => rhs; rw [e1]
        rw [splitL_app c _ _ e2]
theorem splitB_eq (c : UInt8) (s : ByteArray) : (splitB ⟨#[c]⟩ 0 (countB s ⟨#[c]⟩) s).map (·.data.toList) = splitL c s.data.toList := by
  rw [splitB_data]
  exact splitK_eq c _ _ rfl
theorem _root_.Go.Lib.cut_eq (c : UInt8) (l : List UInt8) : cut l [c] = if c ∈ l then (l.take (index l [c]).toNat, l.drop ((index l [c]).toNat + 1), true) else (l, [], false) := by
  unfold cut
  have hg := index_ge l [c]
  by_cases h : c ∈ l
  · have : index l [c] ≠ -1 := fun e => (index_miss_iff c l).1 e h
    rw [if_pos (by omega), if_pos h]
    rfl
  · rw [if_neg (by rw [(index_miss_iff c l).2 h]; omega), if_neg h]
theorem _root_.Go.Lib.cut_app (c : UInt8) (a l : List UInt8) (h : c ∉ a) : cut (a ++ c :: l) [c] = (a, l, true) := by
  have hi : index (a ++ c :: l) [c] = a.length := by
    induction a with
    | nil => show index (c :: l) [c] = 0; rw [index_cons, if_pos rfl]
    | cons b a ih =>
      have hb : b ≠ c := fun e => h (by rw [e]; simp)
      have := ih fun e => h (List.mem_cons_of_mem _ e)
      show index (b :: (a ++ c :: l)) [c] = _
      rw [index_cons, if_neg hb, this, if_neg (by omega)]
      simp
  rw [cut_eq, if_pos (by simp), hi]
  simp
end Go.Proofs.YtedgenmbdjadkaaGreatDoor
namespace Go
open Go.ChangeShapes Go.WideShapes Go.ChangeAt Go.RowKit
theorem bytesOf_length (l : List UInt8) : (bytesOf l).length = l.length := by simp [bytesOf]
theorem bytesOf_append (l m : List UInt8) : bytesOf (l ++ m) = bytesOf l ++ bytesOf m := by simp [bytesOf]
theorem bytesOf_one (l : List UInt8) : ∀ u ∈ bytesOf l, u.oneCell' = true := by
  intro u hu
  simp only [bytesOf, List.mem_map] at hu
  obtain ⟨c, _, rfl⟩ := hu
  rfl
theorem strCells_bytes (s : ByteArray) : Lib.strCells s = bytesOf s.data.toList := by
  unfold Lib.strCells bytesOf
  simp
theorem flat_B (l : List UInt8) : l.flatMap rByte.row = bytesOf l := by
  induction l with
  | nil => rfl
  | cons c l ih =>
    rw [List.flatMap_cons, ih]
    rfl
def MarkOk (fz : Nat × Nat) (n : Nat) : Prop := fz = (0, 0) ∨ n ≤ fz.1
/-- v is a slice of the call's own (made at block B or later) that holds the bytes l -/
def OwnB (e : TypeId) (w : World) (B : Nat) (v : Value) (l : List UInt8) : Prop :=
  (v = .slice none 0 0 ∧ l = []) ∨
  ∃ g cap cur fz, v = .slice (some ⟨g, 0, none⟩) l.length cap ∧ B ≤ g ∧ w.heap[g]? = some (.cells cur e fz) ∧ MarkOk fz cur.size ∧ l.length ≤ cap ∧ cap ≤ maxLen ∧ cur.size = cap ∧ cur.toList.take l.length = bytesOf l
theorem run_storeCells_atM (P : Program) (g o : Nat) (t : TypeId) (fz : Nat × Nat) : ∀ (vs : List Value) (i : Nat) (cur : Array Value) (w : World), w.heap[g]? = some (.cells cur t fz) → MarkOk fz cur.size → o + i + vs.length ≤ cur.size → (∀ v ∈ vs, v.oneCell' = true) →
    (storeCells ⟨g, o, none⟩ vs i).run P w = .ok () (w.setRow g (cur.toList.take (o + i) ++ vs ++ cur.toList.drop (o + i + vs.length)).toArray)
  | [], i, cur, w, hg, _, _, _ => by
    simp only [storeCells, List.append_nil, List.length_nil, Nat.add_zero, List.take_append_drop, Array.toArray_toList]
    rw [setRow_self w g cur t fz hg]
    rfl
  | v :: rest, i, cur, w, hg, hfz, hl, h1 => by
    have hi : o + i < cur.size := by simp at hl; omega
    have hadd : (⟨g, o, none⟩ : Addr).add i = ⟨g, o + i, none⟩ := by unfold Addr.add; split <;> simp_all
    have hcell : w.cell? ⟨g, o + i, none⟩ = some cur[o + i] := by simp [World.cell?, hg, hi]
    have hfro : w.frozen? ⟨g, o + i, none⟩ = false := by
      rcases hfz with rfl | hfz
      · simp [World.frozen?, hg]
      · obtain ⟨lo, hi'⟩ := fz
        simp only [World.frozen?, hg, Bool.and_eq_false_iff, decide_eq_false_iff_not]
        left
        simp only at hfz
        omega
    have hst : (store ((⟨g, o, none⟩ : Addr).add i) v).run P w = .ok () (w.setRow g (cur.setIfInBounds (o + i) v)) := by
      rw [hadd, run_store P w _ v _ (h1 v (by simp)), hcell]
      simp [hfro, setCell_eq_setRow w g (o + i) cur t fz v hg]
    have ih := run_storeCells_atM P g o t fz rest (i + 1) (cur.setIfInBounds (o + i) v) (w.setRow g (cur.setIfInBounds (o + i) v)) (setRow_heap w g cur _ t _ hg) (by simpa using hfz) (by simp at hl ⊢; omega) (fun x hx => h1 x (by simp [hx]))
    simp only [storeCells, Sem.run_bind, hst, Result.andThen_ok, ih, setRow_setRow]
    congr 3
    have e := list_seg_step cur.toList (o + i) v rest (by simp at hl ⊢; omega)
    simpa [Array.toList_setIfInBounds, Nat.add_assoc] using e
section
variable {e : TypeId} {w : World} {B : Nat} {v : Value} {l : List UInt8}
theorem OwnB.ofL (h : OwnL rByte e w B v l) : OwnB e w B v l := by
  have hf := flat_B l
  rcases h.2 with ⟨hv, hn⟩ | ⟨g, cap, cur, hv, hb, hg, hnc, hcm, hcs, ht⟩
  · exact .inl ⟨hv, List.eq_nil_of_length_eq_zero hn⟩
  · refine .inr ⟨g, cap, cur, (0, 0), hv, hb, hg, .inl rfl, hnc, hcm, by simpa [rByte] using hcs, ?_⟩
    rw [hf] at ht
    simpa [rByte] using ht
theorem OwnB.empty (e : TypeId) (w : World) : OwnB e (w.alloc (.cells #[] e)) w.heap.size (.slice (some ⟨w.heap.size, 0, none⟩) 0 0) [] := OwnB.ofL (OwnL.empty rByte e w)
theorem OwnB.nil (e : TypeId) (w : World) (B : Nat) : OwnB e w B (.slice none 0 0) [] := .inl ⟨rfl, rfl⟩
theorem OwnB.lt (h : OwnB e w B v l) : ∀ k, v.ownBlock = some k → B ≤ k ∧ k < w.heap.size := by
  intro k hk
  rcases h with ⟨rfl, _⟩ | ⟨g, cap, cur, fz, rfl, hb, hg, _⟩
  · simp [Value.ownBlock] at hk
  · simp [Value.ownBlock] at hk
    subst hk
    exact ⟨hb, (Array.getElem?_eq_some_iff.1 hg).1⟩
theorem OwnB.base {B' : Nat} (h : OwnB e w B v l) (hb : B' ≤ B) : OwnB e w B' v l := by
  rcases h with hn | ⟨g, cap, cur, fz, hv, h1, rest⟩
  · exact .inl hn
  · exact .inr ⟨g, cap, cur, fz, hv, Nat.le_trans hb h1, rest⟩
theorem OwnB.kept {w' : World} {row : Option Nat} (h : OwnB e w B v l) (hg : w.grownBy w' row) (hne : v.ownBlock = none ∨ v.ownBlock ≠ row) : OwnB e w' B v l := by
  rcases h with hn | ⟨g, cap, cur, fz, rfl, h1, h2, rest⟩
  · exact .inl hn
  · refine .inr ⟨g, cap, cur, fz, rfl, h1, ?_, rest⟩
    rw [hg.block g (Array.getElem?_eq_some_iff.1 h2).1 (by simpa [Value.ownBlock] using hne)]
    exact h2
theorem OwnB.ext (h : OwnB e w B v l) (X : Ext) : OwnB e (w.ext X) B v l := by
  rcases h with hn | ⟨g, cap, cur, fz, rfl, h1, h2, rest⟩
  · exact .inl hn
  · exact .inr ⟨g, cap, cur, fz, rfl, h1, (w.ext_get X (Array.getElem?_eq_some_iff.1 h2).1).trans h2, rest⟩
theorem OwnB.same {bs : Array Obj} {d0 dr : Nat} (h : OwnB e (w.ext ⟨bs, d0⟩) B v l) : OwnB e (w.ext ⟨bs, dr⟩) B v l := by
  have := h.ext ⟨#[], dr⟩
  rwa [World.ext_ext, Array.append_empty] at this
theorem OwnB.merge {bs cs : Array Obj} {d0 dr : Nat} (h : OwnB e (w.ext ⟨bs, d0⟩) B v l) : OwnB e (w.ext ⟨bs ++ cs, dr⟩) B v l := by
  have := h.ext ⟨cs, dr⟩
  rwa [World.ext_ext] at this
theorem OwnB.alloc (h : OwnB e w B v l) (o : Obj) : OwnB e (w.alloc o) B v l :=
  h.kept (World.grownBy_alloc w o none) (by cases hv : v.ownBlock <;> simp)
theorem OwnB.drew (h : OwnB e w B v l) : OwnB e w.drew B v l := h
theorem OwnB.below {w' : World} (h : OwnB e w B v l) (hb : Below w.heap.size w w') : OwnB e w' B v l := by
  obtain ⟨X, rfl⟩ := hb.ext
  exact h.ext X
theorem OwnB.form (h : OwnB e w B v l) : ∃ ao cap, v = .slice ao l.length cap := by
  rcases h with ⟨rfl, rfl⟩ | ⟨g, cap, cur, fz, rfl, _⟩
  · exact ⟨none, 0, rfl⟩
  · exact ⟨_, _, rfl⟩
theorem OwnB.sl (h : OwnB e w B v l) : Sl w v l.length (bytesOf l) := by
  rcases h with ⟨rfl, rfl⟩ | ⟨g, cap, cur, fz, rfl, hb, hg, _, hnc, hcm, hcs, ht⟩
  · exact .inl ⟨rfl, rfl, rfl⟩
  · refine .inr ⟨g, 0, cap, rfl, hnc, hcm, fun j u hj => ?_⟩
    have hl : j < l.length := by
      have := (List.getElem?_eq_some_iff.1 hj).1
      rwa [bytesOf_length] at this
    rw [← ht, List.getElem?_take, if_pos hl] at hj
    simp only [World.cell?, hg, Nat.zero_add]
    simpa using hj
theorem OwnB.rd (h : OwnB e w B v l) : RdL rByte w v l := by
  unfold RdL
  have hf := flat_B l
  rw [hf]
  exact h.sl
/-- a conversion from a string -/
theorem OwnB.ofString (e : TypeId) (w : World) (s : ByteArray) (hs : s.size ≤ 9223372036854775807) : OwnB e (w.alloc (.cells (bytesRow s (grownCap w s.size 0 e)) e ((bytesRow s (grownCap w s.size 0 e)).size, (bytesRow s (grownCap w s.size 0 e)).size + 1))) w.heap.size (.slice (some ⟨w.heap.size, 0, none⟩) s.size (grownCap w s.size 0 e)) s.data.toList := by
  have hge := grownCap_ge w s.size 0 e
  have hle := grownCap_le_maxLen w s.size 0 e (by unfold maxLen; exact hs)
  have hsz : s.data.toList.length = s.size := by simp
  generalize grownCap w s.size 0 e = cap at *
  refine .inr ⟨w.heap.size, cap, _, _, by rw [hsz], Nat.le_refl _, heap_alloc_new w _, .inr (Nat.le_refl _), by omega, hle, ?_, ?_⟩
  · have h2 : s.data.size = s.size := rfl
    simp only [bytesRow, Array.size_append, Array.size_map, Array.size_replicate, h2]
    omega
  · unfold bytesRow bytesOf
    rw [Array.toList_append, List.take_append_of_le_length (by simp)]
    rw [List.take_of_length_le (by simp)]
    simp
end
section
variable {P : Program} (w : World)
/-- an append, from another slice -/
theorem run_appB (t ty e : TypeId) (i : TypeInfo) (ht : P.underlying t = some (.slice e)) (hi : P.info? e = some i) (hz : i.zero = some (.int .u8 0)) (hsize : i.size = 1) (hby : i.bytes = 1)
    {B : Nat} {v : Value} {l : List UInt8} (hown : OwnB e w B v l) {x : Value} {m : List UInt8} (hx : Sl w x m.length (bytesOf m))
    (h63 : l.length + m.length ≤ maxLen) (hbytes : l.length + m.length ≤ 140737488355328) (hbase : B ≤ w.heap.size) :
    ∃ v' w', (Builtin.append_ #[t, t] ty #[v, x]).run P w = .ok v' w' ∧ OwnB e w' B v' (l ++ m) ∧ w.grownBy w' v.ownBlock := by
  have hsmall : l.length + m.length ≤ 9223372036854775807 := by simp only [maxLen] at h63; omega
  have grown : ∀ (old : Nat), old < l.length + m.length → ∀ (row : Option Nat),
      OwnB e (w.drew.alloc (.cells ((bytesOf l).toArray ++ (bytesOf m).toArray ++ Builtin.zeroCells (Value.int IntKind.u8 0).cells (grownCap w (l.length + m.length) old e - (l.length + m.length))) e)) B
        (.slice (some ⟨w.heap.size, 0, none⟩) (l.length + m.length) (grownCap w (l.length + m.length) old e)) (l ++ m) ∧
      w.grownBy (w.drew.alloc (.cells ((bytesOf l).toArray ++ (bytesOf m).toArray ++ Builtin.zeroCells (Value.int IntKind.u8 0).cells (grownCap w (l.length + m.length) old e - (l.length + m.length))) e)) row := by
    intro old ho row
    have hge := grownCap_ge w (l.length + m.length) old e
    have hcm : grownCap w (l.length + m.length) old e ≤ maxLen := grownCap_le_maxLen w (l.length + m.length) old e h63
    refine ⟨.inr ⟨w.heap.size, _, _, (0, 0), by rw [List.length_append], hbase, heap_alloc_new w.drew _, .inl rfl, by rw [List.length_append]; exact hge, hcm, ?_, ?_⟩, ⟨rfl, rfl, rfl, by simp, fun k hk _ => (World.grownBy_alloc w.drew _ none).block k hk (by simp)⟩⟩
    · have hz1 : (Value.int IntKind.u8 0).cells.size = 1 := rfl
      simp only [Array.size_append, List.size_toArray, size_zeroCells, hz1, bytesOf_length]
      omega
    · simp only [Array.toList_append]
      rw [bytesOf_append, List.take_append_of_le_length (by simp [bytesOf_length]), List.take_of_length_le (by simp [bytesOf_length])]
  have hempty : ∀ (ao : Option Addr) (n c : Nat), (Builtin.firstCells 1 0 (.slice ao n c)).run P w = .ok #[] w := by
    intro ao n c
    cases ao with
    | none => simp [Builtin.firstCells]
    | some a =>
      have := run_firstCells_some (P := P) w 1 0 a n c [] rfl (fun j u hj => by simp at hj)
      simpa using this
  rcases hx with ⟨rfl, hm0, _⟩ | ⟨bx, ox, cx, rfl, hmc, hcx, hcells⟩
  · -- nothing to append
    have hm : m = [] := List.eq_nil_of_length_eq_zero hm0
    subst hm
    rcases hown with ⟨rfl, rfl⟩ | ⟨g, cap, cur, fz, rfl, hbg, hg, hfz, hnc, hcm, hcs, htake⟩
    · refine ⟨.slice none 0 0, w, ?_, by simpa using OwnB.nil e w B, ⟨rfl, rfl, rfl, Nat.le_refl _, fun _ _ _ => rfl⟩⟩
      simp [Builtin.append_, run_underlying ht, sizeOf, typeInfo, hi, Builtin.lenOf, Builtin.firstCells, loadCells, loadCellsFrom]
    · refine ⟨_, w, ?_, by rw [List.append_nil]; exact .inr ⟨g, cap, cur, fz, rfl, hbg, hg, hfz, hnc, hcm, hcs, htake⟩, ⟨rfl, rfl, rfl, Nat.le_refl _, fun _ _ _ => rfl⟩⟩
      simp [Builtin.append_, run_underlying ht, sizeOf, typeInfo, hi, Builtin.lenOf, hnc, Builtin.firstCells, storeCells]
  · have hnews : ∀ j u, (bytesOf m)[j]? = some u → w.cell? ((⟨bx, ox, none⟩ : Addr).add j) = some u := fun j u hj => by rw [addr_add]; exact hcells j u hj
    rcases hown with ⟨rfl, rfl⟩ | ⟨g, cap, cur, fz, rfl, hbg, hg, hfz, hnc, hcm, hcs, htake⟩
    · by_cases hm : m.length = 0
      · have hme : m = [] := List.eq_nil_of_length_eq_zero hm
        subst hme
        refine ⟨.slice none 0 0, w, ?_, by simpa using OwnB.nil e w B, ⟨rfl, rfl, rfl, Nat.le_refl _, fun _ _ _ => rfl⟩⟩
        simp [Builtin.append_, run_underlying ht, sizeOf, typeInfo, hi, hsize, Builtin.lenOf, hempty, loadCells, loadCellsFrom]
      · have hr := run_append_nil (P := P) w t ty e i _ ht hi hz ⟨bx, ox, none⟩ m.length cx (bytesOf m) (by rw [bytesOf_length, hsize, Nat.mul_one]) hnews (by omega) (by simp at hsmall; omega) (by rw [hby]; simp at hbytes; omega)
        have hgr := grown 0 (by simp; omega) (Value.ownBlock (.slice none 0 0))
        simp only [List.length_nil, Nat.zero_add, List.nil_append] at hgr ⊢
        refine ⟨_, _, hr, ?_, ?_⟩
        · simpa [bytesOf] using hgr.1
        · simpa [bytesOf] using hgr.2
    · by_cases hroom : l.length + m.length ≤ cap
      · have hf := run_firstCells_some (P := P) w i.size m.length ⟨bx, ox, none⟩ m.length cx (bytesOf m) (by rw [bytesOf_length, hsize, Nat.mul_one]) hnews
        have hst := run_storeCells_atM P g l.length e fz (bytesOf m) 0 cur w hg hfz (by rw [bytesOf_length]; omega) (bytesOf_one m)
        simp only [Nat.add_zero, bytesOf_length] at hst
        refine ⟨.slice (some ⟨g, 0, none⟩) (l.length + m.length) cap, w.setRow g (cur.toList.take l.length ++ bytesOf m ++ cur.toList.drop (l.length + m.length)).toArray, ?_, .inr ⟨g, cap, _, fz, by rw [List.length_append], hbg, setRow_heap w g cur _ e _ hg, ?_, by rw [List.length_append]; exact hroom, hcm, ?_, ?_⟩, ⟨rfl, rfl, rfl, by simp, fun k _ hk => setRow_other w g k _ (fun e => hk (by simp [Value.ownBlock, e]))⟩⟩
        · rw [hsize] at hf
          simp [Builtin.append_, run_underlying ht, sizeOf, typeInfo, hi, hsize, Builtin.lenOf, hroom, hf, Addr.add_lit, hst]
        · have hsz : (cur.toList.take l.length ++ bytesOf m ++ cur.toList.drop (l.length + m.length)).toArray.size = cur.size := by
            simp only [List.size_toArray, List.length_append, List.length_take, List.length_drop, Array.length_toList, bytesOf_length]
            omega
          rw [hsz]
          exact hfz
        · simp only [List.size_toArray, List.length_append, List.length_take, List.length_drop, Array.length_toList, bytesOf_length]
          omega
        · rw [htake, bytesOf_append, List.take_append_of_le_length (by simp [bytesOf_length]), List.take_of_length_le (by simp [bytesOf_length])]
      · have holds : ∀ j u, (bytesOf l)[j]? = some u → w.cell? ((⟨g, 0, none⟩ : Addr).add j) = some u := by
          intro j u hj
          rw [addr_add]
          have hl : j < l.length := by
            have := (List.getElem?_eq_some_iff.1 hj).1
            rwa [bytesOf_length] at this
          rw [← htake, List.getElem?_take, if_pos hl] at hj
          simp only [World.cell?, hg, Nat.zero_add]
          simpa using hj
        have hr := run_append_grow (P := P) w t ty e i _ ht hi hz ⟨g, 0, none⟩ l.length cap (bytesOf l) (by rw [bytesOf_length, hsize, Nat.mul_one]) holds ⟨bx, ox, none⟩ m.length cx (bytesOf m) (by rw [bytesOf_length, hsize, Nat.mul_one]) hnews (by omega) (by omega) (by rw [hby]; exact growslice_fits (by omega) (by omega))
        have hgr := grown cap (by omega) (Value.ownBlock (.slice (some ⟨g, 0, none⟩) l.length cap))
        exact ⟨_, _, hr, hgr.1, hgr.2⟩
/-- an append, from a string -/
theorem run_appBs (t u ty e : TypeId) (i : TypeInfo) (ht : P.underlying t = some (.slice e)) (hu : P.underlying u = some .string) (hi : P.info? e = some i) (hz : i.zero = some (.int .u8 0)) (hsize : i.size = 1) (hby : i.bytes = 1)
    {B : Nat} {v : Value} {l : List UInt8} (hown : OwnB e w B v l) (s : ByteArray)
    (h63 : l.length + s.size ≤ maxLen) (hbytes : l.length + s.size ≤ 140737488355328) (hbase : B ≤ w.heap.size) :
    ∃ v' w', (Builtin.append_ #[t, u] ty #[v, .string s]).run P w = .ok v' w' ∧ OwnB e w' B v' (l ++ s.data.toList) ∧ w.grownBy w' v.ownBlock := by
  have hsz : s.data.toList.length = s.size := by simp
  rcases hown with ⟨rfl, rfl⟩ | ⟨g, cap, cur, fz, rfl, hbg, hg, hfz, hnc, hcm, hcs, htake⟩
  · obtain ⟨v', w', h1, h2, h3, h4⟩ := Lib.run_append_own_string (P := P) w B t u ty e i ht hu hi hz hsize hby (.slice none 0 0) 0 [] ⟨rfl, .inl ⟨rfl, rfl⟩⟩ s (by simpa using h63) (by simpa using hbytes) hbase
    refine ⟨v', w', h1, OwnB.ofL ?_, h3⟩
    unfold OwnL
    have hf := flat_B s.data.toList
    simp only [List.nil_append, Nat.zero_add] at h2 ⊢
    rw [hf, ← strCells_bytes, hsz]
    exact h2
  · have hsmall : l.length + s.size ≤ 9223372036854775807 := by simp only [maxLen] at h63; omega
    by_cases hroom : l.length + s.size ≤ cap
    · have hf := Lib.run_firstCells_string (P := P) w 1 s
      have hst := run_storeCells_atM P g l.length e fz (Lib.strCells s) 0 cur w hg hfz (by rw [Lib.strCells_length]; omega) (Lib.strCells_oneCell s)
      simp only [Nat.add_zero, Lib.strCells_length] at hst
      refine ⟨.slice (some ⟨g, 0, none⟩) (l.length + s.size) cap, w.setRow g (cur.toList.take l.length ++ Lib.strCells s ++ cur.toList.drop (l.length + s.size)).toArray, ?_, .inr ⟨g, cap, _, fz, by rw [List.length_append, hsz], hbg, setRow_heap w g cur _ e _ hg, ?_, by rw [List.length_append, hsz]; exact hroom, hcm, ?_, ?_⟩, ⟨rfl, rfl, rfl, by simp, fun k _ hk => setRow_other w g k _ (fun e => hk (by simp [Value.ownBlock, e]))⟩⟩
      · simp [Builtin.append_, run_underlying ht, run_underlying hu, sizeOf, typeInfo, hi, hsize, Builtin.lenOf, hroom, hf, Addr.add_lit, hst]
      · have hsz2 : (cur.toList.take l.length ++ Lib.strCells s ++ cur.toList.drop (l.length + s.size)).toArray.size = cur.size := by
          simp only [List.size_toArray, List.length_append, List.length_take, List.length_drop, Array.length_toList, Lib.strCells_length]
          omega
        rw [hsz2]
        exact hfz
      · simp only [List.size_toArray, List.length_append, List.length_take, List.length_drop, Array.length_toList, Lib.strCells_length]
        omega
      · rw [htake, strCells_bytes, bytesOf_append, List.take_append_of_le_length (by simp [bytesOf_length]), List.take_of_length_le (by simp [bytesOf_length])]
    · have holds : ∀ j u, (bytesOf l)[j]? = some u → w.cell? ((⟨g, 0, none⟩ : Addr).add j) = some u := by
        intro j u hj
        rw [addr_add]
        have hl : j < l.length := by
          have := (List.getElem?_eq_some_iff.1 hj).1
          rwa [bytesOf_length] at this
        rw [← htake, List.getElem?_take, if_pos hl] at hj
        simp only [World.cell?, hg, Nat.zero_add]
        simpa using hj
      have hr := Lib.run_append_grow_string (P := P) w t u ty e i (.int .u8 0) ht hu hi hz ⟨g, 0, none⟩ l.length cap (bytesOf l) (by rw [bytesOf_length, hsize, Nat.mul_one]) holds s (by omega) (by omega) (by rw [hby]; exact growslice_fits (by omega) (by omega))
      have hge := grownCap_ge w (l.length + s.size) cap e
      have hcm2 : grownCap w (l.length + s.size) cap e ≤ maxLen := grownCap_le_maxLen w (l.length + s.size) cap e h63
      refine ⟨_, _, hr, .inr ⟨w.heap.size, _, _, (0, 0), by rw [List.length_append, hsz], hbase, heap_alloc_new w.drew _, .inl rfl, by rw [List.length_append, hsz]; exact hge, hcm2, ?_, ?_⟩, ⟨rfl, rfl, rfl, by simp, fun k hk _ => (World.grownBy_alloc w.drew _ none).block k hk (by simp)⟩⟩
      · have hz1 : (Value.int IntKind.u8 0).cells.size = 1 := rfl
        simp only [Array.size_append, List.size_toArray, size_zeroCells, hz1, bytesOf_length, Lib.strCells_length]
        omega
      · simp only [Array.toList_append]
        rw [strCells_bytes, bytesOf_append, List.take_append_of_le_length (by simp [bytesOf_length]), List.take_of_length_le (by simp [bytesOf_length])]
/-- Go's []byte: a slice of uint8 -/
structure ByteT (P : Program) (t e : TypeId) : Prop where
  sl : P.underlying t = some (.slice e)
  el : P.underlying e = some (.int .u8)
  inf : ∃ i : TypeInfo, P.info? e = some i ∧ i.zero = some (.int .u8 0) ∧ i.size = 1 ∧ i.bytes = 1
theorem ByteT.of {t e : TypeId} (h1 : P.underlying t = some (.slice e)) (h2 : P.underlying e = some (.int .u8)) (h : (P.info? e).map (fun i => (i.zero, i.size, i.bytes)) = some (some (.int .u8 0), 1, 1)) : ByteT P t e := by
  refine ⟨h1, h2, ?_⟩
  cases hi : P.info? e with
  | none => rw [hi] at h; simp at h
  | some i =>
    rw [hi] at h
    simp at h
    exact ⟨i, rfl, h.1, h.2.1, h.2.2⟩
theorem wp_appB {t e : TypeId} (E : ByteT P t e) {o : Oper} {a : Act} {K : Act → World → Prop} {Q : Exit → Act → World → Prop} (s x : Operand)
    (ho : o.op = .call { callee := .builtin .append, args := #[s, x], argTypes := #[t, t] })
    {B : Nat} {v : Value} {l : List UInt8} (hown : OwnB e w B v l) (hs : a.eval s = v)
    {vx : Value} {m : List UInt8} (hx : Sl w vx m.length (bytesOf m)) (hvx : a.eval x = vx) (hb : l.length + m.length ≤ 140737488355328) (hbase : B ≤ w.heap.size)
    (h : ∀ v' w', OwnB e w' B v' (l ++ m) → w.grownBy w' v.ownBlock → K (a.put o.dst v') w') : o.wp P a w K Q := by
  obtain ⟨i, h1, h2, h3, h4⟩ := E.inf
  obtain ⟨v', w', hr, h5, h6⟩ := run_appB (P := P) w t o.type e i E.sl h1 h2 h3 h4 hown hx (by unfold maxLen; omega) hb hbase
  unfold Oper.wp execOp
  simp only [ho, resolve, invoke, builtin, Sem.run_bind, Sem.run_pure, Result.andThen_ok, List.map_toArray, List.map_cons, List.map_nil, hs, hvx, hr]
  exact h v' w' h5 h6
theorem wpList_appB {t e : TypeId} (E : ByteT P t e) {ops : Array Oper} {rest : List Oper} {o : Oper} {a : Act} {Q : Exit → Act → World → Prop} (hgd : o.guard = none) (s x : Operand)
    (ho : o.op = .call { callee := .builtin .append, args := #[s, x], argTypes := #[t, t] })
    {B : Nat} {v : Value} {l : List UInt8} (hown : OwnB e w B v l) (hs : a.eval s = v)
    {vx : Value} {m : List UInt8} (hx : Sl w vx m.length (bytesOf m)) (hvx : a.eval x = vx) (hb : l.length + m.length ≤ 140737488355328) (hbase : B ≤ w.heap.size)
    (h : ∀ v' w', OwnB e w' B v' (l ++ m) → w.grownBy w' v.ownBlock → wpList P ops Q rest (a.put o.dst v') w') : wpList P ops Q (o :: rest) a w :=
  wpList_plain hgd fun _ hK => wp_appB w E s x ho hown hs hx hvx hb hbase (fun v' w' a1 a2 => hK _ _ (h v' w' a1 a2))
theorem wp_appBs {t u e : TypeId} (E : ByteT P t e) (hu : P.underlying u = some .string) {o : Oper} {a : Act} {K : Act → World → Prop} {Q : Exit → Act → World → Prop} (s x : Operand)
    (ho : o.op = .call { callee := .builtin .append, args := #[s, x], argTypes := #[t, u] })
    {B : Nat} {v : Value} {l : List UInt8} (hown : OwnB e w B v l) (hs : a.eval s = v)
    {m : ByteArray} (hvx : a.eval x = .string m) (hb : l.length + m.size ≤ 140737488355328) (hbase : B ≤ w.heap.size)
    (h : ∀ v' w', OwnB e w' B v' (l ++ m.data.toList) → w.grownBy w' v.ownBlock → K (a.put o.dst v') w') : o.wp P a w K Q := by
  obtain ⟨i, h1, h2, h3, h4⟩ := E.inf
  obtain ⟨v', w', hr, h5, h6⟩ := run_appBs (P := P) w t u o.type e i E.sl hu h1 h2 h3 h4 hown m (by unfold maxLen; omega) hb hbase
  unfold Oper.wp execOp
  simp only [ho, resolve, invoke, builtin, Sem.run_bind, Sem.run_pure, Result.andThen_ok, List.map_toArray, List.map_cons, List.map_nil, hs, hvx, hr]
  exact h v' w' h5 h6
theorem wpList_appBs {t u e : TypeId} (E : ByteT P t e) (hu : P.underlying u = some .string) {ops : Array Oper} {rest : List Oper} {o : Oper} {a : Act} {Q : Exit → Act → World → Prop} (hgd : o.guard = none) (s x : Operand)
    (ho : o.op = .call { callee := .builtin .append, args := #[s, x], argTypes := #[t, u] })
    {B : Nat} {v : Value} {l : List UInt8} (hown : OwnB e w B v l) (hs : a.eval s = v)
    {m : ByteArray} (hvx : a.eval x = .string m) (hb : l.length + m.size ≤ 140737488355328) (hbase : B ≤ w.heap.size)
    (h : ∀ v' w', OwnB e w' B v' (l ++ m.data.toList) → w.grownBy w' v.ownBlock → wpList P ops Q rest (a.put o.dst v') w') : wpList P ops Q (o :: rest) a w :=
  wpList_plain hgd fun _ hK => wp_appBs w E hu s x ho hown hs hvx hb hbase (fun v' w' a1 a2 => hK _ _ (h v' w' a1 a2))
/-- a string out of bytes -/
theorem run_string_of {t u e : TypeId} (E : ByteT P t e) (hu : P.underlying u = some .string) {v : Value} {l : List UInt8} (h : Sl w v l.length (bytesOf l)) :
    (convert t u v).run P w = .ok (.string ⟨l.toArray⟩) w := by
  rcases h with ⟨rfl, hn, _⟩ | ⟨b, off, cap, rfl, _, _, hc⟩
  · have : l = [] := List.eq_nil_of_length_eq_zero hn
    subst this
    exact run_convert_bytes_nil w t e E.sl E.el 0 0 u hu
  · refine run_convert_bytes_back w t u e ⟨b, off, none⟩ cap l E.sl E.el hu (fun j hj => ?_)
    rw [addr_add]
    refine hc j _ ?_
    unfold bytesOf
    rw [List.getElem?_map, List.getElem?_eq_getElem hj]
    rfl
end
theorem RowKit.Below.appB {a w w' : World} {v : Value} {e : TypeId} {l : List UInt8} (h : Below a.heap.size a w) (hg : w.grownBy w' v.ownBlock) (ho : OwnB e w a.heap.size v l) : Below a.heap.size a w' := by
  refine ⟨hg.os.trans h.os, hg.tape.trans h.tape, hg.output.trans h.output, Nat.le_trans h.size hg.size, fun k hk => ?_⟩
  rw [hg.block k (Nat.lt_of_lt_of_le hk h.size) (fun e => by have := ho.lt k e.symm; omega)]
  exact h.block k hk
end Go
namespace Go.Proofs.YtedgenmbdjadkaaGreatDoor
open Go.ChangeShapes Go.WideShapes Go.ChangeAt Go.RowKit

theorem Tryz.byteT : ByteT Tryz.prog 28 5 := ByteT.of Tryz.underlying28 Tryz.underlying5 (by kernel_rfl)
def strOf (l : List UInt8) : ByteArray := ⟨l.toArray⟩
theorem strOf_size (l : List UInt8) : (strOf l).size = l.length := by unfold strOf; show l.toArray.size = _; simp
theorem strOf_list (l : List UInt8) : (strOf l).data.toList = l := by simp [strOf]
def hexT (s : ByteArray) : ByteArray := if s.size ≤ 20000 then strOf (Lib.Hx.encode s.data.toList) else ⟨#[]⟩
theorem hexT_size (s : ByteArray) : (hexT s).size ≤ 40000 := by
  unfold hexT
  split
  · rw [strOf_size, Lib.Hx.encode_length]
    have : s.data.toList.length = s.size := by simp
    omega
  · decide
theorem digit_lo {x : Nat} (h : x < 10) : Lib.Hx.digit x = UInt8.ofNat (48 + x) := by
  match x, h with
  | 0, _ | 1, _ | 2, _ | 3, _ | 4, _ | 5, _ | 6, _ | 7, _ | 8, _ | 9, _ => rfl
theorem digit_hi {x : Nat} (h : 10 ≤ x) (h2 : x < 16) : Lib.Hx.digit x = UInt8.ofNat (87 + x) := by
  rcases (by omega : x = 10 ∨ x = 11 ∨ x = 12 ∨ x = 13 ∨ x = 14 ∨ x = 15) with rfl | rfl | rfl | rfl | rfl | rfl <;> rfl
theorem alloc_newA' (w : World) (cs : Array Value) (t : TypeId) {b : Nat} (hb : b = w.heap.size) : (w.alloc (.cells cs t)).heap[b]? = some (.cells cs t (0, 0)) := by
  subst hb
  exact heap_alloc_new w _
theorem spec_l01Figure (x : Int) (w : World) (h0 : 0 ≤ x) (h1 : x < 16) :
    Calls Tryz.prog 82 #[.int .i64 x] w fun e w' => e = .returned (.int .u8 ((Lib.Hx.digit x.toNat).toNat : Int)) ∧ w = w' := by
  go_enter Tryz.func82, Tryz.ntmps82
  go_wp2
  all_goals go_ret
  · refine ⟨ret_int ?_, rfl⟩
    rw [digit_lo (by omega)]
    simp
    omega
  · refine ⟨ret_int ?_, rfl⟩
    rw [digit_hi (by omega) (by omega)]
    simp
    omega
theorem enc_snoc (l : List UInt8) (c : UInt8) : Lib.Hx.encode (l ++ [c]) = Lib.Hx.encode l ++ [Lib.Hx.digit (c.toNat / 16), Lib.Hx.digit (c.toNat % 16)] := by
  simp [Lib.Hx.encode, List.flatMap_append]
set_option maxRecDepth 100000 in
set_option maxHeartbeats 2000000 in
theorem spec_Hex (s : ByteArray) (w : World) (hs : s.size ≤ 9223372036854775807) :
    Calls Tryz.prog 49 #[.string s] w fun e w' => e = .returned (.tuple #[.string (hexT s), .bool (decide (s.size ≤ 20000))]) ∧ Below w.heap.size w w' := by
  go_enter Tryz.func49, Tryz.ntmps49
  by_cases hb : (20000 : Int) < s.size
  · go_wp2
    refine bodyPost_ret (by simp [results, Tryz.results49, go_sem]; rfl) rfl ?_
    refine ⟨?_, (by repeat (first | with_reducible exact Below.refl _ _ | with_reducible apply Below.ofExt | with_reducible apply Below.ofAlloc | with_reducible apply Below.drew | with_reducible apply Below.ofDrewN | with_reducible assumption | (with_reducible refine Below.setCell ?_ (by first | exact Nat.le_refl _ | (simp [go_sem]; done) | (simp [go_sem]; omega)) _)))⟩
    unfold hexT
    rw [if_neg (by omega), decide_eq_false (by omega)]
  go_wp2
  go_loopw [4, 5] (fun o k wr => ∃ (n : Nat), k = .int .i64 n ∧ n ≤ s.size ∧ Below w.heap.size w wr ∧ OwnB 5 wr w.heap.size o (Lib.Hx.encode (s.data.toList.take n))) (fun _ k _ => s.size - (intOf k).toNat)
  case atStart => exact ⟨0, rfl, by omega, (by repeat (first | with_reducible exact Below.refl _ _ | with_reducible apply Below.ofExt | with_reducible apply Below.ofAlloc | with_reducible apply Below.drew | with_reducible apply Below.ofDrewN | with_reducible assumption | (with_reducible refine Below.setCell ?_ (by first | exact Nat.le_refl _ | (simp [go_sem]; done) | (simp [go_sem]; omega)) _))), OwnB.empty _ _⟩
  case round =>
    obtain ⟨n, rfl, hn, hbel, ho⟩ := hrel
    obtain ⟨X, rfl⟩ := hbel.ext
    by_cases hlt : (n : Int) < s.size
    case pos =>
      have hk : n < s.size := by omega
      have hc1 : (s[n].toNat : Int) ≤ 255 := by have := s[n].toNat_lt; omega
      have hc0 : 0 ≤ (s[n].toNat : Int) := by omega
      have hst := enc_snoc (s.data.toList.take n) s[n]
      rw [← take_snoc s n hk] at hst
      have htm : ((s[n].toNat : Int)).tmod 16 = (s[n].toNat : Int) % 16 := Int.tmod_eq_emod_of_nonneg (by omega)
      have HTM := Lib.hid htm
      clear htm
      have HST := Lib.hid hst
      have hlen : (Lib.Hx.encode (s.data.toList.take n)).length ≤ 40000 := by rw [Lib.Hx.encode_length]; simp; omega
      have HLN := Lib.hid hlen
      clear hst hlen
      generalize Lib.Hx.encode (s.data.toList.take n) = l at *
      obtain ⟨oa, oc, rfl⟩ := ho.form
      have HO := Lib.hid ho
      clear ho
      go_wp2
      refine wp_region_ordT [(0,true),(1,true),(2,true),(3,true),(4,true),(5,true),(7,true),(8,true),(9,true),(10,true),(11,true),(6,false),(12,false),(13,false),(14,false),(15,false)] 14 (by kernel_rfl) (by kernel_rfl) ?_
      repeat (refine wpOrd_quiet rfl (fun K hK => ?_); go_simp; (try simp (disch := omega) only [IntWalk.i64_in]); refine hK _ ?_; clear hK K)
      rw [HTM.out]
      refine wpOrd_grow rfl (fun K hK => ?_); go_simp; go_at_call 82; refine (spec_l01Figure _ _ (by omega) (by omega)).mono ?_; rintro e w' ⟨rfl, rfl⟩; try go_simp; refine hK _ _ (by show Sx _ _; (try simp only [← Array.append_assoc]); repeat (first | with_reducible exact Sx.drew _ | with_reducible exact Sx.same _ _ _ _ | with_reducible exact ⟨_, rfl⟩ | with_reducible apply Sx.more | with_reducible apply Sx.ext | with_reducible apply Sx.alloc | with_reducible apply Sx.draw | with_reducible exact Sx.refl _)) ?_; clear hK K
      refine wpOrd_grow rfl (fun K hK => ?_); go_simp; go_at_call 82; refine (spec_l01Figure _ _ (by omega) (by omega)).mono ?_; rintro e w' ⟨rfl, rfl⟩; try go_simp; refine hK _ _ (by show Sx _ _; (try simp only [← Array.append_assoc]); repeat (first | with_reducible exact Sx.drew _ | with_reducible exact Sx.same _ _ _ _ | with_reducible exact ⟨_, rfl⟩ | with_reducible apply Sx.more | with_reducible apply Sx.ext | with_reducible apply Sx.alloc | with_reducible apply Sx.draw | with_reducible exact Sx.refl _)) ?_; clear hK K
      refine wpOrd_grow rfl (fun K hK => ?_); go_simp; refine hK _ _ (by show Sx _ _; (try simp only [← Array.append_assoc]); repeat (first | with_reducible exact Sx.drew _ | with_reducible exact Sx.same _ _ _ _ | with_reducible exact ⟨_, rfl⟩ | with_reducible apply Sx.more | with_reducible apply Sx.ext | with_reducible apply Sx.alloc | with_reducible apply Sx.draw | with_reducible exact Sx.refl _)) ?_; clear hK K
      refine wpOrd_tail rfl rfl (fun K hK => ?_)
      rw [if_pos (by rfl)]
      refine wp_appB _ Tryz.byteT (.tmp 16) (.tmp 29) rfl (B := w.heap.size) (l := l) (m := [Lib.Hx.digit (s[n].toNat / 16), Lib.Hx.digit (s[n].toNat % 16)]) ((OwnB.same HO.out).alloc _) rfl (vx := .slice (some ⟨w.heap.size + X.bs.size, 0, none⟩) 2 2) ?_ rfl (by have := HLN.out; simp; omega) (by simp [World.ext_size]; omega) ?_
      · refine Sl.of_block (t := 5) (f := (0, 0)) (alloc_newA' _ _ _ (by simp [World.ext_size])) (by decide)
      intro v4 w4 hown4 hgr4
      refine hK _ _ ?_
      clear hK K
      have hb4 : Below w.heap.size w w4 := Below.appB (by repeat (first | with_reducible exact Below.refl _ _ | with_reducible apply Below.ofExt | with_reducible apply Below.ofAlloc | with_reducible apply Below.drew | with_reducible apply Below.ofDrewN | with_reducible assumption | (with_reducible refine Below.setCell ?_ (by first | exact Nat.le_refl _ | (simp [go_sem]; done) | (simp [go_sem]; omega)) _))) hgr4 ((OwnB.same HO.out).alloc _)
      repeat (refine wpOrd_tail rfl rfl (fun K hK => ?_); go_simp; refine hK _ _ ?_; clear hK K)
      refine wpOrd_nil ?_
      go_wp2
      go_roundw
      case rel => exact ⟨n + 1, by go_num, by omega, hb4, by rw [HST.out]; exact hown4⟩
      case measure => simp [intOf]; omega
    case neg =>
      have e : n = s.size := by omega
      subst e
      rw [List.take_of_length_le (by simp)] at ho
      have hr := run_string_of (P := Tryz.prog) (w.ext X) Tryz.byteT Tryz.underlying9 ho.sl
      obtain ⟨oa, oc, rfl⟩ := ho.form
      clear ho
      go_wp2
      refine bodyPost_ret (by simp [results, Tryz.results49, go_sem]; rfl) rfl ?_
      refine ⟨?_, (by repeat (first | with_reducible exact Below.refl _ _ | with_reducible apply Below.ofExt | with_reducible apply Below.ofAlloc | with_reducible apply Below.drew | with_reducible apply Below.ofDrewN | with_reducible assumption | (with_reducible refine Below.setCell ?_ (by first | exact Nat.le_refl _ | (simp [go_sem]; done) | (simp [go_sem]; omega)) _)))⟩
      unfold hexT
      rw [if_pos (by omega), decide_eq_true (by omega)]
      rfl
theorem conv_1 (w : World) (c : UInt8) (x : Int) (hx : x = (c.toNat : Int)) (b : Nat) (hb : b = w.heap.size) :
    Sem.run Tryz.prog (convert 28 9 (.slice (some ⟨b, 0, none⟩) 1 1)) (w.alloc (.cells #[.int .u8 x] 5)) = .ok (.string ⟨#[c]⟩) (w.alloc (.cells #[.int .u8 x] 5)) := by
  subst hb hx
  refine run_convert_bytes_back (w := w.alloc (.cells #[.int .u8 (c.toNat : Int)] 5)) (P := Tryz.prog) 28 9 5 ⟨w.heap.size, 0, none⟩ 1 [c] Tryz.underlying28 Tryz.underlying5 Tryz.underlying9 ?_
  intro j hj
  have : j = 0 := by simpa using hj
  subst this
  show (w.alloc _).cell? ⟨w.heap.size, 0, none⟩ = _
  simp [go_sem]
def dec0 (m : Nat) : List UInt8 := if m = 0 then [] else Lib.decDigits m
theorem dec0_step {m : Nat} (h : m ≠ 0) : dec0 m = dec0 (m / 10) ++ [Lib.Hx.digit (m % 10)] := by
  unfold dec0
  rw [if_neg h, Lib.decDigits]
  split
  · rename_i h1
    rw [if_pos (by omega), Nat.mod_eq_of_lt h1, digit_lo h1]
    rfl
  · rw [if_neg (by omega), digit_lo (by omega)]
theorem dec0_len : ∀ (m : Nat), (dec0 m).length ≤ m / 2 + 1 := by
  intro m
  induction m using Nat.strongRecOn with
  | ind m ih =>
    by_cases h : m = 0
    · subst h; simp [dec0]
    · rw [dec0_step h, List.length_append]
      by_cases h2 : m < 10
      · rw [show m / 10 = 0 by omega]
        simp [dec0]
      · have := ih (m / 10) (by omega)
        simp
        omega
theorem decD_len (m : Nat) : (Lib.decDigits m).length ≤ m / 2 + 1 := by
  by_cases h : m = 0
  · subst h
    rw [Lib.decDigits, dif_pos (by decide)]
    simp
  · have := dec0_len m
    unfold dec0 at this
    rwa [if_neg h] at this
theorem strOf_cons (c : UInt8) (l : List UInt8) : (⟨#[c]⟩ : ByteArray) ++ strOf l = strOf (c :: l) := by
  apply ByteArray.ext
  simp [strOf, ByteArray.data_append]
theorem itoa_zero : Lib.itoa 0 = [48] := by
  unfold Lib.itoa
  rw [if_neg (by decide), Lib.decDigits, dif_pos (by decide)]
  rfl
set_option maxRecDepth 100000 in
set_option maxHeartbeats 2000000 in
theorem spec_Decimal (n : Int) (w : World) (h0 : -9223372036854775808 ≤ n) (h1 : n ≤ 9223372036854775807) :
    Calls Tryz.prog 47 #[.int .i64 n] w fun e w' => e = .returned (.string (strOf (Lib.itoa n))) ∧ Below w.heap.size w w' := by
  go_enter Tryz.func47, Tryz.ntmps47
  by_cases hz : n = 0
  · subst hz
    go_wp2
    go_ret
    refine ⟨?_, (by repeat (first | with_reducible exact Below.refl _ _ | with_reducible apply Below.ofExt | with_reducible apply Below.ofAlloc | with_reducible apply Below.drew | with_reducible apply Below.ofDrewN | with_reducible assumption | (with_reducible refine Below.setCell ?_ (by first | exact Nat.le_refl _ | (simp [go_sem]; done) | (simp [go_sem]; omega)) _)))⟩
    rw [itoa_zero]
    rfl
  have hzb : (n == 0) = false := by simpa using hz
  by_cases hn : n < 0
  · have hi : Lib.itoa n = 45 :: Lib.decDigits n.natAbs := by unfold Lib.itoa; rw [if_pos hn]
    obtain ⟨N, hN⟩ : ∃ N : Nat, n = -(N : Int) := ⟨n.natAbs, by omega⟩
    subst hN
    rw [show (-(N : Int)).natAbs = N by omega] at hi
    have HI := Lib.hid hi
    clear hi
    go_wp2
    go_loopw [0, 4] (fun k o wr => ∃ (m : Nat) (l : List UInt8), k = .int .i64 (-(m : Int)) ∧ m ≤ 9223372036854775808 ∧ o = .string (strOf l) ∧ dec0 m ++ l = Lib.decDigits N ∧ Below w.heap.size w wr) (fun k _ _ => (intOf k).natAbs)
    case atStart => exact ⟨N, [], rfl, by omega, rfl, by simp [dec0]; omega, (by repeat (first | with_reducible exact Below.refl _ _ | with_reducible apply Below.ofExt | with_reducible apply Below.ofAlloc | with_reducible apply Below.drew | with_reducible apply Below.ofDrewN | with_reducible assumption | (with_reducible refine Below.setCell ?_ (by first | exact Nat.le_refl _ | (simp [go_sem]; done) | (simp [go_sem]; omega)) _)))⟩
    case round =>
      obtain ⟨m, l, rfl, hm, rfl, hd, hbel⟩ := hrel
      obtain ⟨X, rfl⟩ := hbel.ext
      have hll : (strOf l).size ≤ 4611686018427387910 := by
        have := decD_len N
        rw [← hd, List.length_append] at this
        rw [strOf_size]
        omega
      have HD := Lib.hid hd
      clear hd
      by_cases hmz : m = 0
      · subst hmz
        rw [show (-((0 : Nat) : Int)) = 0 from rfl]
        go_wp2
        go_ret
        refine ⟨?_, (by repeat (first | with_reducible exact Below.refl _ _ | with_reducible apply Below.ofExt | with_reducible apply Below.ofAlloc | with_reducible apply Below.drew | with_reducible apply Below.ofDrewN | with_reducible assumption | (with_reducible refine Below.setCell ?_ (by first | exact Nat.le_refl _ | (simp [go_sem]; done) | (simp [go_sem]; omega)) _)))⟩
        have := HD.out
        simp only [dec0, if_true, List.nil_append] at this
        rw [HI.out, ← this, ← strOf_cons]
        rfl
      · have hst := dec0_step hmz
        have HST := Lib.hid hst
        clear hst
        have hrel2 : dec0 (m / 10) ++ (Lib.Hx.digit (m % 10) :: l) = Lib.decDigits N := by
          rw [← HD.out, HST.out, List.append_assoc]
          rfl
        have HR := Lib.hid hrel2
        clear hrel2
        by_cases hd0 : m % 10 = 0
        · have hdi : (m : Int) % 10 = 0 := by omega
          have hk := conv_1 (w.ext X) (Lib.Hx.digit (m % 10)) 48 (by rw [hd0]; rfl) (w.heap.size + X.bs.size) (by rw [World.ext_size])
          rw [hd0] at hk HR
          go_wp2
          go_roundw
          case rel => exact ⟨m / 10, _, by go_num, by omega, by rw [strOf_cons], HR.out, (by repeat (first | with_reducible exact Below.refl _ _ | with_reducible apply Below.ofExt | with_reducible apply Below.ofAlloc | with_reducible apply Below.drew | with_reducible apply Below.ofDrewN | with_reducible assumption | (with_reducible refine Below.setCell ?_ (by first | exact Nat.le_refl _ | (simp [go_sem]; done) | (simp [go_sem]; omega)) _)))⟩
          case measure => simp [intOf]; omega
        · have hk := conv_1 (w.ext X) (Lib.Hx.digit (m % 10)) (48 + (m : Int) % 10) (by rw [digit_lo (by omega)]; simp; omega) (w.heap.size + X.bs.size) (by rw [World.ext_size])
          have hpos : 0 < (m : Int) % 10 := by omega
          have HD0 := Lib.hid hd0
          clear hd0
          go_wp2
          go_roundw
          case rel => exact ⟨m / 10, _, by go_num, by omega, by rw [strOf_cons], HR.out, (by repeat (first | with_reducible exact Below.refl _ _ | with_reducible apply Below.ofExt | with_reducible apply Below.ofAlloc | with_reducible apply Below.drew | with_reducible apply Below.ofDrewN | with_reducible assumption | (with_reducible refine Below.setCell ?_ (by first | exact Nat.le_refl _ | (simp [go_sem]; done) | (simp [go_sem]; omega)) _)))⟩
          case measure => simp [intOf]; omega
  · have hi : Lib.itoa n = Lib.decDigits n.toNat := by unfold Lib.itoa; rw [if_neg hn]
    obtain ⟨N, hN⟩ : ∃ N : Nat, n = (N : Int) := ⟨n.toNat, by omega⟩
    subst hN
    rw [Int.toNat_natCast] at hi
    have HI := Lib.hid hi
    clear hi
    go_wp2
    go_loopw [0, 4] (fun k o wr => ∃ (m : Nat) (l : List UInt8), k = .int .i64 (m : Int) ∧ m ≤ 9223372036854775808 ∧ o = .string (strOf l) ∧ dec0 m ++ l = Lib.decDigits N ∧ Below w.heap.size w wr) (fun k _ _ => (intOf k).natAbs)
    case atStart => exact ⟨N, [], rfl, by omega, rfl, by simp [dec0]; omega, (by repeat (first | with_reducible exact Below.refl _ _ | with_reducible apply Below.ofExt | with_reducible apply Below.ofAlloc | with_reducible apply Below.drew | with_reducible apply Below.ofDrewN | with_reducible assumption | (with_reducible refine Below.setCell ?_ (by first | exact Nat.le_refl _ | (simp [go_sem]; done) | (simp [go_sem]; omega)) _)))⟩
    case round =>
      obtain ⟨m, l, rfl, hm, rfl, hd, hbel⟩ := hrel
      obtain ⟨X, rfl⟩ := hbel.ext
      have hll : (strOf l).size ≤ 4611686018427387910 := by
        have := decD_len N
        rw [← hd, List.length_append] at this
        rw [strOf_size]
        omega
      have HD := Lib.hid hd
      clear hd
      by_cases hmz : m = 0
      · subst hmz
        rw [show ((0 : Nat) : Int) = 0 from rfl]
        go_wp2
        go_ret
        refine ⟨?_, (by repeat (first | with_reducible exact Below.refl _ _ | with_reducible apply Below.ofExt | with_reducible apply Below.ofAlloc | with_reducible apply Below.drew | with_reducible apply Below.ofDrewN | with_reducible assumption | (with_reducible refine Below.setCell ?_ (by first | exact Nat.le_refl _ | (simp [go_sem]; done) | (simp [go_sem]; omega)) _)))⟩
        have := HD.out
        simp only [dec0, if_true, List.nil_append] at this
        rw [HI.out, ← this]
        rfl
      · have hst := dec0_step hmz
        have HST := Lib.hid hst
        clear hst
        have hrel2 : dec0 (m / 10) ++ (Lib.Hx.digit (m % 10) :: l) = Lib.decDigits N := by
          rw [← HD.out, HST.out, List.append_assoc]
          rfl
        have HR := Lib.hid hrel2
        clear hrel2
        have hk := conv_1 (w.ext X) (Lib.Hx.digit (m % 10)) (48 + (m : Int) % 10) (by rw [digit_lo (by omega)]; simp; omega) (w.heap.size + X.bs.size) (by rw [World.ext_size])
        go_wp2
        go_roundw
        case rel => exact ⟨m / 10, _, by go_num, by omega, by rw [strOf_cons], HR.out, (by repeat (first | with_reducible exact Below.refl _ _ | with_reducible apply Below.ofExt | with_reducible apply Below.ofAlloc | with_reducible apply Below.drew | with_reducible apply Below.ofDrewN | with_reducible assumption | (with_reducible refine Below.setCell ?_ (by first | exact Nat.le_refl _ | (simp [go_sem]; done) | (simp [go_sem]; omega)) _)))⟩
        case measure => simp [intOf]; omega
theorem conv_bytes (w : World) (s : ByteArray) (hs : s.size ≤ 9223372036854775807) :
    ∃ v w1, Sem.run Tryz.prog (convert 9 28 (.string s)) w = .ok v w1 ∧ OwnB 5 w1 w.heap.size v s.data.toList ∧ Below w.heap.size w w1 := by
  refine ⟨_, _, run_bytes_of_string w 9 28 5 s Tryz.underlying9 Tryz.underlying28 Tryz.underlying5, OwnB.ofString 5 w s hs, ?_⟩
  exact (Below.refl _ _).drew.alloc (Nat.le_refl _) _
theorem Sl.lit1 (w : World) (c : UInt8) (x : Int) (hx : x = (c.toNat : Int)) (t : TypeId) (b : Nat) (hb : b = w.heap.size) : Sl (w.alloc (.cells #[.int .u8 x] t)) (.slice (some ⟨b, 0, none⟩) 1 1) ([c] : List UInt8).length (bytesOf [c]) := by
  subst hx
  exact Sl.of_block (t := t) (f := (0, 0)) (alloc_newA' _ _ _ hb) (by decide)
end Go.Proofs.YtedgenmbdjadkaaGreatDoor
namespace Go.Proofs.YtedgenmbdjadkaaGreatDoor
open Go.ChangeShapes Go.WideShapes Go.ChangeAt Go.RowKit


def bsum (l : List UInt8) : Int := l.foldl (fun n c => (31 * n + (c.toNat : Int)) % 9973) 7

theorem bsum_bd (l : List UInt8) : 0 ≤ bsum l ∧ bsum l < 9973 := by
  have : ∀ (l : List UInt8) (n : Int), 0 ≤ n → n < 9973 → 0 ≤ l.foldl (fun n c => (31 * n + (c.toNat : Int)) % 9973) n ∧ l.foldl (fun n c => (31 * n + (c.toNat : Int)) % 9973) n < 9973 := by
    intro l
    induction l with
    | nil => intro n h1 h2; exact ⟨h1, h2⟩
    | cons c l ih => intro n h1 h2; exact ih _ (by dsimp only; omega) (by dsimp only; omega)
  exact this l 7 (by omega) (by omega)


theorem bsum_snoc (l : List UInt8) (c : UInt8) : bsum (l ++ [c]) = (31 * bsum l + (c.toNat : Int)) % 9973 := by
  simp [bsum, List.foldl_append]

set_option maxHeartbeats 400000 in
theorem spec_ByteSum (s : ByteArray) (w : World) (hs : s.size ≤ maxLen) :
    Calls Tryz.prog 50 #[.string s] w fun e w' => e = .returned (.int .i64 (bsum s.data.toList)) ∧ w' = w := by
  unfold maxLen at hs
  go_enter Tryz.func50, Tryz.ntmps50
  go_wp2
  go_loop [3, 4] (fun n i => ∃ k : Nat, k ≤ s.size ∧ i = .int .i64 k ∧ n = .int .i64 (bsum (s.data.toList.take k))) (fun _ i => s.size - (intOf i).toNat)
  case atStart => exact ⟨0, Nat.zero_le _, rfl, rfl⟩
  case round =>
    obtain ⟨k, hk, rfl, rfl⟩ := hrel
    have hd := bsum_bd (s.data.toList.take k)
    by_cases hlt : k < s.size
    · have hc : s[k].toNat < 256 := s[k].toNat_lt
      have HS : Hid (bsum (s.data.toList.take (k + 1)) = (31 * bsum (s.data.toList.take k) + (s[k].toNat : Int)) % 9973) := by rw [take_snoc s k hlt]; exact bsum_snoc _ _
      go_wp2
      all_goals
        go_round
        case rel => exact ⟨k + 1, by omega, by go_num, by rw [HS.out]⟩
        case measure => simp [intOf]; omega
    · go_wp2
      go_ret
      exact ⟨ret_int (by rw [List.take_of_length_le (by simp; omega)]), rfl⟩

set_option maxHeartbeats 400000 in
theorem impl_ByteSum (s : ByteArray) (w : World) (hs : s.size ≤ maxLen) :
    Calls Tryz.prog 57 #[.string s] w fun e w' => e = .returned (.int .i64 (bsum s.data.toList)) ∧ w' = w := by
  unfold maxLen at hs
  go_enter Tryz.func57, Tryz.ntmps57
  go_wp2
  go_loop [3, 7] (fun n i => ∃ k : Nat, k ≤ s.size ∧ i = .int .i64 k ∧ n = .int .i64 (bsum (s.data.toList.take k))) (fun _ i => s.size - (intOf i).toNat)
  case atStart => exact ⟨0, Nat.zero_le _, rfl, rfl⟩
  case round =>
    obtain ⟨k, hk, rfl, rfl⟩ := hrel
    have hd := bsum_bd (s.data.toList.take k)
    by_cases hlt : k < s.size
    · have hc : s[k].toNat < 256 := s[k].toNat_lt
      have HS : Hid (bsum (s.data.toList.take (k + 1)) = (31 * bsum (s.data.toList.take k) + (s[k].toNat : Int)) % 9973) := by rw [take_snoc s k hlt]; exact bsum_snoc _ _
      go_wp2
      all_goals
        go_round
        case rel => exact ⟨k + 1, by omega, by go_num, by rw [HS.out]⟩
        case measure => simp [intOf]; omega
    · go_wp2
      go_ret
      exact ⟨ret_int (by rw [List.take_of_length_le (by simp; omega)]), rfl⟩

end Go.Proofs.YtedgenmbdjadkaaGreatDoor
namespace Go.Proofs.YtedgenmbdjadkaaGreatDoor
open Go.ChangeShapes Go.WideShapes Go.ChangeAt Go.RowKit
theorem strOf_app (a b : List UInt8) : strOf a ++ strOf b = strOf (a ++ b) := by
  apply ByteArray.ext
  simp [strOf, ByteArray.data_append]
theorem strOf_lit (s : ByteArray) : s = strOf s.data.toList := by
  apply ByteArray.ext
  simp [strOf]
theorem itoa_len (n : Int) (h0 : -9223372036854775808 ≤ n) (h1 : n ≤ 9223372036854775807) : (Lib.itoa n).length ≤ 4611686018427387920 := by
  unfold Lib.itoa
  split
  · have := decD_len n.natAbs
    rw [List.length_cons]
    omega
  · have := decD_len n.toNat
    omega
theorem spec_in (x a b : Int) (w : World) : Calls Tryz.prog 36 #[.int .i64 x, .int .i64 a, .int .i64 b] w fun e w' => e = .returned (.bool (inB x a b)) ∧ w = w' := (spec_l01In x a b w).mono fun e w' h => ⟨h.1, h.2.symm⟩
theorem impl_in (x a b : Int) (w : World) : Calls Tryz.prog 38 #[.int .i64 x, .int .i64 a, .int .i64 b] w fun e w' => e = .returned (.bool (inB x a b)) ∧ w = w' := (impl_within x a b w).mono fun e w' h => ⟨h.1, h.2.symm⟩
theorem spec_bsum (l : List UInt8) (w : World) (hl : l.length ≤ 90000) : Calls Tryz.prog 50 #[.string (strOf l)] w fun e w' => e = .returned (.int .i64 (bsum l)) ∧ w = w' := by
  refine (spec_ByteSum (strOf l) w (by rw [strOf_size]; unfold maxLen; omega)).mono fun e w' h => ⟨?_, h.2.symm⟩
  rw [h.1, strOf_list]
theorem impl_bsum (l : List UInt8) (w : World) (hl : l.length ≤ 90000) : Calls Tryz.prog 57 #[.string (strOf l)] w fun e w' => e = .returned (.int .i64 (bsum l)) ∧ w = w' := by
  refine (impl_ByteSum (strOf l) w (by rw [strOf_size]; unfold maxLen; omega)).mono fun e w' h => ⟨?_, h.2.symm⟩
  rw [h.1, strOf_list]
def recAdd (acc : List UInt8) (c : CellD) : List UInt8 := acc ++ 32 :: ((hexT c.key).data.toList ++ 61 :: (hexT c.val).data.toList)
def recOne (acc : List UInt8) (c : CellD) : Bool := keyOk c.key && (decide ((c.val.size : Int) ≤ 60) && decide ((acc.length : Int) ≤ 4000))
def recGo : List UInt8 → List CellD → Option (List UInt8)
  | acc, [] => some acc
  | acc, c :: cs => if recOne acc c then recGo (recAdd acc c) cs else none
def recEnd (l : List UInt8) : List UInt8 := l ++ 32 :: 35 :: (Lib.itoa (bsum l) ++ [10])
def recText (seq : Int) (cs : List CellD) : ByteArray :=
  if inB seq 1 100000 then
    match recGo (Lib.itoa seq) cs with
    | none => ⟨#[]⟩
    | some l => if ((recEnd l).length : Int) ≤ 4000 then strOf (recEnd l) else ⟨#[]⟩
  else ⟨#[]⟩
theorem recText_size (seq : Int) (cs : List CellD) : (recText seq cs).size ≤ 4000 := by
  unfold recText
  split
  · split
    · decide
    · split
      · rw [strOf_size]; omega
      · decide
  · decide
theorem recAdd_len (acc : List UInt8) (c : CellD) (h : acc.length ≤ 4000) : (recAdd acc c).length ≤ 90000 := by
  unfold recAdd
  have h1 := hexT_size c.key
  have h2 := hexT_size c.val
  have e1 : (hexT c.key).data.toList.length = (hexT c.key).size := by simp
  have e2 : (hexT c.val).data.toList.length = (hexT c.val).size := by simp
  simp only [List.length_append, List.length_cons, e1, e2]
  omega
theorem recGo_drop {ds : List CellD} {n : Nat} (hn : n < ds.length) (acc : List UInt8) : recGo acc (ds.drop n) = if recOne acc ds[n] then recGo (recAdd acc ds[n]) (ds.drop (n + 1)) else none := by
  rw [List.drop_eq_getElem_cons hn]
  rfl
theorem recText_none {seq : Int} {ds : List CellD} (h : recGo (Lib.itoa seq) ds = none) : recText seq ds = ⟨#[]⟩ := by
  unfold recText
  rw [h]
  split <;> rfl
theorem recOne_false1 {l : List UInt8} {k v : ByteArray} (h : keyOk k = false) : recOne l ⟨k, v⟩ = false := by unfold recOne; rw [h, Bool.false_and]
theorem recOne_false2 {l : List UInt8} {k v : ByteArray} (h : 60 < (v.size : Int)) : recOne l ⟨k, v⟩ = false := by unfold recOne; rw [decide_eq_false (by show ¬ (v.size : Int) ≤ 60; omega), Bool.false_and, Bool.and_false]
theorem recOne_false3 {l : List UInt8} {k v : ByteArray} (h : 4000 < (l.length : Int)) : recOne l ⟨k, v⟩ = false := by unfold recOne; rw [decide_eq_false (p := (l.length : Int) ≤ 4000) (by omega), Bool.and_false, Bool.and_false]
theorem recOne_true {l : List UInt8} {k v : ByteArray} (h1 : keyOk k = true) (h2 : (v.size : Int) ≤ 60) (h3 : (l.length : Int) ≤ 4000) : recOne l ⟨k, v⟩ = true := by
  unfold recOne
  rw [h1, decide_eq_true (by exact h2), decide_eq_true h3]
  rfl
theorem recEnd_str (l : List UInt8) : strOf l ++ ⟨#[32, 35]⟩ ++ strOf (Lib.itoa (bsum l)) ++ ⟨#[10]⟩ = strOf (recEnd l) := by
  apply ByteArray.ext
  simp [strOf, recEnd, ByteArray.data_append]
theorem recText_some {seq : Int} {ds : List CellD} {l : List UInt8} (hi : inB seq 1 100000 = true) (h : recGo (Lib.itoa seq) ds = some l) : recText seq ds = if ((recEnd l).length : Int) ≤ 4000 then strOf (recEnd l) else ⟨#[]⟩ := by
  unfold recText
  rw [hi, h]
  rfl
theorem small_itoa (n : Int) (h0 : 1 ≤ n) (h1 : n ≤ 100000) : (Lib.itoa n).length ≤ 50010 := by
  unfold Lib.itoa
  rw [if_neg (by omega)]
  have := decD_len n.toNat
  omega
set_option maxRecDepth 100000 in
set_option maxHeartbeats 4000000 in
theorem spec_RecordText (seq : Int) (v : Value) (ds : List CellD) (w : World) {e : TypeId} (hs : (vSlice vCell e).rd w [v] ds) (hlen : ds.length ≤ 1048576) :
    Calls Tryz.prog 16 #[.int .i64 seq, v] w fun e w' => e = .returned (.string (recText seq ds)) ∧ Below w.heap.size w w' := by
  obtain ⟨ao, cap, rfl, hc1, hc2, hnil, hcell⟩ := vSlice.shape hs
  have HX := Lib.hid hcell
  clear hcell hnil
  unfold maxLen at hc2
  clear hs
  go_enter Tryz.func16, Tryz.ntmps16
  go_wp2_with fail
  (go_at_call 36; refine (spec_in _ _ _ _).mono ?_; rintro e w' ⟨rfl, rfl⟩)
  cases hin : inB seq 1 100000 with
  | false =>
    go_wp2
    go_ret
    refine ⟨?_, (by repeat (first | with_reducible exact Below.refl _ _ | with_reducible apply Below.ofExt | with_reducible apply Below.ofAlloc | with_reducible apply Below.drew | with_reducible apply Below.ofDrewN | with_reducible assumption | (with_reducible refine Below.setCell ?_ (by first | exact Nat.le_refl _ | (simp [go_sem]; done) | (simp [go_sem]; omega)) _)))⟩
    unfold recText
    rw [hin]
    rfl
  | true =>
    have hq1 : 1 ≤ seq := by unfold inB at hin; simp at hin; omega
    have hq2 : seq ≤ 100000 := by unfold inB at hin; simp at hin; omega
    have HIN := Lib.hid hin
    clear hin
    go_wp2_with fail
    (go_at_call 47; refine (spec_Decimal seq _ (by omega) (by omega)).mono ?_; rintro e w' ⟨rfl, hb⟩; obtain ⟨X, rfl⟩ := hb.ext; clear hb)
    obtain ⟨v1, w1, hcv, ho, hbl⟩ := conv_bytes (w.ext X) (strOf (Lib.itoa seq)) (by rw [strOf_size]; have := small_itoa seq hq1 hq2; omega)
    obtain ⟨X1, rfl⟩ := hbl.ext
    rw [strOf_list, World.ext_ext] at ho
    have ho := ho.base (B' := w.heap.size) (by simp [World.ext_size])
    obtain ⟨oa, oc, rfl⟩ := ho.form
    have HO := Lib.hid ho
    clear ho hbl
    go_wp2
    go_loopw [5, 6, 7, 8, 9, 10] (fun o k _ _ _ _ wr => ∃ (n : Nat) (l : List UInt8), k = .int .i64 n ∧ n ≤ ds.length ∧ Below w.heap.size w wr ∧ OwnB 5 wr w.heap.size o l ∧ l.length ≤ 90000 ∧ recGo (Lib.itoa seq) ds = recGo l (ds.drop n)) (fun _ k _ _ _ _ _ => ds.length - (intOf k).toNat)
    case atStart => exact ⟨0, _, rfl, by omega, (by repeat (first | with_reducible exact Below.refl _ _ | with_reducible apply Below.ofExt | with_reducible apply Below.ofAlloc | with_reducible apply Below.drew | with_reducible apply Below.ofDrewN | with_reducible assumption | (with_reducible refine Below.setCell ?_ (by first | exact Nat.le_refl _ | (simp [go_sem]; done) | (simp [go_sem]; omega)) _))), HO.out, by have := small_itoa seq hq1 hq2; omega, rfl⟩
    case round =>
      obtain ⟨n, l, rfl, hn, hbel, ho, hll, hgo⟩ := hrel
      obtain ⟨X2, rfl⟩ := hbel.ext
      obtain ⟨oa2, oc2, rfl⟩ := ho.form
      have HO := Lib.hid ho
      have HGO := Lib.hid hgo
      clear ho hgo
      by_cases hlt : (n : Int) < ds.length
      case pos =>
        have hk : n < ds.length := by omega
        have hst := recGo_drop hk l
        obtain ⟨b, off, csy, rfl, hbly, hrdy, hcelly⟩ := HX.out n hk
        generalize ds[n] = d at hrdy hst
        obtain ⟨rfl, hoky⟩ := hrdy
        obtain ⟨dk, dv⟩ := d
        have y0 := hcelly 0 _ rfl
        have y1 := hcelly 1 _ rfl
        clear hcelly
        simp only [show vCell.k = 2 from rfl, Nat.add_zero] at y0 y1
        have hz1 : dk.size ≤ 9223372036854775807 := hoky.1
        have hz2 : dv.size ≤ 9223372036854775807 := hoky.2
        clear hoky
        cases hkk : keyOk dk with
        | false =>
          rw [recOne_false1 hkk, if_neg (by decide)] at hst
          have HS := Lib.hid (hst)
          have HK := Lib.hid hkk
          clear hst hkk
          go_wp2_with fail
          (go_at_call 48; refine (spec_KeyOk dk _ hz1).mono ?_; rintro e w' ⟨rfl, rfl⟩)
          rw [HK.out]
          go_wp2
          go_ret
          exact ⟨by rw [recText_none (HGO.out.trans HS.out)]; rfl, (by repeat (first | with_reducible exact Below.refl _ _ | with_reducible apply Below.ofExt | with_reducible apply Below.ofAlloc | with_reducible apply Below.drew | with_reducible apply Below.ofDrewN | with_reducible assumption | (with_reducible refine Below.setCell ?_ (by first | exact Nat.le_refl _ | (simp [go_sem]; done) | (simp [go_sem]; omega)) _)))⟩
        | true =>
          have HK := Lib.hid hkk
          by_cases hv : 60 < (dv.size : Int)
          · rw [recOne_false2 hv, if_neg (by decide)] at hst
            have HS := Lib.hid (hst)
            clear hst hkk
            go_wp2_with fail
            (go_at_call 48; refine (spec_KeyOk dk _ hz1).mono ?_; rintro e w' ⟨rfl, rfl⟩)
            rw [HK.out]
            go_wp2
            go_ret
            exact ⟨by rw [recText_none (HGO.out.trans HS.out)]; rfl, (by repeat (first | with_reducible exact Below.refl _ _ | with_reducible apply Below.ofExt | with_reducible apply Below.ofAlloc | with_reducible apply Below.drew | with_reducible apply Below.ofDrewN | with_reducible assumption | (with_reducible refine Below.setCell ?_ (by first | exact Nat.le_refl _ | (simp [go_sem]; done) | (simp [go_sem]; omega)) _)))⟩
          by_cases hl4 : 4000 < (l.length : Int)
          · rw [recOne_false3 hl4, if_neg (by decide)] at hst
            have HS := Lib.hid (hst)
            clear hst hkk
            go_wp2_with fail
            (go_at_call 48; refine (spec_KeyOk dk _ hz1).mono ?_; rintro e w' ⟨rfl, rfl⟩)
            rw [HK.out]
            go_wp2
            go_ret
            exact ⟨by rw [recText_none (HGO.out.trans HS.out)]; rfl, (by repeat (first | with_reducible exact Below.refl _ _ | with_reducible apply Below.ofExt | with_reducible apply Below.ofAlloc | with_reducible apply Below.drew | with_reducible apply Below.ofDrewN | with_reducible assumption | (with_reducible refine Below.setCell ?_ (by first | exact Nat.le_refl _ | (simp [go_sem]; done) | (simp [go_sem]; omega)) _)))⟩
          rw [recOne_true hkk (by omega) (by omega), if_pos rfl] at hst
          have HS := Lib.hid (hst)
          clear hst hkk
          have hs1 := hexT_size dk
          have hs2 := hexT_size dv
          go_wp2_with fail
          (go_at_call 48; refine (spec_KeyOk dk _ hz1).mono ?_; rintro e w' ⟨rfl, rfl⟩)
          rw [HK.out]
          go_wp2_with fail
          (go_at_call 49; refine (spec_Hex dk _ hz1).mono ?_; rintro e w' ⟨rfl, hb⟩; obtain ⟨X3, rfl⟩ := hb.ext; clear hb)
          go_wp2_with fail
          (go_at_call 49; refine (spec_Hex dv _ hz2).mono ?_; rintro e w' ⟨rfl, hb⟩; obtain ⟨X4, rfl⟩ := hb.ext; clear hb)
          go_wp2_with (at_builtin; refine Stop.here ?_)
          have o0 := (OwnB.merge (cs := X3.bs ++ X4.bs) (dr := X4.dr) HO.out).alloc (.cells #[.int .u8 32] 5)
          refine wpList_appB _ Tryz.byteT rfl (.tmp 63) (.tmp 64) rfl (B := w.heap.size) (l := l) (m := [32]) o0 rfl (Sl.lit1 _ 32 32 rfl _ _ (by simp [World.ext_size])) rfl (by simp; omega) (by simp [World.ext_size]; omega) ?_
          intro v1 w1 ho1 hg1
          have hb1 : Below w.heap.size w w1 := Below.appB (by repeat (first | with_reducible exact Below.refl _ _ | with_reducible apply Below.ofExt | with_reducible apply Below.ofAlloc | with_reducible apply Below.drew | with_reducible apply Below.ofDrewN | with_reducible assumption | (with_reducible refine Below.setCell ?_ (by first | exact Nat.le_refl _ | (simp [go_sem]; done) | (simp [go_sem]; omega)) _))) hg1 o0
          obtain ⟨Y1, rfl⟩ := hb1.ext
          have HO1 := Lib.hid ho1
          clear ho1 hg1 hb1 o0
          go_wp2_with (at_builtin; refine Stop.here ?_)
          refine wpList_appBs _ Tryz.byteT Tryz.underlying9 rfl (.tmp 65) (.tmp 66) rfl (B := w.heap.size) (l := l ++ [32]) HO1.out rfl (m := hexT dk) rfl (by simp; omega) (by simp [World.ext_size]) ?_
          intro v2 w2 ho2 hg2
          have hb2 : Below w.heap.size w w2 := Below.appB (by repeat (first | with_reducible exact Below.refl _ _ | with_reducible apply Below.ofExt | with_reducible apply Below.ofAlloc | with_reducible apply Below.drew | with_reducible apply Below.ofDrewN | with_reducible assumption | (with_reducible refine Below.setCell ?_ (by first | exact Nat.le_refl _ | (simp [go_sem]; done) | (simp [go_sem]; omega)) _))) hg2 HO1.out
          obtain ⟨Y2, rfl⟩ := hb2.ext
          have HO2 := Lib.hid ho2
          clear ho2 hg2 hb2
          have hs1' : (hexT dk).data.toList.length = (hexT dk).size := by simp
          go_wp2_with (at_builtin; refine Stop.here ?_)
          have o2 := HO2.out.alloc (.cells #[.int .u8 61] 5)
          refine wpList_appB _ Tryz.byteT rfl (.tmp 67) (.tmp 68) rfl (B := w.heap.size) (l := l ++ [32] ++ (hexT dk).data.toList) (m := [61]) o2 rfl (Sl.lit1 _ 61 61 rfl _ _ (by simp [World.ext_size])) rfl (by simp; omega) (by simp [World.ext_size]; omega) ?_
          intro v3 w3 ho3 hg3
          have hb3 : Below w.heap.size w w3 := Below.appB (by repeat (first | with_reducible exact Below.refl _ _ | with_reducible apply Below.ofExt | with_reducible apply Below.ofAlloc | with_reducible apply Below.drew | with_reducible apply Below.ofDrewN | with_reducible assumption | (with_reducible refine Below.setCell ?_ (by first | exact Nat.le_refl _ | (simp [go_sem]; done) | (simp [go_sem]; omega)) _))) hg3 o2
          obtain ⟨Y3, rfl⟩ := hb3.ext
          have HO3 := Lib.hid ho3
          clear ho3 hg3 hb3 o2
          go_wp2_with (at_builtin; refine Stop.here ?_)
          refine wpList_appBs _ Tryz.byteT Tryz.underlying9 rfl (.tmp 69) (.tmp 70) rfl (B := w.heap.size) (l := l ++ [32] ++ (hexT dk).data.toList ++ [61]) HO3.out rfl (m := hexT dv) rfl (by simp; omega) (by simp [World.ext_size]) ?_
          intro v4 w4 ho4 hg4
          have hb4 : Below w.heap.size w w4 := Below.appB (by repeat (first | with_reducible exact Below.refl _ _ | with_reducible apply Below.ofExt | with_reducible apply Below.ofAlloc | with_reducible apply Below.drew | with_reducible apply Below.ofDrewN | with_reducible assumption | (with_reducible refine Below.setCell ?_ (by first | exact Nat.le_refl _ | (simp [go_sem]; done) | (simp [go_sem]; omega)) _))) hg4 HO3.out
          obtain ⟨Y4, rfl⟩ := hb4.ext
          rw [show l ++ [32] ++ (hexT dk).data.toList ++ [61] ++ (hexT dv).data.toList = recAdd l ⟨dk, dv⟩ by simp [recAdd]] at ho4
          have HO4 := Lib.hid ho4
          clear ho4 hg4 hb4 hs1'
          go_wp2
          go_roundw
          case rel => exact ⟨n + 1, _, by go_num, by omega, (by repeat (first | with_reducible exact Below.refl _ _ | with_reducible apply Below.ofExt | with_reducible apply Below.ofAlloc | with_reducible apply Below.drew | with_reducible apply Below.ofDrewN | with_reducible assumption | (with_reducible refine Below.setCell ?_ (by first | exact Nat.le_refl _ | (simp [go_sem]; done) | (simp [go_sem]; omega)) _))), HO4.out, recAdd_len _ _ (by omega), HGO.out.trans HS.out⟩
          case measure => simp [intOf]; omega
      case neg =>
        have e : n = ds.length := by omega
        have hgo := HGO.out
        rw [e, List.drop_length] at hgo
        have hr : ∀ x : Ext, Sem.run Tryz.prog (convert 28 9 (.slice oa2 l.length oc2)) (w.ext ⟨X2.bs ++ x.bs, x.dr⟩) = .ok (.string (strOf l)) (w.ext ⟨X2.bs ++ x.bs, x.dr⟩) := fun x => run_string_of (P := Tryz.prog) _ Tryz.byteT Tryz.underlying9 (OwnB.merge HO.out).sl
        have HR := Lib.hid hr
        clear hr
        have hsl : (strOf l).size ≤ 90000 := by rw [strOf_size]; exact hll
        have hbs := bsum_bd l
        have hsi : (strOf (Lib.itoa (bsum l))).size ≤ 4611686018427387920 := by rw [strOf_size]; exact itoa_len _ (by omega) (by omega)
        have HF := Lib.hid hgo
        clear hgo HGO
        go_wp2
        refine wp_region_ord [(0,true),(1,true),(2,true),(3,true),(4,true),(5,false),(6,false),(7,true),(8,true),(9,true)] 10 (by kernel_rfl) (by kernel_rfl) ?_
        repeat (refine wpOrd_quiet rfl (fun K hK => ?_); go_simp; (try simp (disch := omega) only [IntWalk.i64_in]); refine hK _ ?_; clear hK K)
        refine wpOrd_quiet rfl (fun K hK => ?_); go_simp; refine ⟨Value.string (strOf l), fun x => ?_, ?_⟩; (rw [HR.out x]; rfl); (try go_simp); refine hK _ ?_; clear hK K
        refine wpOrd_quiet rfl (fun K hK => ?_); go_simp; refine ⟨Value.string (strOf l ++ ⟨#[32, 35]⟩), fun x => ?_, ?_⟩; (rw [if_neg (by omega)]); (try go_simp); refine hK _ ?_; clear hK K
        repeat (refine wpOrd_quiet rfl (fun K hK => ?_); go_simp; (try simp (disch := omega) only [IntWalk.i64_in]); refine hK _ ?_; clear hK K)
        refine wpOrd_quiet rfl (fun K hK => ?_); go_simp; refine ⟨Value.string (strOf l), fun x => ?_, ?_⟩; (rw [HR.out x]; rfl); (try go_simp); refine hK _ ?_; clear hK K
        refine wpOrd_grow rfl (fun K hK => ?_); go_simp; go_at_call 50; refine (spec_bsum l _ hll).mono ?_; rintro e w' ⟨rfl, rfl⟩; try go_simp; refine hK _ _ (by show Sx _ _; (try simp only [← Array.append_assoc]); repeat (first | with_reducible exact Sx.drew _ | with_reducible exact Sx.same _ _ _ _ | with_reducible exact ⟨_, rfl⟩ | with_reducible apply Sx.more | with_reducible apply Sx.ext | with_reducible apply Sx.alloc | with_reducible apply Sx.draw | with_reducible exact Sx.refl _)) ?_; clear hK K
        refine wpOrd_grow rfl (fun K hK => ?_); go_simp; go_at_call 47; refine (spec_Decimal (bsum l) _ (by omega) (by omega)).mono ?_; rintro e w' ⟨rfl, hb⟩; obtain ⟨X, rfl⟩ := hb.ext; clear hb; try go_simp; refine hK _ _ (by show Sx _ _; (try simp only [← Array.append_assoc]); repeat (first | with_reducible exact Sx.drew _ | with_reducible exact Sx.same _ _ _ _ | with_reducible exact ⟨_, rfl⟩ | with_reducible apply Sx.more | with_reducible apply Sx.ext | with_reducible apply Sx.alloc | with_reducible apply Sx.draw | with_reducible exact Sx.refl _)) ?_; clear hK K
        refine wpOrd_quiet rfl (fun K hK => ?_); go_simp; refine ⟨Value.string (strOf l ++ ⟨#[32, 35]⟩ ++ strOf (Lib.itoa (bsum l))), fun x => ?_, ?_⟩; (rw [if_neg (by omega)]); (try go_simp); refine hK _ ?_; clear hK K
        refine wpOrd_quiet rfl (fun K hK => ?_); go_simp; refine ⟨Value.string (strOf l ++ ⟨#[32, 35]⟩ ++ strOf (Lib.itoa (bsum l)) ++ ⟨#[10]⟩), fun x => ?_, ?_⟩; (rw [if_neg (by omega)]); (try go_simp); refine hK _ ?_; clear hK K
        repeat (refine wpOrd_quiet rfl (fun K hK => ?_); go_simp; (try simp (disch := omega) only [IntWalk.i64_in]); refine hK _ ?_; clear hK K)
        refine wpOrd_nil ?_
        rw [recEnd_str]
        have hsz := strOf_size (recEnd l)
        have HRT := Lib.hid (recText_some HIN.out HF.out)
        by_cases h4 : ((recEnd l).length : Int) ≤ 4000
        · have h4' : ((strOf (recEnd l)).size : Int) ≤ 4000 := by omega
          clear hsz
          go_wp2
          go_ret
          exact ⟨by rw [HRT.out, if_pos h4]; rfl, (by repeat (first | with_reducible exact Below.refl _ _ | with_reducible apply Below.ofExt | with_reducible apply Below.ofAlloc | with_reducible apply Below.drew | with_reducible apply Below.ofDrewN | with_reducible assumption | (with_reducible refine Below.setCell ?_ (by first | exact Nat.le_refl _ | (simp [go_sem]; done) | (simp [go_sem]; omega)) _)))⟩
        · have h4' : 4000 < ((strOf (recEnd l)).size : Int) := by omega
          clear hsz
          go_wp2
          go_ret
          exact ⟨by rw [HRT.out, if_neg (by omega)]; rfl, (by repeat (first | with_reducible exact Below.refl _ _ | with_reducible apply Below.ofExt | with_reducible apply Below.ofAlloc | with_reducible apply Below.drew | with_reducible apply Below.ofDrewN | with_reducible assumption | (with_reducible refine Below.setCell ?_ (by first | exact Nat.le_refl _ | (simp [go_sem]; done) | (simp [go_sem]; omega)) _)))⟩
end Go.Proofs.YtedgenmbdjadkaaGreatDoor
namespace Go.Proofs.YtedgenmbdjadkaaGreatDoor
open Go.ChangeShapes Go.WideShapes Go.ChangeAt Go.RowKit

def hexL (s : ByteArray) : List UInt8 := Lib.Hx.encode s.data.toList
theorem hexT_list {s : ByteArray} (h : s.size ≤ 20000) : (hexT s).data.toList = hexL s := by
  unfold hexT
  rw [if_pos h, strOf_list]
  rfl
theorem digit_ne (d : Nat) (h : d < 16) : Lib.Hx.digit d ≠ 32 ∧ Lib.Hx.digit d ≠ 61 := by
  have hall : ∀ x : Fin 16, Lib.Hx.digit x.val ≠ 32 ∧ Lib.Hx.digit x.val ≠ 61 := by decide
  exact hall ⟨d, h⟩
theorem enc_no (l : List UInt8) : ∀ b ∈ Lib.Hx.encode l, b ≠ 32 ∧ b ≠ 61 := by
  intro b hb
  unfold Lib.Hx.encode at hb
  obtain ⟨a, _, hb⟩ := List.mem_flatMap.1 hb
  have := a.toNat_lt
  simp only [List.mem_cons, List.not_mem_nil, or_false] at hb
  rcases hb with rfl | rfl
  · exact digit_ne _ (by omega)
  · exact digit_ne _ (by omega)
theorem dig_ne (u : Nat) (h : u < 10) : UInt8.ofNat (48 + u) ≠ 32 ∧ UInt8.ofNat (48 + u) ≠ 61 ∧ (UInt8.ofNat (48 + u)).toNat = 48 + u := by
  have hall : ∀ x : Fin 10, UInt8.ofNat (48 + x.val) ≠ 32 ∧ UInt8.ofNat (48 + x.val) ≠ 61 ∧ (UInt8.ofNat (48 + x.val)).toNat = 48 + x.val := by decide
  exact hall ⟨u, h⟩
theorem decD_no (u : Nat) : ∀ b ∈ Lib.decDigits u, b ≠ 32 ∧ b ≠ 61 := by
  induction u using Nat.strongRecOn with
  | _ u ih =>
    intro b hb
    rw [Lib.decDigits] at hb
    split at hb
    · rename_i h
      rw [List.mem_singleton.1 hb]
      exact ⟨(dig_ne u h).1, (dig_ne u h).2.1⟩
    · rename_i h
      rcases List.mem_append.1 hb with hb | hb
      · exact ih (u / 10) (by omega) b hb
      · rw [List.mem_singleton.1 hb]
        have := dig_ne (u % 10) (by omega)
        exact ⟨this.1, this.2.1⟩
theorem itoa_no (n : Int) (h : 0 ≤ n) : ∀ b ∈ Lib.itoa n, b ≠ 32 ∧ b ≠ 61 := by
  unfold Lib.itoa
  rw [if_neg (by omega)]
  exact decD_no _
theorem parse_snoc (c : UInt8) : ∀ (l : List UInt8) (acc u : Nat), Lib.parseUint10 acc l = .ok u → Lib.parseUint10 acc (l ++ [c]) = Lib.parseUint10 u [c]
  | [], acc, u, h => by
    simp only [Lib.parseUint10] at h
    injection h with h
    rw [h]
    rfl
  | b :: l, acc, u, h => by
    simp only [Lib.parseUint10, List.cons_append] at h ⊢
    split at h
    · rename_i h1
      rw [if_pos h1]
      split at h
      · cases h
      · rename_i h2
        rw [if_neg h2]
        split at h
        · cases h
        · rename_i h3
          rw [if_neg h3]
          exact parse_snoc c l _ u h
    · cases h
theorem parse_dec (u : Nat) (h : u ≤ 1000000000) : Lib.parseUint10 0 (Lib.decDigits u) = .ok u := by
  induction u using Nat.strongRecOn with
  | _ u ih =>
    rw [Lib.decDigits]
    split
    · rename_i h1
      have hd := (dig_ne u h1).2.2
      simp only [Lib.parseUint10]
      rw [hd, if_pos (by omega), if_neg (by omega), if_neg (by omega)]
      congr 1
      omega
    · rename_i h1
      have hd := (dig_ne (u % 10) (by omega)).2.2
      rw [parse_snoc _ _ _ _ (ih (u / 10) (by omega) (by omega))]
      simp only [Lib.parseUint10]
      rw [hd, if_pos (by omega), if_neg (by omega), if_neg (by omega)]
      congr 1
      omega
theorem decD_head (u : Nat) : ∃ c r, Lib.decDigits u = c :: r ∧ 48 ≤ c.toNat ∧ c.toNat ≤ 57 := by
  induction u using Nat.strongRecOn with
  | _ u ih =>
    rw [Lib.decDigits]
    split
    · rename_i h
      have hd := (dig_ne u h).2.2
      exact ⟨_, [], rfl, by omega, by omega⟩
    · obtain ⟨c, r, e, h1, h2⟩ := ih (u / 10) (by omega)
      exact ⟨c, r ++ [_], by rw [e]; rfl, h1, h2⟩
theorem atoi_itoa (n : Int) (h0 : 0 ≤ n) (h1 : n ≤ 1000000000) : Lib.atoiAll (Lib.itoa n) = .ok n := by
  obtain ⟨u, rfl⟩ := Int.eq_ofNat_of_zero_le h0
  unfold Lib.itoa
  rw [if_neg (by omega), Int.toNat_natCast]
  have hp := parse_dec u (by omega)
  obtain ⟨c, r, e, a, b⟩ := decD_head u
  rw [e] at hp ⊢
  rw [Lib.atoiAll_plain c r (by omega) (by omega)]
  unfold Lib.parseMag
  rw [if_neg (by simp), hp]
  unfold Lib.signless
  simp only
  rw [if_neg (by omega)]
def wordL (c : CellD) : List UInt8 := hexL c.key ++ 61 :: hexL c.val
theorem wordL_no (c : CellD) : 32 ∉ wordL c := by
  unfold wordL
  intro h
  rcases List.mem_append.1 h with h | h
  · exact (enc_no _ _ h).1 rfl
  · rcases List.mem_cons.1 h with h | h
    · exact absurd h (by decide)
    · exact (enc_no _ _ h).1 rfl
theorem hexL_no (s : ByteArray) : 61 ∉ hexL s := fun h => (enc_no _ _ h).2 rfl
theorem keyOk_size {k : ByteArray} (h : keyOk k = true) : k.size ≤ 40 := by
  unfold keyOk at h
  rw [Bool.and_eq_true] at h
  have := h.2
  unfold inB at this
  simp at this
  omega
theorem recGo_form : ∀ (cs : List CellD) (acc l : List UInt8), recGo acc cs = some l → l = acc ++ cs.flatMap (fun c => 32 :: wordL c) ∧ ∀ c ∈ cs, c.key.size ≤ 40 ∧ c.val.size ≤ 60
  | [], acc, l, h => by
    simp only [recGo, Option.some.injEq] at h
    exact ⟨by rw [h]; simp, by simp⟩
  | c :: cs, acc, l, h => by
    simp only [recGo] at h
    split at h
    · rename_i h1
      unfold recOne at h1
      rw [Bool.and_eq_true, Bool.and_eq_true] at h1
      have hk := keyOk_size h1.1
      have hv : c.val.size ≤ 60 := by have := of_decide_eq_true h1.2.1; omega
      obtain ⟨e, hc⟩ := recGo_form cs _ l h
      refine ⟨?_, fun d hd => ?_⟩
      · rw [e]
        unfold recAdd wordL
        rw [hexT_list (by omega), hexT_list (by omega)]
        simp [List.flatMap_cons]
      · rcases List.mem_cons.1 hd with rfl | hd
        · exact ⟨hk, hv⟩
        · exact hc d hd
    · cases h
theorem split_words : ∀ (cs : List CellD) (a z : List UInt8), 32 ∉ a → 32 ∉ z → splitL 32 (a ++ cs.flatMap (fun c => 32 :: wordL c) ++ 32 :: z) = a :: (cs.map wordL ++ [z])
  | [], a, z, ha, hz => by
    rw [List.flatMap_nil, List.append_nil, splitL_app 32 a z ha, splitL_none 32 z hz]
    rfl
  | c :: cs, a, z, ha, hz => by
    have e : a ++ (c :: cs).flatMap (fun c => 32 :: wordL c) ++ 32 :: z = a ++ 32 :: (wordL c ++ cs.flatMap (fun c => 32 :: wordL c) ++ 32 :: z) := by
      simp [List.flatMap_cons]
    rw [e, splitL_app 32 a _ ha, split_words cs (wordL c) z (wordL_no c) hz]
    rfl
theorem split_rec {seq : Int} {cs : List CellD} {l : List UInt8} (h : recGo (Lib.itoa seq) cs = some l) (h0 : 0 ≤ seq) :
    splitL 32 (recEnd l) = Lib.itoa seq :: (cs.map wordL ++ [35 :: (Lib.itoa (bsum l) ++ [10])]) := by
  have e := (recGo_form cs _ l h).1
  have hb := bsum_bd l
  have hz : 32 ∉ (35 :: (Lib.itoa (bsum l) ++ [10]) : List UInt8) := by
    intro hm
    rcases List.mem_cons.1 hm with hm | hm
    · exact absurd hm (by decide)
    · rcases List.mem_append.1 hm with hm | hm
      · exact (itoa_no _ (by omega) _ hm).1 rfl
      · exact absurd (List.mem_singleton.1 hm) (by decide)
  have := split_words cs (Lib.itoa seq) _ (fun hm => (itoa_no _ h0 _ hm).1 rfl) hz
  rw [← e] at this
  exact this
/-- what Unhex gives -/
def unhexI (l : List UInt8) : List UInt8 := match Lib.Hx.decode l with
  | (d, .ok) => if d.length ≤ 20000 ∧ Lib.Hx.encode d = l then d else []
  | _ => []
theorem unhex_hexL {s : ByteArray} (h : s.size ≤ 20000) : unhexI (hexL s) = s.data.toList := by
  unfold unhexI hexL
  rw [Lib.Hx.decode_encode]
  simp only
  rw [if_pos ⟨by simpa using h, trivial⟩]
/-- what ReadDecimal gives -/
def numI (l : List UInt8) : Int := match Lib.atoiAll l with
  | .ok n => if (0 ≤ n ∧ n ≤ 1000000000) ∧ Lib.itoa n = l then n else 0
  | _ => 0
theorem num_itoa (n : Int) (h0 : 0 ≤ n) (h1 : n ≤ 1000000000) : numI (Lib.itoa n) = n := by
  unfold numI
  rw [atoi_itoa n h0 h1]
  simp only
  rw [if_pos ⟨⟨h0, h1⟩, trivial⟩]
def cellI (w : List UInt8) : CellD := ⟨strOf (unhexI (Lib.cut w [61]).1), strOf (unhexI (Lib.cut w [61]).2.1)⟩
theorem strOf_data (s : ByteArray) : strOf s.data.toList = s := by
  apply ByteArray.ext
  simp [strOf]
theorem cellI_word {c : CellD} (h1 : c.key.size ≤ 40) (h2 : c.val.size ≤ 60) : cellI (wordL c) = c := by
  unfold cellI wordL
  rw [Lib.cut_app 61 _ _ (hexL_no _)]
  simp only
  rw [unhex_hexL (by omega), unhex_hexL (by omega), strOf_data, strOf_data]
/-- the numbers and cells that the program reads out of the words -/
def seqI (ws : List (List UInt8)) : Int := numI (ws.headD [])
def listI (ws : List (List UInt8)) : List CellD := ((ws.drop 1).take (ws.length - 2)).map cellI
theorem recText_inv {seq : Int} {cs : List CellD} {t : ByteArray} (h : recText seq cs = t) (ht : t.size ≠ 0) :
    inB seq 1 100000 = true ∧ ∃ l, recGo (Lib.itoa seq) cs = some l ∧ (recEnd l).length ≤ 4000 ∧ t = strOf (recEnd l) := by
  unfold recText at h
  split at h
  · rename_i hi
    refine ⟨hi, ?_⟩
    split at h
    · rw [← h] at ht; exact absurd rfl ht
    · rename_i l hg
      split at h
      · rename_i hl
        exact ⟨l, hg, by omega, h.symm⟩
      · rw [← h] at ht; exact absurd rfl ht
  · rw [← h] at ht; exact absurd rfl ht
/-- WHAT WAS WRITTEN IS READ AGAIN. -/
theorem read_back {seq : Int} {cs : List CellD} {t : ByteArray} (h : recText seq cs = t) (ht : t.size ≠ 0) :
    seqI (splitL 32 t.data.toList) = seq ∧ listI (splitL 32 t.data.toList) = cs := by
  obtain ⟨hi, l, hg, hl, rfl⟩ := recText_inv h ht
  have h1 : 1 ≤ seq ∧ seq ≤ 100000 := by unfold inB at hi; simp at hi; omega
  rw [strOf_list, split_rec hg (by omega)]
  refine ⟨num_itoa seq (by omega) (by omega), ?_⟩
  unfold listI
  have e : ((Lib.itoa seq :: (cs.map wordL ++ [35 :: (Lib.itoa (bsum l) ++ [10])])).drop 1).take ((Lib.itoa seq :: (cs.map wordL ++ [35 :: (Lib.itoa (bsum l) ++ [10])])).length - 2) = cs.map wordL := by
    simp
  rw [e, List.map_map]
  conv => rhs; rw [← List.map_id cs]
  refine List.map_congr_left fun c hc => ?_
  have := (recGo_form cs _ l hg).2 c hc
  exact cellI_word this.1 this.2
end Go.Proofs.YtedgenmbdjadkaaGreatDoor
namespace Go.Proofs.YtedgenmbdjadkaaGreatDoor
open Go.ChangeShapes Go.WideShapes Go.ChangeAt Go.RowKit

/-- the record that a text is, if it is one -/
def readI (t : ByteArray) : Option (Int × List CellD) :=
  if t.size ≠ 0 ∧ recText (seqI (splitL 32 t.data.toList)) (listI (splitL 32 t.data.toList)) = t then some (seqI (splitL 32 t.data.toList), listI (splitL 32 t.data.toList)) else none
theorem readI_some {t : ByteArray} {seq : Int} {cs : List CellD} : readI t = some (seq, cs) ↔ recText seq cs = t ∧ t.size ≠ 0 := by
  unfold readI
  constructor
  · intro h
    split at h
    · rename_i h1
      injection h with h
      injection h with h2 h3
      subst h2
      subst h3
      exact ⟨h1.2, h1.1⟩
    · cases h
  · rintro ⟨h, ht⟩
    have hb := read_back h ht
    rw [hb.1, hb.2, if_pos ⟨ht, h⟩]
theorem readI_big {t : ByteArray} (h : 4000 < t.size) : readI t = none := by
  cases hr : readI t with
  | none => rfl
  | some p =>
    have := (readI_some (seq := p.1) (cs := p.2)).1 hr
    have h2 := recText_size p.1 p.2
    rw [this.1] at h2
    omega
def Unh (l : List UInt8) (r : ByteArray) : Prop := ∀ s : ByteArray, s.size ≤ 20000 → l = hexL s → r = s
def Num (l : List UInt8) (n : Int) (ok : Bool) : Prop := (0 ≤ n ∧ n ≤ 1000000000) ∧ ∀ m : Int, 1 ≤ m → m ≤ 100000 → l = Lib.itoa m → n = m ∧ ok = true
def CellR (word : List UInt8) (c : CellD) : Prop := ∀ d : CellD, d.key.size ≤ 40 → d.val.size ≤ 60 → word = wordL d → c = d
def ReadsTo (ws : List (List UInt8)) (cs : List CellD) : Prop := ∃ zs : List (List UInt8 × CellD), zs.map (·.1) = ws ∧ zs.map (·.2) = cs ∧ ∀ z ∈ zs, CellR z.1 z.2
theorem ReadsTo.nil : ReadsTo [] [] := ⟨[], rfl, rfl, by simp⟩
theorem ReadsTo.snoc {ws : List (List UInt8)} {cs : List CellD} {w : List UInt8} {c : CellD} (h : ReadsTo ws cs) (hc : CellR w c) : ReadsTo (ws ++ [w]) (cs ++ [c]) := by
  obtain ⟨zs, rfl, rfl, hz⟩ := h
  refine ⟨zs ++ [(w, c)], by simp, by simp, fun z hm => ?_⟩
  rcases List.mem_append.1 hm with hm | hm
  · exact hz z hm
  · rw [List.mem_singleton.1 hm]
    exact hc
theorem ReadsTo.length {ws : List (List UInt8)} {cs : List CellD} (h : ReadsTo ws cs) : cs.length = ws.length := by
  obtain ⟨zs, rfl, rfl, _⟩ := h
  simp
theorem reads_eq : ∀ (zs : List (List UInt8 × CellD)) (ds : List CellD), (∀ z ∈ zs, CellR z.1 z.2) → zs.map (·.1) = ds.map wordL → (∀ d ∈ ds, d.key.size ≤ 40 ∧ d.val.size ≤ 60) → zs.map (·.2) = ds
  | [], [], _, _, _ => rfl
  | [], d :: ds, _, h, _ => by simp at h
  | z :: zs, [], _, h, _ => by simp at h
  | z :: zs, d :: ds, hz, h, hd => by
    simp only [List.map_cons, List.cons.injEq] at h
    rw [List.map_cons, reads_eq zs ds (fun x hx => hz x (List.mem_cons_of_mem _ hx)) h.2 (fun x hx => hd x (List.mem_cons_of_mem _ hx))]
    have := hd d (by simp)
    rw [hz z (by simp) d this.1 this.2 h.1]
theorem ReadsTo.eq {ds cs : List CellD} (h : ReadsTo (ds.map wordL) cs) (hd : ∀ d ∈ ds, d.key.size ≤ 40 ∧ d.val.size ≤ 60) : cs = ds := by
  obtain ⟨zs, h1, rfl, hz⟩ := h
  exact reads_eq zs ds hz h1 hd
def midL (ws : List (List UInt8)) : List (List UInt8) := (ws.drop 1).take (ws.length - 2)
theorem midL_rec (a z : List UInt8) (ws : List (List UInt8)) : midL (a :: (ws ++ [z])) = ws := by
  unfold midL
  simp
theorem readI_inv {t : ByteArray} {seq : Int} {cs : List CellD} (h : readI t = some (seq, cs)) :
    (1 ≤ seq ∧ seq ≤ 100000) ∧ (splitL 32 t.data.toList).headD [] = Lib.itoa seq ∧ midL (splitL 32 t.data.toList) = cs.map wordL ∧ (∀ d ∈ cs, d.key.size ≤ 40 ∧ d.val.size ≤ 60) := by
  have h1 := readI_some.1 h
  obtain ⟨hi, l, hg, hl, rfl⟩ := recText_inv h1.1 h1.2
  have h2 : 1 ≤ seq ∧ seq ≤ 100000 := by unfold inB at hi; simp at hi; omega
  rw [strOf_list, split_rec hg (by omega)]
  exact ⟨h2, rfl, midL_rec _ _ _, (recGo_form cs _ l hg).2⟩
/-- ONE READING: whoever reads the words rightly where they are a record's reads what the record says. -/
theorem read_one {t : ByteArray} {seq n : Int} {ok : Bool} {cs ds : List CellD} (h : readI t = some (seq, cs)) (hn : Num ((splitL 32 t.data.toList).headD []) n ok) (hd : ReadsTo (midL (splitL 32 t.data.toList)) ds) :
    n = seq ∧ ok = true ∧ ds = cs := by
  obtain ⟨h2, e1, e2, e3⟩ := readI_inv h
  rw [e2] at hd
  have := hn.2 seq h2.1 h2.2 e1
  exact ⟨this.1, this.2, hd.eq e3⟩
theorem read_no {t : ByteArray} {n : Int} {ok : Bool} {ds : List CellD} (hn : Num ((splitL 32 t.data.toList).headD []) n ok) (hd : ReadsTo (midL (splitL 32 t.data.toList)) ds) (h : recText n ds ≠ t ∨ t.size = 0 ∨ ok = false) : readI t = none := by
  cases hr : readI t with
  | none => rfl
  | some p =>
    obtain ⟨rfl, rfl, rfl⟩ := read_one (seq := p.1) (cs := p.2) hr hn hd
    have := (readI_some (seq := p.1) (cs := p.2)).1 hr
    rcases h with h | h | h
    · exact absurd this.1 h
    · exact absurd h this.2
    · cases h
theorem split_word (d : CellD) : splitL 61 (wordL d) = [hexL d.key, hexL d.val] := by
  unfold wordL
  rw [splitL_app 61 _ _ (hexL_no _), splitL_none 61 _ (hexL_no _)]
theorem read_no2 {t : ByteArray} {i : Nat} {w : List UInt8} (hw : (midL (splitL 32 t.data.toList))[i]? = some w) (h : (splitL 61 w).length ≠ 2) : readI t = none := by
  cases hr : readI t with
  | none => rfl
  | some p =>
    obtain ⟨_, _, e, _⟩ := readI_inv (seq := p.1) (cs := p.2) hr
    rw [e, List.getElem?_map] at hw
    obtain ⟨d, hd, rfl⟩ := Option.map_eq_some_iff.1 hw
    rw [split_word] at h
    exact absurd rfl h
theorem cellR_cut {w : List UInt8} {k v : ByteArray} (hk : Unh (Lib.cut w [61]).1 k) (hv : Unh (Lib.cut w [61]).2.1 v) : CellR w ⟨k, v⟩ := by
  intro d h1 h2 e
  have ec : Lib.cut w [61] = (hexL d.key, hexL d.val, true) := by
    rw [e]
    unfold wordL
    rw [Lib.cut_app 61 _ _ (hexL_no _)]
  rw [ec] at hk hv
  have a := hk d.key (by omega) rfl
  have b := hv d.val (by omega) rfl
  rw [a, b]
theorem cellR_split {w a b : List UInt8} {k v : ByteArray} (h : splitL 61 w = [a, b]) (hk : Unh a k) (hv : Unh b v) : CellR w ⟨k, v⟩ := by
  intro d h1 h2 e
  rw [e, split_word] at h
  injection h with h3 h4
  injection h4 with h4 _
  subst h3
  subst h4
  have a := hk d.key (by omega) rfl
  have b := hv d.val (by omega) rfl
  rw [a, b]
end Go.Proofs.YtedgenmbdjadkaaGreatDoor
namespace Go.Proofs.YtedgenmbdjadkaaGreatDoor
open Go.ChangeShapes Go.WideShapes Go.ChangeAt Go.RowKit

/-- the value of a hexadecimal figure, -1 if it is none -/
def valI (c : UInt8) : Int := if 48 ≤ (c.toNat : Int) ∧ (c.toNat : Int) ≤ 57 then c.toNat - 48 else if 97 ≤ (c.toNat : Int) ∧ (c.toNat : Int) ≤ 102 then c.toNat - 97 + 10 else -1
theorem valI_digit (x : Nat) (h : x < 16) : valI (Lib.Hx.digit x) = x := by
  have hall : ∀ x : Fin 16, valI (Lib.Hx.digit x.val) = (x.val : Int) := by decide
  exact hall ⟨x, h⟩
theorem valI_le (c : UInt8) : -1 ≤ valI c ∧ valI c ≤ 15 := by
  unfold valI
  split
  · omega
  · split
    · omega
    · omega
theorem enc_get : ∀ (l : List UInt8) (m : Nat) (h : m < l.length), (Lib.Hx.encode l)[2 * m]? = some (Lib.Hx.digit (l[m].toNat / 16)) ∧ (Lib.Hx.encode l)[2 * m + 1]? = some (Lib.Hx.digit (l[m].toNat % 16))
  | [], m, h => by simp at h
  | c :: l, 0, _ => by simp [Lib.Hx.encode]
  | c :: l, m + 1, h => by
    have ih := enc_get l m (by simpa using h)
    have e : Lib.Hx.encode (c :: l) = Lib.Hx.digit (c.toNat / 16) :: Lib.Hx.digit (c.toNat % 16) :: Lib.Hx.encode l := by simp [Lib.Hx.encode]
    rw [e, show 2 * (m + 1) = 2 * m + 1 + 1 by omega, List.getElem?_cons_succ, List.getElem?_cons_succ, List.getElem?_cons_succ, List.getElem?_cons_succ]
    simpa using ih
theorem hexL_len (t : ByteArray) : (hexL t).length = 2 * t.size := by
  unfold hexL
  rw [Lib.Hx.encode_length]
  have : t.data.toList.length = t.size := by simp
  omega
/-- how far the figures have been read -/
def UnhTo (L acc : List UInt8) (m : Nat) : Prop := ∀ t : ByteArray, L = hexL t → acc = t.data.toList.take m
theorem UnhTo.nil (L : List UInt8) : UnhTo L [] 0 := fun t _ => by simp
theorem unh_at {L : List UInt8} {t : ByteArray} {m : Nat} (h : 2 * m + 1 < L.length) (e : L = hexL t) : ∃ hm : m < t.data.toList.length, valI (L[2 * m]'(by omega)) = ((t.data.toList[m].toNat / 16 : Nat) : Int) ∧ valI L[2 * m + 1] = ((t.data.toList[m].toNat % 16 : Nat) : Int) := by
  subst e
  have hm : m < t.data.toList.length := by
    rw [hexL_len] at h
    have : t.data.toList.length = t.size := by simp
    omega
  have hg := enc_get t.data.toList m hm
  have hb := t.data.toList[m].toNat_lt
  have h1 := List.getElem?_eq_getElem (l := hexL t) (i := 2 * m) (by omega)
  have h2 := List.getElem?_eq_getElem (l := hexL t) (i := 2 * m + 1) h
  have e1 : (hexL t)[2 * m]'(by omega) = Lib.Hx.digit (t.data.toList[m].toNat / 16) := Option.some.inj (h1.symm.trans hg.1)
  have e2 : (hexL t)[2 * m + 1] = Lib.Hx.digit (t.data.toList[m].toNat % 16) := Option.some.inj (h2.symm.trans hg.2)
  refine ⟨hm, ?_, ?_⟩
  · rw [e1, valI_digit _ (by omega)]
  · rw [e2, valI_digit _ (by omega)]
theorem UnhTo.step {L acc : List UInt8} {m : Nat} (H : UnhTo L acc m) (h : 2 * m + 1 < L.length) {c : UInt8} (hc : (c.toNat : Int) = 16 * valI (L[2 * m]'(by omega)) + valI L[2 * m + 1]) : UnhTo L (acc ++ [c]) (m + 1) := by
  intro t e
  obtain ⟨hm, e1, e2⟩ := unh_at h e
  rw [e1, e2] at hc
  rw [H t e, List.take_succ_eq_append_getElem hm]
  congr 2
  apply UInt8.toNat_inj.1
  omega
theorem UnhTo.bad {L : List UInt8} {m : Nat} (h : 2 * m + 1 < L.length) (hb : valI (L[2 * m]'(by omega)) < 0 ∨ valI L[2 * m + 1] < 0) (r : ByteArray) : Unh L r := by
  intro t _ e
  obtain ⟨hm, e1, e2⟩ := unh_at h e
  rw [e1, e2] at hb
  omega
theorem UnhTo.all {L acc : List UInt8} {m : Nat} (H : UnhTo L acc m) (h : L.length ≤ 2 * m) : Unh L (strOf acc) := by
  intro t _ e
  have h2 := hexL_len t
  rw [← e] at h2
  have : t.data.toList.length = t.size := by simp
  rw [H t e, List.take_of_length_le (by omega), strOf_data]
theorem Unh.long {L : List UInt8} (h : 40000 < L.length ∨ L.length % 2 ≠ 0) (r : ByteArray) : Unh L r := by
  intro t h1 e
  have := hexL_len t
  rw [← e] at this
  omega
/-- the number that figures write -/
def valD (l : List UInt8) : Int := l.foldl (fun a c => 10 * a + (c.toNat - 48)) 0
def digL (c : UInt8) : Prop := 48 ≤ c.toNat ∧ c.toNat ≤ 57
theorem valD_snoc (l : List UInt8) (c : UInt8) : valD (l ++ [c]) = 10 * valD l + (c.toNat - 48) := by simp [valD, List.foldl_append]
theorem dec_val (u : Nat) : valD (Lib.decDigits u) = u ∧ ∀ c ∈ Lib.decDigits u, digL c := by
  induction u using Nat.strongRecOn with
  | _ u ih =>
    rw [Lib.decDigits]
    split
    · rename_i h
      have hd := (dig_ne u h).2.2
      refine ⟨?_, fun c hc => ?_⟩
      · show 10 * (0 : Int) + ((UInt8.ofNat (48 + u)).toNat - 48) = u
        rw [hd]
        omega
      · rw [List.mem_singleton.1 hc]
        unfold digL
        omega
    · rename_i h
      have hd := (dig_ne (u % 10) (by omega)).2.2
      obtain ⟨h1, h2⟩ := ih (u / 10) (by omega)
      refine ⟨?_, fun c hc => ?_⟩
      · rw [valD_snoc, h1, hd]
        omega
      · rcases List.mem_append.1 hc with hc | hc
        · exact h2 c hc
        · rw [List.mem_singleton.1 hc]
          unfold digL
          omega
theorem dec_len : ∀ (k u : Nat), u < 10 ^ (k + 1) → (Lib.decDigits u).length ≤ k + 1
  | 0, u, h => by
    rw [Lib.decDigits, dif_pos (by omega)]
    simp
  | k + 1, u, h => by
    rw [Lib.decDigits]
    split
    · simp
    · have := dec_len k (u / 10) (by rw [Nat.pow_succ] at h; omega)
      rw [List.length_append, List.length_singleton]
      omega
theorem itoa_val {m : Int} (h0 : 0 ≤ m) (h1 : m ≤ 1000000000) : valD (Lib.itoa m) = m ∧ (∀ c ∈ Lib.itoa m, digL c) ∧ (Lib.itoa m).length ≤ 10 := by
  unfold Lib.itoa
  rw [if_neg (by omega)]
  obtain ⟨a, b⟩ := dec_val m.toNat
  exact ⟨by rw [a]; omega, b, dec_len 9 _ (by omega)⟩
theorem Num.long {l : List UInt8} (h : 10 < l.length) : Num l 0 false := by
  refine ⟨by omega, fun m h1 h2 e => ?_⟩
  have := (itoa_val (m := m) (by omega) (by omega)).2.2
  rw [← e] at this
  omega
theorem Num.bad {l : List UInt8} {c : UInt8} (hc : c ∈ l) (h : ¬ digL c) : Num l 0 false := by
  refine ⟨by omega, fun m h1 h2 e => ?_⟩
  exact absurd ((itoa_val (m := m) (by omega) (by omega)).2.1 c (by rw [← e]; exact hc)) h
theorem Num.good {l : List UInt8} {n : Int} (h0 : 0 ≤ n) (h1 : n ≤ 1000000000) (h : n = valD l) : Num l n true := by
  refine ⟨⟨h0, h1⟩, fun m a b e => ⟨?_, rfl⟩⟩
  have := (itoa_val (m := m) (by omega) (by omega)).1
  rw [h, e, this]
theorem Num.other {l : List UInt8} {n : Int} (h : n = valD l) (h1 : 1000000000 < n ∨ Lib.itoa n ≠ l) : Num l 0 false := by
  refine ⟨by omega, fun m a b e => ?_⟩
  have := (itoa_val (m := m) (by omega) (by omega)).1
  rw [← e, ← h] at this
  subst this
  rcases h1 with h1 | h1
  · omega
  · exact absurd e.symm h1
theorem valD_go : ∀ (l : List UInt8) (a : Int), 0 ≤ a → (∀ c ∈ l, digL c) → 0 ≤ l.foldl (fun (a : Int) (c : UInt8) => 10 * a + (c.toNat - 48)) a ∧ l.foldl (fun (a : Int) (c : UInt8) => 10 * a + (c.toNat - 48)) a + 1 ≤ (a + 1) * 10 ^ l.length
  | [], a, h, _ => by simp; omega
  | c :: l, a, h, hd => by
    have hc := hd c (by simp)
    unfold digL at hc
    obtain ⟨h1, h2⟩ := valD_go l (10 * a + (c.toNat - 48)) (by omega) (fun d hm => hd d (List.mem_cons_of_mem _ hm))
    refine ⟨h1, Int.le_trans h2 ?_⟩
    rw [List.length_cons, Int.pow_succ, Int.mul_comm (10 ^ l.length) 10, ← Int.mul_assoc]
    refine Int.mul_le_mul_of_nonneg_right (by omega) (Int.le_of_lt (Int.pow_pos (by decide)))
theorem valD_bd (l : List UInt8) (h : ∀ c ∈ l, digL c) : 0 ≤ valD l ∧ valD l < 10 ^ l.length := by
  have := valD_go l 0 (by omega) h
  unfold valD
  omega
theorem Num.atoi {l : List UInt8} (h : ∀ n, Lib.atoiAll l ≠ .ok n) : Num l 0 false := by
  refine ⟨by omega, fun m h1 h2 e => ?_⟩
  exact absurd (atoi_itoa m (by omega) (by omega)) (by rw [← e]; exact h m)
theorem Num.atoiOk {l : List UInt8} {n : Int} (h : Lib.atoiAll l = .ok n) (h0 : 0 ≤ n) (h1 : n ≤ 1000000000) : Num l n true := by
  refine ⟨⟨h0, h1⟩, fun m a b e => ⟨?_, rfl⟩⟩
  have := atoi_itoa m (by omega) (by omega)
  rw [← e, h] at this
  injection this
theorem Num.atoiNo {l : List UInt8} {n : Int} (h : Lib.atoiAll l = .ok n) (h1 : n < 0 ∨ 1000000000 < n ∨ Lib.itoa n ≠ l) : Num l 0 false := by
  refine ⟨by omega, fun m a b e => ?_⟩
  have := atoi_itoa m (by omega) (by omega)
  rw [← e, h] at this
  injection this with this
  subst this
  rcases h1 with h1 | h1 | h1
  · omega
  · omega
  · exact absurd e.symm h1
theorem Unh.dec {l d : List UInt8} (h : Lib.Hx.decode l = (d, .ok)) : Unh l (strOf d) := by
  intro t _ e
  subst e
  unfold hexL at h
  rw [Lib.Hx.decode_encode] at h
  injection h with h
  rw [← h, strOf_data]
theorem Unh.no {l d : List UInt8} {x} (h : Lib.Hx.decode l = (d, x)) (h1 : x ≠ .ok ∨ 20000 < d.length ∨ Lib.Hx.encode d ≠ l) (r : ByteArray) : Unh l r := by
  intro t ht e
  subst e
  unfold hexL at h
  rw [Lib.Hx.decode_encode] at h
  injection h with h h2
  subst h
  subst h2
  rcases h1 with h1 | h1 | h1
  · exact absurd rfl h1
  · have : t.data.toList.length = t.size := by simp
    omega
  · exact absurd rfl h1
/-- the parts that have been cut so far -/
def CutTo (c : UInt8) (L : List UInt8) (xs : List ByteArray) (b i : Nat) : Prop :=
  (i ≤ L.length ∧ b ≤ i ∧ c ∉ (L.drop b).take (i - b) ∧ xs.map (·.data.toList) ++ splitL c (L.drop b) = splitL c L) ∨ (i = L.length + 1 ∧ xs.map (·.data.toList) = splitL c L)
theorem CutTo.nil (c : UInt8) (L : List UInt8) : CutTo c L [] 0 0 := .inl ⟨by omega, by omega, by simp, by simp⟩
theorem take_drop_step (L : List UInt8) (b i : Nat) (hb : b ≤ i) (hi : i < L.length) : (L.drop b).take (i + 1 - b) = (L.drop b).take (i - b) ++ [L[i]] := by
  rw [show i + 1 - b = (i - b) + 1 by omega, List.take_succ_eq_append_getElem (by rw [List.length_drop]; omega)]
  congr 2
  rw [List.getElem_drop]
  congr 1
  omega
theorem CutTo.same {c : UInt8} {L : List UInt8} {xs : List ByteArray} {b i : Nat} (h : CutTo c L xs b i) (hi : i < L.length) (hc : L[i] ≠ c) : CutTo c L xs b (i + 1) := by
  rcases h with ⟨h1, h2, h3, h4⟩ | ⟨h, _⟩
  · refine .inl ⟨by omega, by omega, ?_, h4⟩
    rw [take_drop_step L b i h2 hi]
    intro hm
    rcases List.mem_append.1 hm with hm | hm
    · exact h3 hm
    · exact hc (List.mem_singleton.1 hm).symm
  · omega
theorem CutTo.cut {c : UInt8} {L : List UInt8} {xs : List ByteArray} {b i : Nat} (h : CutTo c L xs b i) (hi : i < L.length) (hc : L[i] = c) {s : ByteArray} (hs : s.data.toList = (L.drop b).take (i - b)) : CutTo c L (xs ++ [s]) (i + 1) (i + 1) := by
  rcases h with ⟨h1, h2, h3, h4⟩ | ⟨h, _⟩
  · refine .inl ⟨by omega, by omega, by simp, ?_⟩
    have e : L.drop b = (L.drop b).take (i - b) ++ c :: L.drop (i + 1) := by
      conv => lhs; rw [← List.take_append_drop (i - b) (L.drop b)]
      rw [List.drop_drop, show b + (i - b) = i by omega, List.drop_eq_getElem_cons hi, hc]
    rw [e, splitL_app c _ _ h3] at h4
    rw [List.map_append, List.append_assoc, ← h4, ← hs]
    rfl
  · omega
theorem CutTo.last {c : UInt8} {L : List UInt8} {xs : List ByteArray} {b i : Nat} (h : CutTo c L xs b i) (hi : i = L.length) {s : ByteArray} (hs : s.data.toList = (L.drop b).take (i - b)) : CutTo c L (xs ++ [s]) (i + 1) (i + 1) := by
  subst hi
  rcases h with ⟨h1, h2, h3, h4⟩ | ⟨h, _⟩
  · refine .inr ⟨rfl, ?_⟩
    rw [List.take_of_length_le (by rw [List.length_drop]; omega)] at h3 hs
    rw [splitL_none c _ h3] at h4
    rw [List.map_append, ← h4, ← hs]
    rfl
  · omega
theorem CutTo.all {c : UInt8} {L : List UInt8} {xs : List ByteArray} {b i : Nat} (h : CutTo c L xs b i) (hi : L.length < i) : xs.map (·.data.toList) = splitL c L := by
  rcases h with ⟨h1, _⟩ | ⟨_, h⟩
  · omega
  · exact h
theorem CutTo.lo {c : UInt8} {L : List UInt8} {xs : List ByteArray} {b i : Nat} (h : CutTo c L xs b i) (hi : i ≤ L.length) : b ≤ i := by
  rcases h with ⟨_, h, _⟩ | ⟨h, _⟩
  · exact h
  · omega
theorem splitL_length (c : UInt8) : ∀ l : List UInt8, (splitL c l).length ≤ l.length + 1
  | [] => by simp [splitL]
  | b :: l => by
    have ih := splitL_length c l
    unfold splitL
    split
    · simp; omega
    · split
      · simp
      · rename_i h; rw [h] at ih; simp at ih ⊢; omega
/-- what a reader of figures gives -/
def UnhP (s : ByteArray) (w : World) (e : Ending) (w' : World) : Prop := ∃ r b, e = .returned (.tuple #[.string r, .bool b]) ∧ r.size ≤ 20000 ∧ Unh s.data.toList r ∧ Below w.heap.size w w'
theorem UnhP.mk {s r : ByteArray} {b : Bool} {w w' : World} (h1 : r.size ≤ 20000) (h2 : Unh s.data.toList r) (h3 : Below w.heap.size w w') : UnhP s w (.returned (.tuple #[.string r, .bool b])) w' := ⟨r, b, rfl, h1, h2, h3⟩
def NumP (s : ByteArray) (w : World) (e : Ending) (w' : World) : Prop := ∃ n b, e = .returned (.tuple #[.int .i64 n, .bool b]) ∧ Num s.data.toList n b ∧ Below w.heap.size w w'
theorem NumP.mk {s : ByteArray} {n : Int} {b : Bool} {w w' : World} (h2 : Num s.data.toList n b) (h3 : Below w.heap.size w w') : NumP s w (.returned (.tuple #[.int .i64 n, .bool b])) w' := ⟨n, b, rfl, h2, h3⟩
def SplP (t : TypeId) (c : UInt8) (s : ByteArray) (w : World) (e : Ending) (w' : World) : Prop := ∃ v xs, e = .returned v ∧ OwnL rStr t w' w.heap.size v xs ∧ xs.map (·.data.toList) = splitL c s.data.toList ∧ Below w.heap.size w w'
theorem SplP.mk {t : TypeId} {c : UInt8} {s : ByteArray} {v : Value} {xs : List ByteArray} {w w' : World} (h1 : OwnL rStr t w' w.heap.size v xs) (h2 : xs.map (·.data.toList) = splitL c s.data.toList) (h3 : Below w.heap.size w w') : SplP t c s w (.returned v) w' := ⟨v, xs, rfl, h1, h2, h3⟩
theorem splitL_mem (c : UInt8) : ∀ (l w : List UInt8), w ∈ splitL c l → w.length ≤ l.length
  | [], w, h => by simp [splitL] at h; simp [h]
  | b :: l, w, h => by
    have ih := splitL_mem c l
    unfold splitL at h
    split at h
    · rcases List.mem_cons.1 h with rfl | h
      · simp
      · have := ih w h
        simp
        omega
    · split at h
      · rw [List.mem_singleton.1 h]
        simp
      · rename_i x xs hx
        rcases List.mem_cons.1 h with rfl | h
        · have := ih x (by rw [hx]; simp)
          simp
          exact this
        · have := ih w (by rw [hx]; exact List.mem_cons_of_mem _ h)
          simp
          omega
theorem split_small {c : UInt8} {s : ByteArray} {xs : List ByteArray} (h : xs.map (·.data.toList) = splitL c s.data.toList) : ∀ x ∈ xs, x.size ≤ s.size := by
  intro x hx
  have := splitL_mem c s.data.toList x.data.toList (by rw [← h]; exact List.mem_map.2 ⟨x, hx, rfl⟩)
  have e1 : x.data.toList.length = x.size := by simp
  have e2 : s.data.toList.length = s.size := by simp
  omega
theorem mid_get {ws : List (List UInt8)} {j : Nat} (h : j + 2 < ws.length) : (midL ws)[j]? = some ws[j + 1] := by
  unfold midL
  rw [List.getElem?_take, if_pos (by omega), List.getElem?_drop, Nat.add_comm 1 j, List.getElem?_eq_getElem (by omega)]
theorem mid_step {ws : List (List UInt8)} {j : Nat} (h : j + 2 < ws.length) : (midL ws).take (j + 1) = (midL ws).take j ++ [ws[j + 1]] := by
  obtain ⟨h1, h2⟩ := List.getElem?_eq_some_iff.1 (mid_get h)
  rw [List.take_succ_eq_append_getElem h1, h2]
theorem mid_all {ws : List (List UInt8)} {j : Nat} (h : ws.length ≤ j + 2) : (midL ws).take j = midL ws := by
  unfold midL
  rw [List.take_take, Nat.min_eq_right (by omega)]
theorem mid_len (ws : List (List UInt8)) : (midL ws).length ≤ ws.length := by
  unfold midL
  rw [List.length_take, List.length_drop]
  omega
theorem map_get (xs : List ByteArray) (ws : List (List UInt8)) (h : xs.map (·.data.toList) = ws) {i : Nat} (hi : i < xs.length) : ∃ h2 : i < ws.length, ws[i] = xs[i].data.toList := by
  subst h
  exact ⟨by simpa using hi, by simp⟩
theorem two_of {xs : List ByteArray} {ws : List (List UInt8)} (h : xs.map (·.data.toList) = ws) (hl : xs.length = 2) : ∃ a b : ByteArray, xs = [a, b] ∧ ws = [a.data.toList, b.data.toList] := by
  subst h
  match xs, hl with
  | [a, b], _ => exact ⟨a, b, rfl, rfl⟩
/-- small cells -/
def Sm (cs : List CellD) : Prop := ∀ c ∈ cs, c.key.size ≤ 20000 ∧ c.val.size ≤ 20000
theorem Sm.nil : Sm [] := by intro c hc; cases hc
theorem Sm.snoc {cs : List CellD} {k v : ByteArray} (h : Sm cs) (h1 : k.size ≤ 20000) (h2 : v.size ≤ 20000) : Sm (cs ++ [⟨k, v⟩]) := by
  intro c hc
  rcases List.mem_append.1 hc with hc | hc
  · exact h c hc
  · rw [List.mem_singleton.1 hc]
    exact ⟨h1, h2⟩
/-- what the readers of a record give -/
def RrOk (s : ByteArray) (n : Int) (b : Bool) (cs : List CellD) : Prop := (b = true → readI s = some (n, cs)) ∧ (b = false → n = 0 ∧ cs = [] ∧ readI s = none)
theorem RrOk.no {s : ByteArray} (h : readI s = none) : RrOk s 0 false [] := ⟨(fun e => by cases e), fun _ => ⟨rfl, rfl, h⟩⟩
theorem RrOk.yes {s : ByteArray} {n : Int} {cs : List CellD} (h : recText n cs = s) (h2 : s.size ≠ 0) : RrOk s n true cs := ⟨fun _ => readI_some.2 ⟨h, h2⟩, (fun e => by cases e)⟩
theorem ne_size {a b : ByteArray} (h1 : a.size = 0) (h2 : ¬ b.size = 0) : a ≠ b := fun e => h2 (by rw [← e]; exact h1)
end Go.Proofs.YtedgenmbdjadkaaGreatDoor
