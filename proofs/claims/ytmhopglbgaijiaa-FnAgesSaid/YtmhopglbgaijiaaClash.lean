/- The Ids of the live transactions that clash with an access set: the program's and the reference's. Each condition stands in its theorem. -/
import Derived.Test.YtmhopglbgaijiaaCTxS
import Derived.Test.YtmhopglbgaijiaaTInt
import Derived.Test.YtmhopglbgaijiaaLive
import Derived.Test.YtmhopglbgaijiaaMeetV
set_option linter.unusedVariables false
set_option linter.unusedSimpArgs false
namespace Go.Proofs.Ytmhopglbgaijiaa
open Go.ChangeShapes Go.WideShapes Go.ChangeAt Go.RowKit

theorem OwnL.dr {α : Type} {R : RowOf α} {e : TypeId} {w : World} {B : Nat} {v : Value} {xs : List α} {X : Ext} {d : Nat} (h : OwnL R e (w.ext X) B v xs) : OwnL R e (w.ext ⟨X.bs, d⟩) B v xs := by
  have := h.ext ⟨#[], d⟩
  rwa [World.ext_ext, Array.append_empty] at this
def clashes (t : TouchD) (but : Int) (d : TxD) : Bool := (d.state == 1) && ((d.id != but) && clash d.touch t)
def clashIds (t : TouchD) (but : Int) (ds : List TxD) : List Int := (ds.filter (clashes t but)).map TxD.id
theorem clashIds_step (t : TouchD) (but : Int) (ds : List TxD) (n : Nat) (h : n < ds.length) : clashIds t but (ds.take (n + 1)) = clashIds t but (ds.take n) ++ (if clashes t but ds[n] = true then [ds[n].id] else []) := by
  unfold clashIds
  rw [List.take_succ_eq_append_getElem h, List.filter_append, List.map_append]
  congr 1
  by_cases hs : clashes t but ds[n] = true
  · rw [if_pos hs, List.filter_cons_of_pos hs]
    rfl
  · rw [if_neg hs, List.filter_cons_of_neg hs]
    rfl
set_option maxRecDepth 100000 in
set_option maxHeartbeats 2000000 in
theorem impl_ClashesOf1 (cs : List Value) (d : TxD) (ct : List Value) (t : TouchD) (but : Int) (bb bt : Nat) (w : World) (hs : vTx.rd w cs d) (ht : vTouch.rd w ct t) (hbb : bb < w.heap.size) (hbt : bt < w.heap.size)
    (hcb : w.cell? ⟨bb, 0, none⟩ = some (.int .i64 but)) (hct : ∀ j u, ct[j]? = some u → w.cell? ⟨bt, j, none⟩ = some u) :
    Calls Try.prog 57 #[.agg cs.toArray, .pointer (some ⟨bb, 0, none⟩), .pointer (some ⟨bt, 0, none⟩)] w fun e w' => e = .returned (.bool (clashes t but d)) ∧ Below w.heap.size w w' := by
  obtain ⟨ts0, ts1, rfl, th0, th1⟩ := ht
  obtain ⟨ta0, tc0, rfl⟩ := vSlice.form th0
  obtain ⟨ta1, tc1, rfl⟩ := vSlice.form th1
  have HT : Hid (vTouch.rd w [_, _] t) := ⟨_, _, rfl, th0, th1⟩
  clear th0 th1
  have hq : clashes t but d = clashes t but d := rfl
  conv at hq => rhs; unfold clashes
  obtain ⟨qs0, qs1, qs2, qs3, qs4, rfl, qh0, qh1, qh2, qh3, qh4⟩ := hs
  obtain ⟨qa0, qc0, rfl⟩ := vSlice.form qh0
  obtain ⟨qa1, qc1, rfl⟩ := vSlice.form qh1
  obtain ⟨qa2, qc2, rfl⟩ := vSlice.form qh2
  obtain ⟨qa3, qc3, rfl⟩ := vSlice.form qh3
  obtain ⟨qa4, qc4, rfl⟩ := vSlice.form qh4
  have qT : Hid (vTouch.rd w [_, _] d.touch) := ⟨_, _, rfl, qh2, qh3⟩
  clear qh0 qh1 qh2 qh3 qh4
  have u0 := hct 0 _ rfl
  have u1 := hct 1 _ rfl
  clear hct
  by_cases f1 : d.state = 1
  case neg =>
    rw [hq, show (d.state == 1) = false by simp [f1]]
    clear hq
    go_enter Try.func57, Try.ntmps57
    go_wp2
    go_ret
    exact ⟨rfl, (by repeat (first | with_reducible exact Below.refl _ _ | with_reducible apply Below.ofExt | with_reducible apply Below.ofAlloc | with_reducible apply Below.drew | with_reducible apply Below.ofDrewN | with_reducible assumption | (with_reducible refine Below.setCell ?_ (by first | exact Nat.le_refl _ | (simp [go_sem]; done) | (simp [go_sem]; omega)) _)))⟩
  have g1 : (d.state == 1) = true := by simp [f1]
  by_cases f2 : d.id = but
  case pos =>
    rw [hq, g1, show (d.id != but) = false by simp [f2]]
    clear hq
    go_enter Try.func57, Try.ntmps57
    go_wp2
    go_ret
    exact ⟨rfl, (by repeat (first | with_reducible exact Below.refl _ _ | with_reducible apply Below.ofExt | with_reducible apply Below.ofAlloc | with_reducible apply Below.drew | with_reducible apply Below.ofDrewN | with_reducible assumption | (with_reducible refine Below.setCell ?_ (by first | exact Nat.le_refl _ | (simp [go_sem]; done) | (simp [go_sem]; omega)) _)))⟩
  have g2 : (d.id != but) = true := by simp [f2]
  rw [hq, g1, g2]
  have G2 := Lib.hid g2
  clear hq g1 g2
  go_enter Try.func57, Try.ntmps57
  go_wp2_with fail
  (go_at_call 58; refine (impl_Clash _ d.touch _ t _ (by (try simp only [← Array.append_assoc]); (repeat (first | with_reducible exact qT.out | with_reducible apply View.rdMerge | with_reducible apply View.rdExt | with_reducible apply View.rdAlloc | with_reducible apply View.rdDrew | with_reducible apply View.rdDrewN)); all_goals exact (0 : Nat)) (by (try simp only [← Array.append_assoc]); (repeat (first | with_reducible exact HT.out | with_reducible apply View.rdMerge | with_reducible apply View.rdExt | with_reducible apply View.rdAlloc | with_reducible apply View.rdDrew | with_reducible apply View.rdDrewN)); all_goals exact (0 : Nat))).mono ?_; rintro e w' ⟨rfl, hb⟩; obtain ⟨X, rfl⟩ := hb.ext; clear hb)
  go_wp2
  go_ret
  exact ⟨by rw [G2.out]; rfl, (by repeat (first | with_reducible exact Below.refl _ _ | with_reducible apply Below.ofExt | with_reducible apply Below.ofAlloc | with_reducible apply Below.drew | with_reducible apply Below.ofDrewN | with_reducible assumption | (with_reducible refine Below.setCell ?_ (by first | exact Nat.le_refl _ | (simp [go_sem]; done) | (simp [go_sem]; omega)) _)))⟩
set_option maxRecDepth 100000 in
set_option maxHeartbeats 2000000 in
theorem clash_idsIn (v : Value) (ds : List TxD) (ct : List Value) (t : TouchD) (but : Int) (bb bt : Nat) (w : World) {e : TypeId} (hs : (vSlice vTx e).rd w [v] ds) (ht : vTouch.rd w ct t) (hbb : bb < w.heap.size) (hbt : bt < w.heap.size)
    (hcb : w.cell? ⟨bb, 0, none⟩ = some (.int .i64 but)) (hct : ∀ j u, ct[j]? = some u → w.cell? ⟨bt, j, none⟩ = some u) (hlen : ds.length ≤ 1048576) :
    Calls Try.prog 56 #[v, .func (Fn.func 57) #[] #[.pointer (some ⟨bb, 0, none⟩), .pointer (some ⟨bt, 0, none⟩)]] w (Made (vSlice vInt 3) w (clashIds t but ds)) := by
  obtain ⟨ao, cap, rfl, hc1, hc2, hnil, hcell⟩ := vSlice.shape hs
  have HX := Lib.hid hcell
  clear hcell hnil
  unfold maxLen at hc2
  clear hs
  have HT := Lib.hid ht
  have HCB := Lib.hid hcb
  have HCT := Lib.hid hct
  clear ht hcb hct
  go_enter Try.func56, Try.ntmps56
  go_wp2
  go_loopw [5, 10] (fun o k wr => ∃ (n : Nat) (xs : List Int), k = .int .i64 n ∧ n ≤ ds.length ∧ Below w.heap.size w wr ∧ OwnL rInt 3 wr w.heap.size o xs ∧ xs = clashIds t but (ds.take n) ∧ xs.length ≤ n) (fun _ k _ => ds.length - (intOf k).toNat)
  case atStart => exact ⟨0, [], rfl, by omega, (by repeat (first | with_reducible exact Below.refl _ _ | with_reducible apply Below.ofExt | with_reducible apply Below.ofAlloc | with_reducible apply Below.drew | with_reducible apply Below.ofDrewN | with_reducible assumption | (with_reducible refine Below.setCell ?_ (by first | exact Nat.le_refl _ | (simp [go_sem]; done) | (simp [go_sem]; omega)) _))), OwnL.nil rInt _ w _, rfl, by simp⟩
  case round =>
    obtain ⟨n, xs, rfl, hn, hbel, ho, hxs, hxl⟩ := hrel
    obtain ⟨X, rfl⟩ := hbel.ext
    obtain ⟨oa, oc, rfl⟩ := ho.rd.form
    have HO := Lib.hid ho
    have HXS := Lib.hid hxs
    clear ho hxs
    by_cases hlt : (n : Int) < ds.length
    case pos =>
      have hk : n < ds.length := by omega
      have hst := clashIds_step t but ds n hk
      obtain ⟨b, off, csy, rfl, hbly, hrdy, hcelly⟩ := HX.out n hk
      generalize ds[n] = d at hrdy hst
      have Hd := Lib.hid hrdy
      obtain ⟨qs0, qs1, qs2, qs3, qs4, rfl, qh0, qh1, qh2, qh3, qh4⟩ := hrdy
      obtain ⟨qa0, qc0, rfl⟩ := vSlice.form qh0
      obtain ⟨qa1, qc1, rfl⟩ := vSlice.form qh1
      obtain ⟨qa2, qc2, rfl⟩ := vSlice.form qh2
      obtain ⟨qa3, qc3, rfl⟩ := vSlice.form qh3
      obtain ⟨qa4, qc4, rfl⟩ := vSlice.form qh4
      have qT : Hid (vTouch.rd w [_, _] d.touch) := ⟨_, _, rfl, qh2, qh3⟩
      clear qh0 qh1 qh2 qh3 qh4
      have y0 := hcelly 0 _ rfl
      have y1 := hcelly 1 _ rfl
      have y2 := hcelly 2 _ rfl
      have y3 := hcelly 3 _ rfl
      have y4 := hcelly 4 _ rfl
      have y5 := hcelly 5 _ rfl
      have y6 := hcelly 6 _ rfl
      have y7 := hcelly 7 _ rfl
      have y8 := hcelly 8 _ rfl
      have y9 := hcelly 9 _ rfl
      clear hcelly
      simp only [show vTx.k = 10 from rfl, Nat.add_zero] at y0 y1 y2 y3 y4 y5 y6 y7 y8 y9
      rw [← HXS.out] at hst
      have HST := Lib.hid hst
      clear hst
      have q1 : b < w.heap.size + 1 := by omega
      have q2 : ¬ b = w.heap.size := by omega
      have q3 : b < w.heap.size + X.bs.size := by omega
      have q4 : b < w.heap.size + 1 + X.bs.size := by omega
      have q5 : ¬ b = w.heap.size + X.bs.size := by omega
      have q6 : b < w.heap.size + X.bs.size + 1 := by omega
      cases hq : clashes t but d with
      | false =>
        have HQ := Lib.hid hq
        clear hq
        go_wp2_with fail
        (go_at_call 57; refine (impl_ClashesOf1 _ d _ t but _ _ _ (by (try simp only [← Array.append_assoc]); (repeat (first | with_reducible exact Hd.out | with_reducible apply View.rdMerge | with_reducible apply View.rdExt | with_reducible apply View.rdAlloc | with_reducible apply View.rdDrew | with_reducible apply View.rdDrewN)); all_goals exact (0 : Nat)) (by (try simp only [← Array.append_assoc]); (repeat (first | with_reducible exact HT.out | with_reducible apply View.rdMerge | with_reducible apply View.rdExt | with_reducible apply View.rdAlloc | with_reducible apply View.rdDrew | with_reducible apply View.rdDrewN)); all_goals exact (0 : Nat)) (by simp [go_sem]; omega) (by simp [go_sem]; omega) (by repeat (first | exact HCB.out | refine Grew.cell (Grew.ext _ _) ?_ | refine Grew.cell (Grew.alloc _ _) ?_)) (fun j u hj => by repeat (first | exact HCT.out j u hj | refine Grew.cell (Grew.ext _ _) ?_ | refine Grew.cell (Grew.alloc _ _) ?_))).mono ?_; rintro e w' ⟨rfl, hb⟩; obtain ⟨X, rfl⟩ := hb.ext; clear hb)
        rw [HQ.out]
        go_wp2
        go_roundw
        case rel => exact ⟨n + 1, xs, by go_num, by omega, (by repeat (first | with_reducible exact Below.refl _ _ | with_reducible apply Below.ofExt | with_reducible apply Below.ofAlloc | with_reducible apply Below.drew | with_reducible apply Below.ofDrewN | with_reducible assumption | (with_reducible refine Below.setCell ?_ (by first | exact Nat.le_refl _ | (simp [go_sem]; done) | (simp [go_sem]; omega)) _))), (by (try simp only [← Array.append_assoc]); (repeat (first | with_reducible exact HO.out | with_reducible exact OwnL.dr HO.out | with_reducible apply OwnL.merge2 | with_reducible apply OwnL.ext | with_reducible apply OwnL.alloc)); all_goals exact (0 : Nat)), by rw [HST.out, HQ.out]; simp, by omega⟩
        case measure => simp [intOf]; omega
      | true =>
        have HQ := Lib.hid hq
        clear hq
        go_wp2_with fail
        (go_at_call 57; refine (impl_ClashesOf1 _ d _ t but _ _ _ (by (try simp only [← Array.append_assoc]); (repeat (first | with_reducible exact Hd.out | with_reducible apply View.rdMerge | with_reducible apply View.rdExt | with_reducible apply View.rdAlloc | with_reducible apply View.rdDrew | with_reducible apply View.rdDrewN)); all_goals exact (0 : Nat)) (by (try simp only [← Array.append_assoc]); (repeat (first | with_reducible exact HT.out | with_reducible apply View.rdMerge | with_reducible apply View.rdExt | with_reducible apply View.rdAlloc | with_reducible apply View.rdDrew | with_reducible apply View.rdDrewN)); all_goals exact (0 : Nat)) (by simp [go_sem]; omega) (by simp [go_sem]; omega) (by repeat (first | exact HCB.out | refine Grew.cell (Grew.ext _ _) ?_ | refine Grew.cell (Grew.alloc _ _) ?_)) (fun j u hj => by repeat (first | exact HCT.out j u hj | refine Grew.cell (Grew.ext _ _) ?_ | refine Grew.cell (Grew.alloc _ _) ?_))).mono ?_; rintro e w' ⟨rfl, hb⟩; obtain ⟨X, rfl⟩ := hb.ext; clear hb)
        rw [HQ.out]
        go_wp2_with (at_builtin; refine Stop.here ?_)
        refine wpList_appL rfl _ _ _ rfl Try.elemIntS (B := w.heap.size) (v := .slice oa xs.length oc) (xs := xs) (R := rInt) (by (try simp only [← Array.append_assoc]); (repeat (first | with_reducible exact HO.out | with_reducible exact OwnL.dr HO.out | with_reducible apply OwnL.merge2 | with_reducible apply OwnL.ext | with_reducible apply OwnL.alloc)); all_goals exact (0 : Nat)) rfl (ys := [d.id]) (RdL.oneAt rInt _ d.id _ rfl _ _ (by simp [World.ext_size])) rfl (by simp only [List.length_singleton]; omega) (by simp only [List.length_singleton]; unfold maxLen; omega) (by simp [World.ext_size]; try omega) ?_
        intro v4 w4 hown4 hgr4 _
        have hb4 : Below w.heap.size w w4 := Below.appL (R := rInt) (e := 3) (v := .slice oa xs.length oc) (xs := xs) (by repeat (first | with_reducible exact Below.refl _ _ | with_reducible apply Below.ofExt | with_reducible apply Below.ofAlloc | with_reducible apply Below.drew | with_reducible apply Below.ofDrewN | with_reducible assumption | (with_reducible refine Below.setCell ?_ (by first | exact Nat.le_refl _ | (simp [go_sem]; done) | (simp [go_sem]; omega)) _))) hgr4 (by (try simp only [← Array.append_assoc]); (repeat (first | with_reducible exact HO.out | with_reducible exact OwnL.dr HO.out | with_reducible apply OwnL.merge2 | with_reducible apply OwnL.ext | with_reducible apply OwnL.alloc)); all_goals exact (0 : Nat))
        go_wp2
        go_roundw
        case rel => exact ⟨n + 1, _, by go_num, by omega, hb4, hown4, by rw [HST.out, HQ.out]; rfl, by simp; omega⟩
        case measure => simp [intOf]; omega
    case neg =>
      have e : n = ds.length := by omega
      have hx := HXS.out
      rw [e, List.take_length] at hx
      have HF := Lib.hid hx
      clear hx
      go_wp2
      go_ret
      obtain ⟨fp, h1, h2, h3⟩ := own_of_OwnL (HO.out.base (B' := w.heap.size) (by simp))
      rw [HF.out] at h1
      exact ⟨_, fp, by rw [← HF.out]; rfl, ⟨h1, h2, h3⟩, (by repeat (first | with_reducible exact Below.refl _ _ | with_reducible apply Below.ofExt | with_reducible apply Below.ofAlloc | with_reducible apply Below.drew | with_reducible apply Below.ofDrewN | with_reducible assumption | (with_reducible refine Below.setCell ?_ (by first | exact Nat.le_refl _ | (simp [go_sem]; done) | (simp [go_sem]; omega)) _)))⟩
theorem impl_ClashesOf (v : Value) (ds : List TxD) (ct : List Value) (t : TouchD) (but : Int) (w : World) {e : TypeId} (hs : (vSlice vTx e).rd w [v] ds) (ht : vTouch.rd w ct t) (hlen : ds.length ≤ 1048576) :
    Calls Try.prog 33 #[v, .agg ct.toArray, .int .i64 but] w (Made (vSlice vInt 3) w (clashIds t but ds)) := by
  obtain ⟨a0, c0, rfl⟩ := vSlice.form hs
  have HS := Lib.hid hs
  clear hs
  obtain ⟨ts0, ts1, rfl, th0, th1⟩ := ht
  obtain ⟨ta0, tc0, rfl⟩ := vSlice.form th0
  obtain ⟨ta1, tc1, rfl⟩ := vSlice.form th1
  have HT : Hid (vTouch.rd w [_, _] t) := ⟨_, _, rfl, th0, th1⟩
  clear th0 th1
  go_enter Try.func33, Try.ntmps33
  go_wp2_with fail
  (go_at_call 56; refine (clash_idsIn _ ds _ t but _ _ _ (by (try simp only [← Array.append_assoc]); (repeat (first | with_reducible exact HS.out | with_reducible apply View.rdMerge | with_reducible apply View.rdExt | with_reducible apply View.rdAlloc | with_reducible apply View.rdDrew | with_reducible apply View.rdDrewN)); all_goals exact (0 : Nat)) (by (try simp only [← Array.append_assoc]); (repeat (first | with_reducible exact HT.out | with_reducible apply View.rdMerge | with_reducible apply View.rdExt | with_reducible apply View.rdAlloc | with_reducible apply View.rdDrew | with_reducible apply View.rdDrewN)); all_goals exact (0 : Nat)) (by simp [go_sem]) (by simp [go_sem]) (by simp [go_sem]) (fun j u hj => ((World.cell?_of_get (heap_alloc2_old w _ _)).trans (by simpa using hj))) hlen).mono ?_; rintro e w' ⟨u, fp, rfl, hf, hb⟩; obtain ⟨X, rfl⟩ := hb.ext)
  obtain ⟨a1, c1, rfl⟩ := vSlice.form (View.toRd _ hf.own)
  go_wp2
  go_ret
  exact ⟨_, fp, rfl, ⟨hf.own, hf.nodup, fun b hb => Nat.le_trans (by simp; omega) (hf.lo b hb)⟩, (by repeat (first | with_reducible exact Below.refl _ _ | with_reducible apply Below.ofExt | with_reducible apply Below.ofAlloc | with_reducible apply Below.drew | with_reducible apply Below.ofDrewN | with_reducible assumption | (with_reducible refine Below.setCell ?_ (by first | exact Nat.le_refl _ | (simp [go_sem]; done) | (simp [go_sem]; omega)) _)))⟩
set_option maxRecDepth 100000 in
set_option maxHeartbeats 2000000 in
theorem spec_ClashesOf (v : Value) (ds : List TxD) (ct : List Value) (t : TouchD) (but : Int) (w : World) {e : TypeId} (hs : (vSlice vTx e).rd w [v] ds) (ht : vTouch.rd w ct t) (hlen : ds.length ≤ 1048576) :
    Calls Try.prog 34 #[v, .agg ct.toArray, .int .i64 but] w (Made (vSlice vInt 3) w (clashIds t but ds)) := by
  obtain ⟨ao, cap, rfl, hc1, hc2, hnil, hcell⟩ := vSlice.shape hs
  have HX := Lib.hid hcell
  clear hcell hnil
  unfold maxLen at hc2
  clear hs
  obtain ⟨ts0, ts1, rfl, th0, th1⟩ := ht
  obtain ⟨ta0, tc0, rfl⟩ := vSlice.form th0
  obtain ⟨ta1, tc1, rfl⟩ := vSlice.form th1
  have HT : Hid (vTouch.rd w [_, _] t) := ⟨_, _, rfl, th0, th1⟩
  clear th0 th1
  go_enter Try.func34, Try.ntmps34
  go_wp2
  go_loopw [7, 8] (fun o k wr => ∃ (n : Nat) (xs : List Int), k = .int .i64 n ∧ n ≤ ds.length ∧ Below (w.alloc (.cells #[.slice ta0 t.reads.length tc0, .slice ta1 t.writes.length tc1] 28)).heap.size (w.alloc (.cells #[.slice ta0 t.reads.length tc0, .slice ta1 t.writes.length tc1] 28)) wr ∧ OwnL rInt 3 wr (w.alloc (.cells #[.slice ta0 t.reads.length tc0, .slice ta1 t.writes.length tc1] 28)).heap.size o xs ∧ xs = clashIds t but (ds.take n) ∧ xs.length ≤ n) (fun _ k _ => ds.length - (intOf k).toNat)
  case atStart => exact ⟨0, [], rfl, by omega, (by repeat (first | with_reducible exact Below.refl _ _ | with_reducible apply Below.ofExt | with_reducible apply Below.ofAlloc | with_reducible apply Below.drew | with_reducible apply Below.ofDrewN | with_reducible assumption | (with_reducible refine Below.setCell ?_ (by first | exact Nat.le_refl _ | (simp [go_sem]; done) | (simp [go_sem]; omega)) _))), (by have := OwnL.empty rInt 3 (w.alloc (.cells #[.slice ta0 t.reads.length tc0, .slice ta1 t.writes.length tc1] 28)); simpa using this), rfl, by simp⟩
  case round =>
    obtain ⟨n, xs, rfl, hn, hbel, ho, hxs, hxl⟩ := hrel
    obtain ⟨X, rfl⟩ := hbel.ext
    obtain ⟨oa, oc, rfl⟩ := ho.rd.form
    have HO := Lib.hid ho
    have HXS := Lib.hid hxs
    clear ho hxs
    by_cases hlt : (n : Int) < ds.length
    case pos =>
      have hk : n < ds.length := by omega
      have hst := clashIds_step t but ds n hk
      obtain ⟨b, off, csy, rfl, hbly, hrdy, hcelly⟩ := HX.out n hk
      generalize ds[n] = d at hrdy hst
      have Hd := Lib.hid hrdy
      obtain ⟨qs0, qs1, qs2, qs3, qs4, rfl, qh0, qh1, qh2, qh3, qh4⟩ := hrdy
      obtain ⟨qa0, qc0, rfl⟩ := vSlice.form qh0
      obtain ⟨qa1, qc1, rfl⟩ := vSlice.form qh1
      obtain ⟨qa2, qc2, rfl⟩ := vSlice.form qh2
      obtain ⟨qa3, qc3, rfl⟩ := vSlice.form qh3
      obtain ⟨qa4, qc4, rfl⟩ := vSlice.form qh4
      have qT : Hid (vTouch.rd w [_, _] d.touch) := ⟨_, _, rfl, qh2, qh3⟩
      clear qh0 qh1 qh2 qh3 qh4
      have y0 := hcelly 0 _ rfl
      have y1 := hcelly 1 _ rfl
      have y2 := hcelly 2 _ rfl
      have y3 := hcelly 3 _ rfl
      have y4 := hcelly 4 _ rfl
      have y5 := hcelly 5 _ rfl
      have y6 := hcelly 6 _ rfl
      have y7 := hcelly 7 _ rfl
      have y8 := hcelly 8 _ rfl
      have y9 := hcelly 9 _ rfl
      clear hcelly
      simp only [show vTx.k = 10 from rfl, Nat.add_zero] at y0 y1 y2 y3 y4 y5 y6 y7 y8 y9
      rw [← HXS.out] at hst
      have HST := Lib.hid hst
      clear hst
      have q1 : b < w.heap.size + 1 := by omega
      have q2 : ¬ b = w.heap.size := by omega
      have q3 : b < w.heap.size + X.bs.size := by omega
      have q4 : b < w.heap.size + 1 + X.bs.size := by omega
      have q5 : ¬ b = w.heap.size + X.bs.size := by omega
      have q6 : b < w.heap.size + X.bs.size + 1 := by omega
      have hq : clashes t but d = clashes t but d := rfl
      conv at hq => rhs; unfold clashes
      by_cases f1 : d.state = 1
      case neg =>
        have HQ : Hid (clashes t but d = false) := by show _ = _; rw [hq, show (d.state == 1) = false by simp [f1]]; rfl
        clear hq
        go_wp2
        go_quiet (fail)
        go_wp2
        go_roundw
        case rel => exact ⟨n + 1, xs, by go_num, by omega, (by repeat (first | with_reducible exact Below.refl _ _ | with_reducible apply Below.ofExt | with_reducible apply Below.ofAlloc | with_reducible apply Below.drew | with_reducible apply Below.ofDrewN | with_reducible assumption | (with_reducible refine Below.setCell ?_ (by first | exact Nat.le_refl _ | (simp [go_sem]; done) | (simp [go_sem]; omega)) _))), (by (try simp only [← Array.append_assoc]); (repeat (first | with_reducible exact HO.out | with_reducible exact OwnL.dr HO.out | with_reducible apply OwnL.merge2 | with_reducible apply OwnL.ext | with_reducible apply OwnL.alloc)); all_goals exact (0 : Nat)), by rw [HST.out, HQ.out]; simp, by omega⟩
        case measure => simp [intOf]; omega
      have g1 : (d.state == 1) = true := by simp [f1]
      by_cases f2 : d.id = but
      case pos =>
        have HQ : Hid (clashes t but d = false) := by show _ = _; rw [hq, g1, show (d.id != but) = false by simp [f2]]; rfl
        clear hq
        go_wp2
        go_quiet (fail)
        go_wp2
        go_roundw
        case rel => exact ⟨n + 1, xs, by go_num, by omega, (by repeat (first | with_reducible exact Below.refl _ _ | with_reducible apply Below.ofExt | with_reducible apply Below.ofAlloc | with_reducible apply Below.drew | with_reducible apply Below.ofDrewN | with_reducible assumption | (with_reducible refine Below.setCell ?_ (by first | exact Nat.le_refl _ | (simp [go_sem]; done) | (simp [go_sem]; omega)) _))), (by (try simp only [← Array.append_assoc]); (repeat (first | with_reducible exact HO.out | with_reducible exact OwnL.dr HO.out | with_reducible apply OwnL.merge2 | with_reducible apply OwnL.ext | with_reducible apply OwnL.alloc)); all_goals exact (0 : Nat)), by rw [HST.out, HQ.out]; simp, by omega⟩
        case measure => simp [intOf]; omega
      have g2 : (d.id != but) = true := by simp [f2]
      cases hc : clash d.touch t with
      | false =>
        have HQ : Hid (clashes t but d = false) := by show _ = _; rw [hq, g1, g2, hc]; rfl
        have HC := Lib.hid hc
        clear hq hc
        go_wp2
        refine wp_region_ord [(0,true),(1,true),(2,true),(3,true),(4,true),(5,true),(6,true),(7,true),(8,true),(9,true),(10,true),(11,true),(12,true),(13,true),(14,true),(15,true),(16,true),(17,true),(18,true),(19,true),(20,true),(21,true),(22,false),(23,true)] 24 (by kernel_rfl) (by kernel_rfl) ?_
        repeat (refine wpOrd_quiet rfl (fun K hK => ?_); go_simp; (try simp (disch := omega) only [IntWalk.i64_in]); refine hK _ ?_; clear hK K)
        refine wpOrd_grow rfl (fun K hK => ?_); go_simp; go_at_call 59; refine (spec_Clash _ d.touch _ t _ (by (try simp only [← Array.append_assoc]); (repeat (first | with_reducible exact qT.out | with_reducible apply View.rdMerge | with_reducible apply View.rdExt | with_reducible apply View.rdAlloc | with_reducible apply View.rdDrew | with_reducible apply View.rdDrewN)); all_goals exact (0 : Nat)) (by (try simp only [← Array.append_assoc]); (repeat (first | with_reducible exact HT.out | with_reducible apply View.rdMerge | with_reducible apply View.rdExt | with_reducible apply View.rdAlloc | with_reducible apply View.rdDrew | with_reducible apply View.rdDrewN)); all_goals exact (0 : Nat))).mono ?_; rintro e w' ⟨rfl, hb⟩; obtain ⟨X, rfl⟩ := hb.ext; clear hb; try go_simp; refine hK _ _ (by show Sx _ _; (try simp only [← Array.append_assoc]); repeat (first | with_reducible exact Sx.drew _ | with_reducible exact Sx.same _ _ _ _ | with_reducible exact ⟨_, rfl⟩ | with_reducible apply Sx.more | with_reducible apply Sx.ext | with_reducible apply Sx.alloc | with_reducible apply Sx.draw | with_reducible exact Sx.refl _)) ?_; clear hK K
        rw [HC.out]
        repeat (refine wpOrd_quiet rfl (fun K hK => ?_); go_simp; (try simp (disch := omega) only [IntWalk.i64_in]); refine hK _ ?_; clear hK K)
        refine wpOrd_nil ?_
        go_wp2
        go_roundw
        case rel => exact ⟨n + 1, xs, by go_num, by omega, (by repeat (first | with_reducible exact Below.refl _ _ | with_reducible apply Below.ofExt | with_reducible apply Below.ofAlloc | with_reducible apply Below.drew | with_reducible apply Below.ofDrewN | with_reducible assumption | (with_reducible refine Below.setCell ?_ (by first | exact Nat.le_refl _ | (simp [go_sem]; done) | (simp [go_sem]; omega)) _))), (by (try simp only [← Array.append_assoc]); (repeat (first | with_reducible exact HO.out | with_reducible exact OwnL.dr HO.out | with_reducible apply OwnL.merge2 | with_reducible apply OwnL.ext | with_reducible apply OwnL.alloc)); all_goals exact (0 : Nat)), by rw [HST.out, HQ.out]; simp, by omega⟩
        case measure => simp [intOf]; omega
      | true =>
        have HQ : Hid (clashes t but d = true) := by show _ = _; rw [hq, g1, g2, hc]; rfl
        have HC := Lib.hid hc
        clear hq hc
        go_wp2
        refine wp_region_ord [(0,true),(1,true),(2,true),(3,true),(4,true),(5,true),(6,true),(7,true),(8,true),(9,true),(10,true),(11,true),(12,true),(13,true),(14,true),(15,true),(16,true),(17,true),(18,true),(19,true),(20,true),(21,true),(22,false),(23,true)] 24 (by kernel_rfl) (by kernel_rfl) ?_
        repeat (refine wpOrd_quiet rfl (fun K hK => ?_); go_simp; (try simp (disch := omega) only [IntWalk.i64_in]); refine hK _ ?_; clear hK K)
        refine wpOrd_grow rfl (fun K hK => ?_); go_simp; go_at_call 59; refine (spec_Clash _ d.touch _ t _ (by (try simp only [← Array.append_assoc]); (repeat (first | with_reducible exact qT.out | with_reducible apply View.rdMerge | with_reducible apply View.rdExt | with_reducible apply View.rdAlloc | with_reducible apply View.rdDrew | with_reducible apply View.rdDrewN)); all_goals exact (0 : Nat)) (by (try simp only [← Array.append_assoc]); (repeat (first | with_reducible exact HT.out | with_reducible apply View.rdMerge | with_reducible apply View.rdExt | with_reducible apply View.rdAlloc | with_reducible apply View.rdDrew | with_reducible apply View.rdDrewN)); all_goals exact (0 : Nat))).mono ?_; rintro e w' ⟨rfl, hb⟩; obtain ⟨X, rfl⟩ := hb.ext; clear hb; try go_simp; refine hK _ _ (by show Sx _ _; (try simp only [← Array.append_assoc]); repeat (first | with_reducible exact Sx.drew _ | with_reducible exact Sx.same _ _ _ _ | with_reducible exact ⟨_, rfl⟩ | with_reducible apply Sx.more | with_reducible apply Sx.ext | with_reducible apply Sx.alloc | with_reducible apply Sx.draw | with_reducible exact Sx.refl _)) ?_; clear hK K
        rw [HC.out]
        repeat (refine wpOrd_quiet rfl (fun K hK => ?_); go_simp; (try simp (disch := omega) only [IntWalk.i64_in]); refine hK _ ?_; clear hK K)
        refine wpOrd_nil ?_
        go_wp2_with (at_builtin; refine Stop.here ?_)
        refine wpList_appL rfl _ _ _ rfl Try.elemIntS (B := (w.alloc (.cells #[.slice ta0 t.reads.length tc0, .slice ta1 t.writes.length tc1] 28)).heap.size) (v := .slice oa xs.length oc) (xs := xs) (R := rInt) (by (try simp only [← Array.append_assoc]); (repeat (first | with_reducible exact HO.out | with_reducible exact OwnL.dr HO.out | with_reducible apply OwnL.merge2 | with_reducible apply OwnL.ext | with_reducible apply OwnL.alloc)); all_goals exact (0 : Nat)) rfl (ys := [d.id]) (RdL.oneAt rInt _ d.id _ rfl _ _ (by simp [World.ext_size])) rfl (by simp only [List.length_singleton]; omega) (by simp only [List.length_singleton]; unfold maxLen; omega) (by simp [World.ext_size]; try omega) ?_
        intro v4 w4 hown4 hgr4 _
        have hb4 : Below (w.alloc (.cells #[.slice ta0 t.reads.length tc0, .slice ta1 t.writes.length tc1] 28)).heap.size (w.alloc (.cells #[.slice ta0 t.reads.length tc0, .slice ta1 t.writes.length tc1] 28)) w4 := Below.appL (R := rInt) (e := 3) (v := .slice oa xs.length oc) (xs := xs) (by repeat (first | with_reducible exact Below.refl _ _ | with_reducible apply Below.ofExt | with_reducible apply Below.ofAlloc | with_reducible apply Below.drew | with_reducible apply Below.ofDrewN | with_reducible assumption | (with_reducible refine Below.setCell ?_ (by first | exact Nat.le_refl _ | (simp [go_sem]; done) | (simp [go_sem]; omega)) _))) hgr4 (by (try simp only [← Array.append_assoc]); (repeat (first | with_reducible exact HO.out | with_reducible exact OwnL.dr HO.out | with_reducible apply OwnL.merge2 | with_reducible apply OwnL.ext | with_reducible apply OwnL.alloc)); all_goals exact (0 : Nat))
        go_wp2
        go_roundw
        case rel => exact ⟨n + 1, _, by go_num, by omega, hb4, hown4, by rw [HST.out, HQ.out]; rfl, by simp; omega⟩
        case measure => simp [intOf]; omega
    case neg =>
      have e : n = ds.length := by omega
      have hx := HXS.out
      rw [e, List.take_length] at hx
      have HF := Lib.hid hx
      clear hx
      go_wp2
      go_ret
      obtain ⟨fp, h1, h2, h3⟩ := own_of_OwnL (HO.out.base (B' := w.heap.size) (by simp))
      rw [HF.out] at h1
      exact ⟨_, fp, by rw [← HF.out]; rfl, ⟨h1, h2, h3⟩, (by repeat (first | with_reducible exact Below.refl _ _ | with_reducible apply Below.ofExt | with_reducible apply Below.ofAlloc | with_reducible apply Below.drew | with_reducible apply Below.ofDrewN | with_reducible assumption | (with_reducible refine Below.setCell ?_ (by first | exact Nat.le_refl _ | (simp [go_sem]; done) | (simp [go_sem]; omega)) _)))⟩
end Go.Proofs.Ytmhopglbgaijiaa
