/- The Ids of the live transactions: the program's and the reference's. Each condition stands in its theorem. -/
import Derived.Test.YtefenfglkfdoaaaCTxS
import Derived.Test.YtefenfglkfdoaaaTInt
set_option linter.unusedVariables false
set_option linter.unusedSimpArgs false
namespace Go.Proofs.Ytefenfglkfdoaaa
open Go.ChangeShapes Go.WideShapes Go.ChangeAt Go.RowKit

def isLive (d : TxD) : Bool := d.state == 1
def liveIds (ds : List TxD) : List Int := (ds.filter isLive).map TxD.id
theorem liveIds_step (ds : List TxD) (n : Nat) (h : n < ds.length) : liveIds (ds.take (n + 1)) = liveIds (ds.take n) ++ (if (ds[n].state == 1) = true then [ds[n].id] else []) := by
  unfold liveIds
  rw [List.take_succ_eq_append_getElem h, List.filter_append, List.map_append]
  congr 1
  by_cases hs : isLive ds[n] = true
  · have : (ds[n].state == 1) = true := hs
    rw [if_pos this, List.filter_cons_of_pos hs]
    rfl
  · have : ¬ (ds[n].state == 1) = true := hs
    rw [if_neg this, List.filter_cons_of_neg hs]
    rfl
theorem own_of_OwnL {e : TypeId} {w : World} {B : Nat} {v : Value} {xs : List Int} (h : OwnL rInt e w B v xs) : ∃ fp : List Nat, (vSlice vInt e).own w fp [v] xs ∧ fp.Nodup ∧ ∀ b ∈ fp, B ≤ b := by
  rcases h.2 with ⟨rfl, h0⟩ | ⟨g, cap, cur, rfl, hg, hh, hn, hm, hsz, ht⟩
  · have : xs = [] := List.eq_nil_of_length_eq_zero h0
    subst this
    exact ⟨[], .inl ⟨rfl, rfl, rfl⟩, List.nodup_nil, by simp⟩
  · exact ⟨[g], vSlice.ownRow hh rfl hn hm hsz ht (fun _ _ => trivial), by simp, by simpa using hg⟩
theorem OwnL.merge2 {α : Type} {R : RowOf α} {e : TypeId} {w : World} {B : Nat} {v : Value} {xs : List α} {bs cs : Array Obj} {d0 dr : Nat} (h : OwnL R e (w.ext ⟨bs, d0⟩) B v xs) : OwnL R e (w.ext ⟨bs ++ cs, dr⟩) B v xs := by
  have := h.ext ⟨cs, dr⟩
  rwa [World.ext_ext] at this
theorem impl_LiveIn1 (cs : List Value) (d : TxD) (w : World) (hs : vTx.rd w cs d) :
    Calls Try.prog 105 #[.agg cs.toArray] w fun e w' => e = .returned (.bool (isLive d)) ∧ Below w.heap.size w w' := by
  obtain ⟨a0, c0, a1, c1, a2, c2, a3, c3, a4, c4, rfl⟩ := vTx_shape hs
  clear hs
  have hq : isLive d = (d.state == 1) := rfl
  have HQ := Lib.hid hq
  clear hq
  go_enter Try.func105, Try.ntmps105
  go_wp2
  go_ret
  exact ⟨by rw [HQ.out]; rfl, (by repeat (first | with_reducible exact Below.refl _ _ | with_reducible apply Below.ofExt | with_reducible apply Below.ofAlloc | with_reducible apply Below.drew | with_reducible apply Below.ofDrewN | with_reducible assumption | (with_reducible refine Below.setCell ?_ (by first | exact Nat.le_refl _ | (simp [go_sem]; done) | (simp [go_sem]; omega)) _)))⟩
set_option maxRecDepth 100000 in
set_option maxHeartbeats 2000000 in
theorem spec_LiveIn (v : Value) (ds : List TxD) (w : World) {e : TypeId} (hs : (vSlice vTx e).rd w [v] ds) (hlen : ds.length ≤ 1048576) :
    Calls Try.prog 51 #[v] w (Made (vSlice vInt 3) w (liveIds ds)) := by
  obtain ⟨ao, cap, rfl, hc1, hc2, hnil, hcell⟩ := vSlice.shape hs
  have HX := Lib.hid hcell
  clear hcell hnil
  unfold maxLen at hc2
  clear hs
  go_enter Try.func51, Try.ntmps51
  go_wp2
  go_loopw [3, 4] (fun o k wr => ∃ (n : Nat) (xs : List Int), k = .int .i64 n ∧ n ≤ ds.length ∧ Below w.heap.size w wr ∧ OwnL rInt 3 wr w.heap.size o xs ∧ xs = liveIds (ds.take n) ∧ xs.length ≤ n) (fun _ k _ => ds.length - (intOf k).toNat)
  case atStart => exact ⟨0, [], rfl, by omega, (by repeat (first | with_reducible exact Below.refl _ _ | with_reducible apply Below.ofExt | with_reducible apply Below.ofAlloc | with_reducible apply Below.drew | with_reducible apply Below.ofDrewN | with_reducible assumption | (with_reducible refine Below.setCell ?_ (by first | exact Nat.le_refl _ | (simp [go_sem]; done) | (simp [go_sem]; omega)) _))), OwnL.empty rInt _ w, rfl, by simp⟩
  case round =>
    obtain ⟨n, xs, rfl, hn, hbel, ho, hxs, hxl⟩ := hrel
    obtain ⟨X, rfl⟩ := hbel.ext
    obtain ⟨oa, oc, rfl⟩ := ho.rd.form
    have HO := Lib.hid ho
    have HXS := Lib.hid hxs
    clear ho hxs
    by_cases hlt : (n : Int) < ds.length
    case pos =>
      have hk : n < ds.length := by omega
      obtain ⟨b, off, cs, rfl, hbly, hrd, hcell⟩ := HX.out n hk
      have hst := liveIds_step ds n hk
      generalize ds[n] = e at hrd hst
      have HD := Lib.hid hrd
      obtain ⟨a0, c0, a1, c1, a2, c2, a3, c3, a4, c4, rfl⟩ := vTx_shape hrd
      clear hrd
      have y0 := hcell 0 _ rfl
      have y1 := hcell 1 _ rfl
      have y2 := hcell 2 _ rfl
      have y3 := hcell 3 _ rfl
      have y4 := hcell 4 _ rfl
      have y5 := hcell 5 _ rfl
      have y6 := hcell 6 _ rfl
      have y7 := hcell 7 _ rfl
      have y8 := hcell 8 _ rfl
      have y9 := hcell 9 _ rfl
      clear hcell
      simp only [show vTx.k = 10 from rfl, Nat.add_zero] at y0 y1 y2 y3 y4 y5 y6 y7 y8 y9
      rw [← HXS.out] at hst
      have HST := Lib.hid hst
      clear hst
      have q1 : b < w.heap.size + X.bs.size := by omega
      have q2 : ¬ b = w.heap.size + X.bs.size := by omega
      have q3 : b < w.heap.size + X.bs.size + 1 := by omega
      cases hg : (e.state == 1) with
      | true =>
        have HG : Hid (isLive e = true) := hg
        have HG2 := Lib.hid hg
        go_wp2_with (at_builtin; refine Stop.here ?_)
        refine wpList_appL rfl _ _ _ rfl Try.elemIntS (B := w.heap.size) (v := .slice oa xs.length oc) (xs := xs) (R := rInt) (by (try simp only [← Array.append_assoc]); (repeat (first | with_reducible exact HO.out | with_reducible apply OwnL.merge2 | with_reducible apply OwnL.ext | with_reducible apply OwnL.alloc)); all_goals exact (0 : Nat)) rfl (ys := [e.id]) (RdL.oneAt rInt _ e.id _ rfl _ _ (by simp [World.ext_size])) rfl (by simp only [List.length_singleton]; omega) (by simp only [List.length_singleton]; unfold maxLen; omega) (by simp [World.ext_size]; try omega) ?_
        intro v4 w4 hown4 hgr4 _
        have hb4 : Below w.heap.size w w4 := Below.appL (R := rInt) (e := 3) (v := .slice oa xs.length oc) (xs := xs) (by repeat (first | with_reducible exact Below.refl _ _ | with_reducible apply Below.ofExt | with_reducible apply Below.ofAlloc | with_reducible apply Below.drew | with_reducible apply Below.ofDrewN | with_reducible assumption | (with_reducible refine Below.setCell ?_ (by first | exact Nat.le_refl _ | (simp [go_sem]; done) | (simp [go_sem]; omega)) _))) hgr4 (by (try simp only [← Array.append_assoc]); (repeat (first | with_reducible exact HO.out | with_reducible apply OwnL.merge2 | with_reducible apply OwnL.ext | with_reducible apply OwnL.alloc)); all_goals exact (0 : Nat))
        go_wp2
        go_roundw
        case rel => exact ⟨n + 1, _, by go_num, by omega, hb4, hown4, by rw [HST.out, HG2.out]; rfl, by simp; omega⟩
        case measure => simp [intOf]; omega
      | false =>
        have HG : Hid (isLive e = false) := hg
        have HG2 := Lib.hid hg
        go_wp2
        go_roundw
        case rel => exact ⟨n + 1, xs, by go_num, by omega, (by repeat (first | with_reducible exact Below.refl _ _ | with_reducible apply Below.ofExt | with_reducible apply Below.ofAlloc | with_reducible apply Below.drew | with_reducible apply Below.ofDrewN | with_reducible assumption | (with_reducible refine Below.setCell ?_ (by first | exact Nat.le_refl _ | (simp [go_sem]; done) | (simp [go_sem]; omega)) _))), (by (try simp only [← Array.append_assoc]); (repeat (first | with_reducible exact HO.out | with_reducible apply OwnL.merge2 | with_reducible apply OwnL.ext | with_reducible apply OwnL.alloc)); all_goals exact (0 : Nat)), by rw [HST.out, HG2.out]; simp, by omega⟩
        case measure => simp [intOf]; omega
    case neg =>
      have e : n = ds.length := by omega
      have hx := HXS.out
      rw [e, List.take_length] at hx
      have HF := Lib.hid hx
      clear hx
      go_wp2
      go_ret
      obtain ⟨fp, h1, h2, h3⟩ := own_of_OwnL HO.out
      rw [HF.out] at h1
      exact ⟨_, fp, by rw [← HF.out]; rfl, ⟨h1, h2, h3⟩, (by repeat (first | with_reducible exact Below.refl _ _ | with_reducible apply Below.ofExt | with_reducible apply Below.ofAlloc | with_reducible apply Below.drew | with_reducible apply Below.ofDrewN | with_reducible assumption | (with_reducible refine Below.setCell ?_ (by first | exact Nat.le_refl _ | (simp [go_sem]; done) | (simp [go_sem]; omega)) _)))⟩
set_option maxRecDepth 100000 in
set_option maxHeartbeats 2000000 in
theorem impl_idsIn (v : Value) (ds : List TxD) (w : World) {e : TypeId} (hs : (vSlice vTx e).rd w [v] ds) (hlen : ds.length ≤ 1048576) :
    Calls Try.prog 104 #[v, .func (Fn.func 105) #[] #[]] w (Made (vSlice vInt 3) w (liveIds ds)) := by
  obtain ⟨ao, cap, rfl, hc1, hc2, hnil, hcell⟩ := vSlice.shape hs
  have HX := Lib.hid hcell
  clear hcell hnil
  unfold maxLen at hc2
  clear hs
  go_enter Try.func104, Try.ntmps104
  go_wp2
  go_loopw [5, 10] (fun o k wr => ∃ (n : Nat) (xs : List Int), k = .int .i64 n ∧ n ≤ ds.length ∧ Below w.heap.size w wr ∧ OwnL rInt 3 wr w.heap.size o xs ∧ xs = liveIds (ds.take n) ∧ xs.length ≤ n) (fun _ k _ => ds.length - (intOf k).toNat)
  case atStart => exact ⟨0, [], rfl, by omega, (by repeat (first | with_reducible exact Below.refl _ _ | with_reducible apply Below.ofExt | with_reducible apply Below.ofAlloc | with_reducible apply Below.drew | with_reducible apply Below.ofDrewN | with_reducible assumption | (with_reducible refine Below.setCell ?_ (by first | exact Nat.le_refl _ | (simp [go_sem]; done) | (simp [go_sem]; omega)) _))), OwnL.nil rInt _ w _, rfl, by simp⟩
  case round =>
    obtain ⟨n, xs, rfl, hn, hbel, ho, hxs, hxl⟩ := hrel
    obtain ⟨X, rfl⟩ := hbel.ext
    obtain ⟨oa, oc, rfl⟩ := ho.rd.form
    have HO := Lib.hid ho
    have HXS := Lib.hid hxs
    clear ho hxs
    by_cases hlt : (n : Int) < ds.length
    case pos =>
      have hk : n < ds.length := by omega
      obtain ⟨b, off, cs, rfl, hbly, hrd, hcell⟩ := HX.out n hk
      have hst := liveIds_step ds n hk
      generalize ds[n] = e at hrd hst
      have HD := Lib.hid hrd
      obtain ⟨a0, c0, a1, c1, a2, c2, a3, c3, a4, c4, rfl⟩ := vTx_shape hrd
      clear hrd
      have y0 := hcell 0 _ rfl
      have y1 := hcell 1 _ rfl
      have y2 := hcell 2 _ rfl
      have y3 := hcell 3 _ rfl
      have y4 := hcell 4 _ rfl
      have y5 := hcell 5 _ rfl
      have y6 := hcell 6 _ rfl
      have y7 := hcell 7 _ rfl
      have y8 := hcell 8 _ rfl
      have y9 := hcell 9 _ rfl
      clear hcell
      simp only [show vTx.k = 10 from rfl, Nat.add_zero] at y0 y1 y2 y3 y4 y5 y6 y7 y8 y9
      rw [← HXS.out] at hst
      have HST := Lib.hid hst
      clear hst
      have q1 : b < w.heap.size + X.bs.size := by omega
      have q2 : ¬ b = w.heap.size + X.bs.size := by omega
      have q3 : b < w.heap.size + X.bs.size + 1 := by omega
      cases hg : (e.state == 1) with
      | true =>
        have HG : Hid (isLive e = true) := hg
        have HG2 := Lib.hid hg
        clear hg
        go_wp2_with fail
        (go_at_call 105; refine (impl_LiveIn1 _ e _ (by (try simp only [← Array.append_assoc]); (repeat (first | with_reducible exact HD.out | with_reducible apply View.rdMerge | with_reducible apply View.rdExt | with_reducible apply View.rdAlloc | with_reducible apply View.rdDrew | with_reducible apply View.rdDrewN)); all_goals exact (0 : Nat))).mono ?_; rintro e w' ⟨rfl, hb⟩; obtain ⟨X, rfl⟩ := hb.ext; clear hb)
        rw [HG.out]
        go_wp2_with (at_builtin; refine Stop.here ?_)
        refine wpList_appL rfl _ _ _ rfl Try.elemIntS (B := w.heap.size) (v := .slice oa xs.length oc) (xs := xs) (R := rInt) (by (try simp only [← Array.append_assoc]); (repeat (first | with_reducible exact HO.out | with_reducible apply OwnL.merge2 | with_reducible apply OwnL.ext | with_reducible apply OwnL.alloc)); all_goals exact (0 : Nat)) rfl (ys := [e.id]) (RdL.oneAt rInt _ e.id _ rfl _ _ (by simp [World.ext_size])) rfl (by simp only [List.length_singleton]; omega) (by simp only [List.length_singleton]; unfold maxLen; omega) (by simp [World.ext_size]; try omega) ?_
        intro v4 w4 hown4 hgr4 _
        have hb4 : Below w.heap.size w w4 := Below.appL (R := rInt) (e := 3) (v := .slice oa xs.length oc) (xs := xs) (by repeat (first | with_reducible exact Below.refl _ _ | with_reducible apply Below.ofExt | with_reducible apply Below.ofAlloc | with_reducible apply Below.drew | with_reducible apply Below.ofDrewN | with_reducible assumption | (with_reducible refine Below.setCell ?_ (by first | exact Nat.le_refl _ | (simp [go_sem]; done) | (simp [go_sem]; omega)) _))) hgr4 (by (try simp only [← Array.append_assoc]); (repeat (first | with_reducible exact HO.out | with_reducible apply OwnL.merge2 | with_reducible apply OwnL.ext | with_reducible apply OwnL.alloc)); all_goals exact (0 : Nat))
        go_wp2
        go_roundw
        case rel => exact ⟨n + 1, _, by go_num, by omega, hb4, hown4, by rw [HST.out, HG2.out]; rfl, by simp; omega⟩
        case measure => simp [intOf]; omega
      | false =>
        have HG : Hid (isLive e = false) := hg
        have HG2 := Lib.hid hg
        clear hg
        go_wp2_with fail
        (go_at_call 105; refine (impl_LiveIn1 _ e _ (by (try simp only [← Array.append_assoc]); (repeat (first | with_reducible exact HD.out | with_reducible apply View.rdMerge | with_reducible apply View.rdExt | with_reducible apply View.rdAlloc | with_reducible apply View.rdDrew | with_reducible apply View.rdDrewN)); all_goals exact (0 : Nat))).mono ?_; rintro e w' ⟨rfl, hb⟩; obtain ⟨X, rfl⟩ := hb.ext; clear hb)
        rw [HG.out]
        go_wp2
        go_roundw
        case rel => exact ⟨n + 1, xs, by go_num, by omega, (by repeat (first | with_reducible exact Below.refl _ _ | with_reducible apply Below.ofExt | with_reducible apply Below.ofAlloc | with_reducible apply Below.drew | with_reducible apply Below.ofDrewN | with_reducible assumption | (with_reducible refine Below.setCell ?_ (by first | exact Nat.le_refl _ | (simp [go_sem]; done) | (simp [go_sem]; omega)) _))), (by (try simp only [← Array.append_assoc]); (repeat (first | with_reducible exact HO.out | with_reducible apply OwnL.merge2 | with_reducible apply OwnL.ext | with_reducible apply OwnL.alloc)); all_goals exact (0 : Nat)), by rw [HST.out, HG2.out]; simp, by omega⟩
        case measure => simp [intOf]; omega
    case neg =>
      have e : n = ds.length := by omega
      have hx := HXS.out
      rw [e, List.take_length] at hx
      have HF := Lib.hid hx
      clear hx
      go_wp2
      go_ret
      obtain ⟨fp, h1, h2, h3⟩ := own_of_OwnL HO.out
      rw [HF.out] at h1
      exact ⟨_, fp, by rw [← HF.out]; rfl, ⟨h1, h2, h3⟩, (by repeat (first | with_reducible exact Below.refl _ _ | with_reducible apply Below.ofExt | with_reducible apply Below.ofAlloc | with_reducible apply Below.drew | with_reducible apply Below.ofDrewN | with_reducible assumption | (with_reducible refine Below.setCell ?_ (by first | exact Nat.le_refl _ | (simp [go_sem]; done) | (simp [go_sem]; omega)) _)))⟩
theorem impl_LiveIn (v : Value) (ds : List TxD) (w : World) {e : TypeId} (hs : (vSlice vTx e).rd w [v] ds) (hlen : ds.length ≤ 1048576) :
    Calls Try.prog 52 #[v] w (Made (vSlice vInt 3) w (liveIds ds)) := by
  obtain ⟨a0, c0, rfl⟩ := vSlice.form hs
  go_enter Try.func52, Try.ntmps52
  go_wp2_with fail
  (go_at_call 104; refine (impl_idsIn _ ds _ hs hlen).mono ?_; rintro e w' ⟨u, fp, rfl, hf, hb⟩)
  obtain ⟨a1, c1, rfl⟩ := vSlice.form (View.toRd _ hf.own)
  go_wp2
  go_ret
  exact ⟨_, fp, rfl, hf, hb⟩
end Go.Proofs.Ytefenfglkfdoaaa
