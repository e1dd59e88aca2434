/- The law of LiveIn: the program's and the reference's. Each condition stands in its theorem. -/
import Derived.Test.YtefenfglkfdoaaaLive
import Derived.Test.YtefenfglkfdoaaaMarkS
set_option linter.unusedVariables false
set_option linter.unusedSimpArgs false
namespace Go.Proofs.Ytefenfglkfdoaaa
open Go.ChangeShapes Go.WideShapes Go.ChangeAt Go.RowKit

theorem cntTx_le (d : TxD) : cntTx d ≤ 6 * d.wt := by
  unfold cntTx cntTouch TxD.wt wtStrs wtS
  omega
theorem cntTxS_le (ds : List TxD) : cntTxS ds ≤ 6 * wtS TxD.wt ds := by
  unfold cntTxS wtS
  induction ds with
  | nil => simp
  | cons x xs ih =>
    have := cntTx_le x
    simp only [List.map_cons, List.sum_cons, List.length_cons]
    omega
theorem liveIds_len (ds : List TxD) : (liveIds ds).length ≤ ds.length := by
  unfold liveIds
  rw [List.length_map]
  exact List.length_filter_le _ _
set_option maxRecDepth 100000 in
set_option maxHeartbeats 4000000 in
theorem law_LiveIn (v0 : Value) (d0 : List TxD) (w : World) (hs0 : (vSlice vTx 38).rd w [v0] d0) : Calls Try.prog 13 #[v0] w (Yes w) := by
  unfold Yes
  obtain ⟨a0, c0, rfl⟩ := vSlice.form hs0
  have H0 := Lib.hid hs0
  clear hs0
  go_enter Try.func13, Try.ntmps13
  go_wp2_with fail
  (go_at_call 31; refine (laws_szTxS _ d0 _ _ (by (try simp only [← Array.append_assoc]); (repeat (first | with_reducible exact H0.out | with_reducible apply View.rdMerge | with_reducible apply View.rdExt | with_reducible apply View.rdAlloc | with_reducible apply View.rdDrew)); all_goals exact (0 : Nat)) (by omega) (by omega)).mono ?_; rintro e w' ⟨rfl, hb⟩; obtain ⟨X, rfl⟩ := hb.ext; clear hb)
  have q0e : ∃ q : Nat, q = wtS TxD.wt d0 := ⟨_, rfl⟩
  obtain ⟨q0, q0e⟩ := q0e
  rw [← q0e]
  have Q0 := Lib.hid q0e
  clear q0e
  by_cases g0 : (q0 : Int) ≤ 1048576
  case neg =>
    rw [leftOf_none g0]
    go_wp2
    go_ret
    exact ⟨rfl, (by repeat (first | with_reducible exact Below.refl _ _ | with_reducible apply Below.ofExt | with_reducible apply Below.ofAlloc | with_reducible apply Below.drew | with_reducible apply Below.ofDrewN | with_reducible assumption | (with_reducible refine Below.setCell ?_ (by first | exact Nat.le_refl _ | (simp [go_sem]; done) | (simp [go_sem]; omega)) _)))⟩
  rw [leftOf_pos g0]
  have n0 : ¬ (1048576 - (q0 : Int)) < 0 := by omega
  have L0 : Hid (wtS TxD.wt d0 ≤ 1048576) := by
    have := Q0.out
    show _ ≤ _
    omega
  have HLEN : Hid (d0.length ≤ 1048576) := (TxS_wt L0.out).1
  have HIL : Hid ((liveIds d0).length ≤ 1048576) := Nat.le_trans (liveIds_len d0) HLEN.out
  have HCNT : Hid ((1 : Int) + (cntTxS d0 : Nat) ≤ 4294960000) := by
    have := cntTxS_le d0
    have := L0.out
    show _ ≤ _
    omega
  obtain ⟨ids, hids⟩ : ∃ ids, ids = liveIds d0 := ⟨_, rfl⟩
  rw [← hids] at HIL
  have HIDS := Lib.hid hids
  clear hids
  go_wp2_with fail
  (go_at_call 33; refine (laws_toTxS _ d0 _ (by (try simp only [← Array.append_assoc]); (repeat (first | with_reducible exact H0.out | with_reducible apply View.rdMerge | with_reducible apply View.rdExt | with_reducible apply View.rdAlloc | with_reducible apply View.rdDrew)); all_goals exact (0 : Nat)) L0.out).mono ?_; rintro e w' ⟨u, fpA, rfl, hf, hb⟩; obtain ⟨XA, rfl⟩ := hb.ext; clear hb; obtain ⟨xA, yA, rfl⟩ := vSlice.form (View.toRd _ hf.own); have ho := hf.own; have hs := hf.sp; (try simp only [World.ext_ext, ← Array.append_assoc] at ho); (try simp only [World.ext_size, Array.size_append] at hs); have OA := Lib.hid ho; have SA := Lib.hid hs; clear hf ho hs)
  go_wp2_with fail
  (go_at_call 51; refine (spec_LiveIn _ d0 _ (View.toRd _ (by (try simp only [← Array.append_assoc]); (repeat (first | with_reducible exact OA.out | with_reducible apply View.ownMerge | with_reducible apply View.ownExt | with_reducible apply View.ownAlloc)); all_goals exact (0 : Nat))) HLEN.out).mono ?_; rintro e w' ⟨u, fpW, rfl, hf, hb⟩; obtain ⟨XW, rfl⟩ := hb.ext; clear hb; obtain ⟨xW, yW, rfl⟩ := vSlice.form (View.toRd _ hf.own); have ho := hf.own; have hs := hf.sp; (try simp only [World.ext_ext, ← Array.append_assoc] at ho); (try simp only [World.ext_size, Array.size_append] at hs); have OW := Lib.hid ho; have SW := Lib.hid hs; clear hf ho hs)
  rw [← HIDS.out] at OW ⊢
  go_wp2_with fail
  (go_at_call 33; refine (laws_toTxS _ d0 _ (by (try simp only [← Array.append_assoc]); (repeat (first | with_reducible exact H0.out | with_reducible apply View.rdMerge | with_reducible apply View.rdExt | with_reducible apply View.rdAlloc | with_reducible apply View.rdDrew)); all_goals exact (0 : Nat)) L0.out).mono ?_; rintro e w' ⟨u, fpK, rfl, hf, hb⟩; obtain ⟨XK, rfl⟩ := hb.ext; clear hb; obtain ⟨xK, yK, rfl⟩ := vSlice.form (View.toRd _ hf.own); have ho := hf.own; have hs := hf.sp; (try simp only [World.ext_ext, ← Array.append_assoc] at ho); (try simp only [World.ext_size, Array.size_append] at hs); have OK := Lib.hid ho; have SK := Lib.hid hs; clear hf ho hs)
  go_wp2_with fail
  (go_at_call 52; refine (impl_LiveIn _ d0 _ (View.toRd _ (by (try simp only [← Array.append_assoc]); (repeat (first | with_reducible exact OK.out | with_reducible apply View.ownMerge | with_reducible apply View.ownExt | with_reducible apply View.ownAlloc)); all_goals exact (0 : Nat))) HLEN.out).mono ?_; rintro e w' ⟨u, fpG, rfl, hf, hb⟩; obtain ⟨XG, rfl⟩ := hb.ext; clear hb; obtain ⟨xG, yG, rfl⟩ := vSlice.form (View.toRd _ hf.own); have ho := hf.own; have hs := hf.sp; (try simp only [World.ext_ext, ← Array.append_assoc] at ho); (try simp only [World.ext_size, Array.size_append] at hs); have OG := Lib.hid ho; have SG := Lib.hid hs; clear hf ho hs)
  rw [← HIDS.out] at OG ⊢
  go_wp2_with fail
  (go_at_call 45; refine (laws_eqIntS _ _ ids _ (View.toRd _ (by (try simp only [← Array.append_assoc]); (repeat (first | with_reducible exact OG.out | with_reducible apply View.ownMerge | with_reducible apply View.ownExt | with_reducible apply View.ownAlloc)); all_goals exact (0 : Nat))) (View.toRd _ (by (try simp only [← Array.append_assoc]); (repeat (first | with_reducible exact OW.out | with_reducible apply View.ownMerge | with_reducible apply View.ownExt | with_reducible apply View.ownAlloc)); all_goals exact (0 : Nat)))).mono ?_; rintro e w' ⟨rfl, hb⟩; obtain ⟨X, rfl⟩ := hb.ext; clear hb)
  go_wp2_with fail
  (go_at_call 33; refine (laws_toTxS _ d0 _ (by (try simp only [← Array.append_assoc]); (repeat (first | with_reducible exact H0.out | with_reducible apply View.rdMerge | with_reducible apply View.rdExt | with_reducible apply View.rdAlloc | with_reducible apply View.rdDrew)); all_goals exact (0 : Nat)) L0.out).mono ?_; rintro e w' ⟨u, fpE, rfl, hf, hb⟩; obtain ⟨XE, rfl⟩ := hb.ext; clear hb; obtain ⟨xE, yE, rfl⟩ := vSlice.form (View.toRd _ hf.own); have ho := hf.own; have hs := hf.sp; (try simp only [World.ext_ext, ← Array.append_assoc] at ho); (try simp only [World.ext_size, Array.size_append] at hs); have OE := Lib.hid ho; have SE := Lib.hid hs; clear hf ho hs)
  go_wp2_with fail
  (go_at_call 35; refine (laws_eqTxS _ _ d0 _ (View.toRd _ (by (try simp only [← Array.append_assoc]); (repeat (first | with_reducible exact OK.out | with_reducible apply View.ownMerge | with_reducible apply View.ownExt | with_reducible apply View.ownAlloc)); all_goals exact (0 : Nat))) (View.toRd _ (by (try simp only [← Array.append_assoc]); (repeat (first | with_reducible exact OE.out | with_reducible apply View.ownMerge | with_reducible apply View.ownExt | with_reducible apply View.ownAlloc)); all_goals exact (0 : Nat)))).mono ?_; rintro e w' ⟨rfl, hb⟩; obtain ⟨X, rfl⟩ := hb.ext; clear hb)
  have DWK : Hid (∀ x ∈ fpW, x ∉ fpK) := fun x hx h => by have h1 := SW.out.hi x hx; have h2 := SK.out.lo x h; omega
  have DGK : Hid (∀ x ∈ fpG, x ∉ fpK) := fun x hx h => by have h1 := SG.out.lo x hx; have h2 := SK.out.hi x h; omega
  have DWG : Hid (∀ x ∈ fpW, x ∉ fpG) := fun x hx h => by have h1 := SW.out.hi x hx; have h2 := SG.out.lo x h; omega
  have LK : Hid (∀ x ∈ fpK, w.heap.size ≤ x) := fun x hx => by have h2 := SK.out.lo x hx; omega
  have LG : Hid (∀ x ∈ fpG, w.heap.size ≤ x) := fun x hx => by have h2 := SG.out.lo x hx; omega
  have NK : Hid fpK.Nodup := SK.out.nodup
  go_wp2_with fail
  (go_at_call 53; refine (laws_markTxS _ fpK d0 1 _ (by (try simp only [← Array.append_assoc]); (repeat (first | with_reducible exact OK.out | with_reducible apply View.ownMerge | with_reducible apply View.ownExt | with_reducible apply View.ownAlloc)); all_goals exact (0 : Nat)) NK.out (by omega) HCNT.out).mono ?_; rintro e w' ⟨rfl, hu⟩)
  have og := View.ownUpon (by (try simp only [← Array.append_assoc]); (repeat (first | with_reducible exact OG.out | with_reducible apply View.ownMerge | with_reducible apply View.ownExt | with_reducible apply View.ownAlloc)); all_goals exact (0 : Nat)) hu DGK.out
  have ow := View.ownUpon (by (try simp only [← Array.append_assoc]); (repeat (first | with_reducible exact OW.out | with_reducible apply View.ownMerge | with_reducible apply View.ownExt | with_reducible apply View.ownAlloc)); all_goals exact (0 : Nat)) hu DWK.out
  have hbw := Below.trans (show Below w.heap.size w _ from (by repeat (first | with_reducible exact Below.refl _ _ | with_reducible apply Below.ofExt | with_reducible apply Below.ofAlloc | with_reducible apply Below.drew | with_reducible apply Below.ofDrewN | with_reducible assumption | (with_reducible refine Below.setCell ?_ (by first | exact Nat.le_refl _ | (simp [go_sem]; done) | (simp [go_sem]; omega)) _)))) (hu.toBelow (by simp [World.ext_size]; try omega) LK.out)
  obtain ⟨Z1, rfl⟩ := hbw.ext
  have PG := Lib.hid og
  have PW := Lib.hid ow
  clear hu og ow hbw OK OG OW OE OA
  have hk1 : ¬ (1 : Int) + (cntTxS d0 : Nat) < 0 := by omega
  go_wp2_with fail
  (go_at_call 45; refine (laws_eqIntS _ _ ids _ (View.toRd _ (by (try simp only [← Array.append_assoc]); (repeat (first | with_reducible exact PG.out | with_reducible apply View.ownMerge | with_reducible apply View.ownExt | with_reducible apply View.ownAlloc)); all_goals exact (0 : Nat))) (View.toRd _ (by (try simp only [← Array.append_assoc]); (repeat (first | with_reducible exact PW.out | with_reducible apply View.ownMerge | with_reducible apply View.ownExt | with_reducible apply View.ownAlloc)); all_goals exact (0 : Nat)))).mono ?_; rintro e w' ⟨rfl, hb⟩; obtain ⟨X, rfl⟩ := hb.ext; clear hb)
  go_wp2_with fail
  (go_at_call 54; refine (laws_markIntS _ fpG ids 1 _ (by (try simp only [← Array.append_assoc]); (repeat (first | with_reducible exact PG.out | with_reducible apply View.ownMerge | with_reducible apply View.ownExt | with_reducible apply View.ownAlloc)); all_goals exact (0 : Nat)) (by omega) (by have := HIL.out; omega)).mono ?_; rintro e w' ⟨rfl, hm, hu⟩)
  have ow := View.ownUpon (by (try simp only [← Array.append_assoc]); (repeat (first | with_reducible exact PW.out | with_reducible apply View.ownMerge | with_reducible apply View.ownExt | with_reducible apply View.ownAlloc)); all_goals exact (0 : Nat)) hu DWG.out
  have hbw := Below.trans (show Below w.heap.size w _ from (by repeat (first | with_reducible exact Below.refl _ _ | with_reducible apply Below.ofExt | with_reducible apply Below.ofAlloc | with_reducible apply Below.drew | with_reducible apply Below.ofDrewN | with_reducible assumption | (with_reducible refine Below.setCell ?_ (by first | exact Nat.le_refl _ | (simp [go_sem]; done) | (simp [go_sem]; omega)) _)))) (hu.toBelow (by simp [World.ext_size]; try omega) LG.out)
  obtain ⟨Z2, rfl⟩ := hbw.ext
  have RG := Lib.hid hm
  have RW := Lib.hid ow
  clear hu hm ow hbw PG PW
  go_wp2_with fail
  (go_at_call 55; refine (laws_heldIntS _ 1 ids.length _ (View.toRd _ (by (try simp only [← Array.append_assoc]); (repeat (first | with_reducible exact RG.out | with_reducible apply View.ownMerge | with_reducible apply View.ownExt | with_reducible apply View.ownAlloc)); all_goals exact (0 : Nat))) (by omega) (by have := HIL.out; omega)).mono ?_; rintro e w' ⟨rfl, hb⟩; obtain ⟨X, rfl⟩ := hb.ext; clear hb)
  have hk2 : ¬ (1 : Int) + (1 * ids.length : Nat) < 0 := by omega
  go_wp2_with fail
  (go_at_call 33; refine (laws_toTxS _ d0 _ (by (try simp only [← Array.append_assoc]); (repeat (first | with_reducible exact H0.out | with_reducible apply View.rdMerge | with_reducible apply View.rdExt | with_reducible apply View.rdAlloc | with_reducible apply View.rdDrew)); all_goals exact (0 : Nat)) L0.out).mono ?_; rintro e w' ⟨u, fpB, rfl, hf, hb⟩; obtain ⟨XB, rfl⟩ := hb.ext; clear hb; obtain ⟨xB, yB, rfl⟩ := vSlice.form (View.toRd _ hf.own); have ho := hf.own; have hs := hf.sp; (try simp only [World.ext_ext, ← Array.append_assoc] at ho); (try simp only [World.ext_size, Array.size_append] at hs); have OB := Lib.hid ho; have SB := Lib.hid hs; clear hf ho hs)
  go_wp2_with fail
  (go_at_call 52; refine (impl_LiveIn _ d0 _ (View.toRd _ (by (try simp only [← Array.append_assoc]); (repeat (first | with_reducible exact OB.out | with_reducible apply View.ownMerge | with_reducible apply View.ownExt | with_reducible apply View.ownAlloc)); all_goals exact (0 : Nat))) HLEN.out).mono ?_; rintro e w' ⟨u, fpH, rfl, hf, hb⟩; obtain ⟨XH, rfl⟩ := hb.ext; clear hb; obtain ⟨xH, yH, rfl⟩ := vSlice.form (View.toRd _ hf.own); have ho := hf.own; have hs := hf.sp; (try simp only [World.ext_ext, ← Array.append_assoc] at ho); (try simp only [World.ext_size, Array.size_append] at hs); have OH := Lib.hid ho; have SH := Lib.hid hs; clear hf ho hs)
  rw [← HIDS.out] at OH ⊢
  go_wp2_with fail
  (go_at_call 45; refine (laws_eqIntS _ _ ids _ (View.toRd _ (by (try simp only [← Array.append_assoc]); (repeat (first | with_reducible exact OH.out | with_reducible apply View.ownMerge | with_reducible apply View.ownExt | with_reducible apply View.ownAlloc)); all_goals exact (0 : Nat))) (View.toRd _ (by (try simp only [← Array.append_assoc]); (repeat (first | with_reducible exact RW.out | with_reducible apply View.ownMerge | with_reducible apply View.ownExt | with_reducible apply View.ownAlloc)); all_goals exact (0 : Nat)))).mono ?_; rintro e w' ⟨rfl, hb⟩; obtain ⟨X, rfl⟩ := hb.ext; clear hb)
  go_wp2_with fail
  (go_at_call 55; refine (laws_heldIntS _ 1 ids.length _ (View.toRd _ (by (try simp only [← Array.append_assoc]); (repeat (first | with_reducible exact RG.out | with_reducible apply View.ownMerge | with_reducible apply View.ownExt | with_reducible apply View.ownAlloc)); all_goals exact (0 : Nat))) (by omega) (by have := HIL.out; omega)).mono ?_; rintro e w' ⟨rfl, hb⟩; obtain ⟨X, rfl⟩ := hb.ext; clear hb)
  go_wp2
  go_ret
  exact ⟨rfl, (by repeat (first | with_reducible exact Below.refl _ _ | with_reducible apply Below.ofExt | with_reducible apply Below.ofAlloc | with_reducible apply Below.drew | with_reducible apply Below.ofDrewN | with_reducible assumption | (with_reducible refine Below.setCell ?_ (by first | exact Nat.le_refl _ | (simp [go_sem]; done) | (simp [go_sem]; omega)) _)))⟩
end Go.Proofs.Ytefenfglkfdoaaa
