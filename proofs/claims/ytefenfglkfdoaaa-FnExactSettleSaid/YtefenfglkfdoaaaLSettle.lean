/- The law of Settle: the program's and the reference's. Each condition stands in its theorem. -/
import Derived.Test.YtefenfglkfdoaaaSettle
import Derived.Test.YtefenfglkfdoaaaMarkS
set_option linter.unusedVariables false
set_option linter.unusedSimpArgs false
namespace Go.Proofs.Ytefenfglkfdoaaa
open Go.ChangeShapes Go.WideShapes Go.ChangeAt Go.RowKit

theorem alloc_sz (W : World) (o : Obj) : (W.alloc o).heap.size = W.heap.size + 1 := by simp
theorem _root_.Go.World.block_ext1 (w : World) (o : Obj) (X : Ext) (p : Obj) (Y : Ext) : ((((w.alloc o).ext X).alloc p).ext Y).heap[w.heap.size]? = some o := by
  rw [World.ext_get _ _ (by simp [World.ext_size]; omega)]
  show ((((w.alloc o).ext X).heap).push p)[w.heap.size]? = _
  rw [Array.getElem?_push, if_neg (by have := World.lt_of_get (World.block_ext0 w o X); omega)]
  exact World.block_ext0 w o X
theorem cntTouch_le (d : TouchD) : cntTouch d ≤ 6 * d.wt := by
  unfold cntTouch TouchD.wt wtStrs wtS
  omega
theorem cntTx_le (d : TxD) : cntTx d ≤ 6 * d.wt := by
  unfold cntTx cntTouch TxD.wt wtStrs wtS
  omega
theorem cntTxS_le (ds : List TxD) : cntTxS ds ≤ 6 * wtS TxD.wt ds := by
  unfold cntTxS wtS
  induction ds with
  | nil => simp
  | cons x xs ih =>
    have := cntTx_le x
    simp only [List.map_cons, List.sum_cons, List.length_cons]
    omega
theorem clashIds_len (t : TouchD) (but : Int) (ds : List TxD) : (clashIds t but ds).length ≤ ds.length := by
  unfold clashIds
  rw [List.length_map]
  exact List.length_filter_le _ _
theorem settleIds_len (ds : List TxD) (x : TxD) (t : TouchD) : (settleIds ds x t).length ≤ ds.length := by
  unfold settleIds
  split
  · exact clashIds_len _ _ _
  · simp
set_option maxRecDepth 100000 in
set_option maxHeartbeats 4000000 in
theorem law_Settle (v0 : Value) (d0 : List TxD) (cs1 : List Value) (d1 : TxD) (cs2 : List Value) (d2 : TouchD) (w : World) (hs0 : (vSlice vTx 38).rd w [v0] d0) (hs1 : vTx.rd w cs1 d1) (hs2 : vTouch.rd w cs2 d2) : Calls Try.prog 17 #[v0, .agg cs1.toArray, .agg cs2.toArray] w (Yes w) := by
  unfold Yes
  obtain ⟨a0, c0, rfl⟩ := vSlice.form hs0
  have H0 := Lib.hid hs0
  clear hs0
  obtain ⟨a1_0, c1_0, a1_1, c1_1, a1_2, c1_2, a1_3, c1_3, a1_4, c1_4, rfl⟩ := vTx_shape hs1
  have H1 := Lib.hid hs1
  clear hs1
  obtain ⟨a2_0, c2_0, a2_1, c2_1, rfl⟩ := vTouch_shape hs2
  have H2 := Lib.hid hs2
  clear hs2
  go_enter Try.func17, Try.ntmps17
  go_wp2_with fail
  (go_at_call 31; refine (laws_szTxS _ d0 _ _ (by (try simp only [← Array.append_assoc]); (repeat (first | with_reducible exact H0.out | with_reducible apply View.rdMerge | with_reducible apply View.rdExt | with_reducible apply View.rdAlloc | with_reducible apply View.rdDrew)); all_goals exact (0 : Nat)) (by omega) (by omega)).mono ?_; rintro e w' ⟨rfl, hb⟩; obtain ⟨X, rfl⟩ := hb.ext; clear hb)
  have q0e : ∃ q : Nat, q = wtS TxD.wt d0 := ⟨_, rfl⟩
  obtain ⟨q0, q0e⟩ := q0e
  rw [← q0e]
  have Q0 := Lib.hid q0e
  clear q0e
  by_cases g0 : (q0 : Int) ≤ 1048576
  case neg =>
    rw [leftOf_none g0]
    go_wp2
    go_ret
    exact ⟨rfl, (by repeat (first | with_reducible exact Below.refl _ _ | with_reducible apply Below.ofExt | with_reducible apply Below.ofAlloc | with_reducible apply Below.drew | with_reducible apply Below.ofDrewN | with_reducible assumption | (with_reducible refine Below.setCell ?_ (by first | exact Nat.le_refl _ | (simp [go_sem]; done) | (simp [go_sem]; omega)) _)))⟩
  rw [leftOf_pos g0]
  have n0 : ¬ (1048576 - (q0 : Int) : Int) < 0 := by omega
  have L0 : Hid (wtS TxD.wt d0 ≤ 1048576) := by
    have := Q0.out
    show _ ≤ _
    omega
  go_wp2_with fail
  (go_at_call 23; refine (laws_szTx _ d1 _ _ (by (try simp only [← Array.append_assoc]); (repeat (first | with_reducible exact H1.out | with_reducible apply View.rdMerge | with_reducible apply View.rdExt | with_reducible apply View.rdAlloc | with_reducible apply View.rdDrew)); all_goals exact (0 : Nat)) (by omega) (by omega)).mono ?_; rintro e w' ⟨rfl, hb⟩; obtain ⟨X, rfl⟩ := hb.ext; clear hb)
  have q1e : ∃ q : Nat, q = TxD.wt d1 := ⟨_, rfl⟩
  obtain ⟨q1, q1e⟩ := q1e
  rw [← q1e]
  have Q1 := Lib.hid q1e
  clear q1e
  by_cases g1 : (q1 : Int) ≤ 1048576 - (q0 : Int)
  case neg =>
    rw [leftOf_none g1]
    go_wp2
    go_ret
    exact ⟨rfl, (by repeat (first | with_reducible exact Below.refl _ _ | with_reducible apply Below.ofExt | with_reducible apply Below.ofAlloc | with_reducible apply Below.drew | with_reducible apply Below.ofDrewN | with_reducible assumption | (with_reducible refine Below.setCell ?_ (by first | exact Nat.le_refl _ | (simp [go_sem]; done) | (simp [go_sem]; omega)) _)))⟩
  rw [leftOf_pos g1]
  have n1 : ¬ (1048576 - (q0 : Int) - (q1 : Int) : Int) < 0 := by omega
  have L1 : Hid (TxD.wt d1 ≤ 1048576) := by
    have := Q1.out
    show _ ≤ _
    omega
  go_wp2_with fail
  (go_at_call 63; refine (laws_szTouch _ d2 _ _ (by (try simp only [← Array.append_assoc]); (repeat (first | with_reducible exact H2.out | with_reducible apply View.rdMerge | with_reducible apply View.rdExt | with_reducible apply View.rdAlloc | with_reducible apply View.rdDrew)); all_goals exact (0 : Nat)) (by omega) (by omega)).mono ?_; rintro e w' ⟨rfl, hb⟩; obtain ⟨X, rfl⟩ := hb.ext; clear hb)
  have q2e : ∃ q : Nat, q = TouchD.wt d2 := ⟨_, rfl⟩
  obtain ⟨q2, q2e⟩ := q2e
  rw [← q2e]
  have Q2 := Lib.hid q2e
  clear q2e
  by_cases g2 : (q2 : Int) ≤ 1048576 - (q0 : Int) - (q1 : Int)
  case neg =>
    rw [leftOf_none g2]
    go_wp2
    go_ret
    exact ⟨rfl, (by repeat (first | with_reducible exact Below.refl _ _ | with_reducible apply Below.ofExt | with_reducible apply Below.ofAlloc | with_reducible apply Below.drew | with_reducible apply Below.ofDrewN | with_reducible assumption | (with_reducible refine Below.setCell ?_ (by first | exact Nat.le_refl _ | (simp [go_sem]; done) | (simp [go_sem]; omega)) _)))⟩
  rw [leftOf_pos g2]
  have n2 : ¬ (1048576 - (q0 : Int) - (q1 : Int) - (q2 : Int) : Int) < 0 := by omega
  have L2 : Hid (TouchD.wt d2 ≤ 1048576) := by
    have := Q2.out
    show _ ≤ _
    omega
  have HLEN : Hid (d0.length ≤ 1048576) := (TxS_wt L0.out).1
  have HIL : Hid ((settleIds d0 d1 d2).length ≤ 1048576) := Nat.le_trans (settleIds_len d0 d1 d2) HLEN.out
  have HCNT : Hid ((1 : Int) + ((cntTxS d0 : Nat) : Int) + ((cntTx d1 : Nat) : Int) + ((cntTouch d2 : Nat) : Int) ≤ 4294960000) := by
    have t0 := cntTxS_le d0
    have u0 := L0.out
    have t1 := cntTx_le d1
    have u1 := L1.out
    have t2 := cntTouch_le d2
    have u2 := L2.out
    show _ ≤ _
    omega
  obtain ⟨ids, hids⟩ : ∃ ids, ids = settleIds d0 d1 d2 := ⟨_, rfl⟩
  rw [← hids] at HIL
  have HIDS := Lib.hid hids
  clear hids
  obtain ⟨fl, hfl⟩ : ∃ fl, fl = settleOk d0 d1 d2 := ⟨_, rfl⟩
  have HFL := Lib.hid hfl
  clear hfl
  go_wp2
  refine wp_region_ord [(0,true),(2,true),(4,true),(1,false),(3,false),(5,false),(6,false),(7,true),(8,true),(9,true),(10,true),(11,true)] 12 (by kernel_rfl) (by kernel_rfl) ?_
  repeat (refine wpOrd_quiet rfl (fun K hK => ?_); go_simp; (try simp (disch := omega) only [IntWalk.i64_in]); refine hK _ ?_; clear hK K)
  refine wpOrd_grow rfl (fun K hK => ?_); go_simp; go_at_call 33; refine (laws_toTxS _ d0 _ (by (try simp only [← Array.append_assoc]); (repeat (first | with_reducible exact H0.out | with_reducible apply View.rdMerge | with_reducible apply View.rdExt | with_reducible apply View.rdAlloc | with_reducible apply View.rdDrew)); all_goals exact (0 : Nat)) L0.out).mono ?_; rintro e w' ⟨u, fpS0, rfl, hf, hb⟩; obtain ⟨XS0, rfl⟩ := hb.ext; clear hb; obtain ⟨xS0, yS0, rfl⟩ := vSlice.form (View.toRd _ hf.own); have ho := hf.own; have hs := hf.sp; (try simp only [World.ext_ext, ← Array.append_assoc] at ho); (try simp only [World.ext_size, Array.size_append] at hs); have OS0 := Lib.hid ho; have SS0 := Lib.hid hs; clear hf ho hs; try go_simp; refine hK _ _ (by show Sx _ _; (try simp only [← Array.append_assoc]); repeat (first | with_reducible exact Sx.drew _ | with_reducible exact Sx.same _ _ _ _ | with_reducible exact ⟨_, rfl⟩ | with_reducible apply Sx.more | with_reducible apply Sx.ext | with_reducible apply Sx.alloc | with_reducible apply Sx.draw)) ?_; clear hK K
  refine wpOrd_grow rfl (fun K hK => ?_); go_simp; go_at_call 25; refine (laws_toTx _ d1 _ (by (try simp only [← Array.append_assoc]); (repeat (first | with_reducible exact H1.out | with_reducible apply View.rdMerge | with_reducible apply View.rdExt | with_reducible apply View.rdAlloc | with_reducible apply View.rdDrew)); all_goals exact (0 : Nat)) L1.out).mono ?_; rintro e w' ⟨csq, fpS1, rfl, hf, hb⟩; obtain ⟨XS1, rfl⟩ := hb.ext; clear hb; obtain ⟨aS1_0, cS1_0, aS1_1, cS1_1, aS1_2, cS1_2, aS1_3, cS1_3, aS1_4, cS1_4, rfl⟩ := vTx_shape (View.toRd _ hf.own); have ho := hf.own; have hs := hf.sp; (try simp only [World.ext_ext, ← Array.append_assoc] at ho); (try simp only [World.ext_size, Array.size_append] at hs); have OS1 := Lib.hid ho; have SS1 := Lib.hid hs; clear hf ho hs; try go_simp; refine hK _ _ (by show Sx _ _; (try simp only [← Array.append_assoc]); repeat (first | with_reducible exact Sx.drew _ | with_reducible exact Sx.same _ _ _ _ | with_reducible exact ⟨_, rfl⟩ | with_reducible apply Sx.more | with_reducible apply Sx.ext | with_reducible apply Sx.alloc | with_reducible apply Sx.draw)) ?_; clear hK K
  refine wpOrd_grow rfl (fun K hK => ?_); go_simp; go_at_call 65; refine (laws_toTouch _ d2 _ (by (try simp only [← Array.append_assoc]); (repeat (first | with_reducible exact H2.out | with_reducible apply View.rdMerge | with_reducible apply View.rdExt | with_reducible apply View.rdAlloc | with_reducible apply View.rdDrew)); all_goals exact (0 : Nat)) L2.out).mono ?_; rintro e w' ⟨csq, fpS2, rfl, hf, hb⟩; obtain ⟨XS2, rfl⟩ := hb.ext; clear hb; obtain ⟨aS2_0, cS2_0, aS2_1, cS2_1, rfl⟩ := vTouch_shape (View.toRd _ hf.own); have ho := hf.own; have hs := hf.sp; (try simp only [World.ext_ext, ← Array.append_assoc] at ho); (try simp only [World.ext_size, Array.size_append] at hs); have OS2 := Lib.hid ho; have SS2 := Lib.hid hs; clear hf ho hs; try go_simp; refine hK _ _ (by show Sx _ _; (try simp only [← Array.append_assoc]); repeat (first | with_reducible exact Sx.drew _ | with_reducible exact Sx.same _ _ _ _ | with_reducible exact ⟨_, rfl⟩ | with_reducible apply Sx.more | with_reducible apply Sx.ext | with_reducible apply Sx.alloc | with_reducible apply Sx.draw)) ?_; clear hK K
  refine wpOrd_grow rfl (fun K hK => ?_); go_simp; go_at_call 69; refine (spec_Settle _ d0 _ d1 _ d2 _ (View.toRd _ (by (try simp only [← Array.append_assoc]); (repeat (first | with_reducible exact OS0.out | with_reducible apply View.ownMerge | with_reducible apply View.ownExt | with_reducible apply View.ownAlloc)); all_goals exact (0 : Nat))) (View.toRd _ (by (try simp only [← Array.append_assoc]); (repeat (first | with_reducible exact OS1.out | with_reducible apply View.ownMerge | with_reducible apply View.ownExt | with_reducible apply View.ownAlloc)); all_goals exact (0 : Nat))) (View.toRd _ (by (try simp only [← Array.append_assoc]); (repeat (first | with_reducible exact OS2.out | with_reducible apply View.ownMerge | with_reducible apply View.ownExt | with_reducible apply View.ownAlloc)); all_goals exact (0 : Nat))) HLEN.out).mono ?_; rintro e w' ⟨u, fpW, rfl, hf, hb⟩; obtain ⟨XW, rfl⟩ := hb.ext; clear hb; obtain ⟨xW, yW, rfl⟩ := vSlice.form (View.toRd _ hf.own); have ho := hf.own; have hs := hf.sp; (try simp only [World.ext_ext, ← Array.append_assoc] at ho); (try simp only [World.ext_size, Array.size_append] at hs); have OW := Lib.hid ho; have SW := Lib.hid hs; clear hf ho hs; try go_simp; refine hK _ _ (by show Sx _ _; (try simp only [← Array.append_assoc]); repeat (first | with_reducible exact Sx.drew _ | with_reducible exact Sx.same _ _ _ _ | with_reducible exact ⟨_, rfl⟩ | with_reducible apply Sx.more | with_reducible apply Sx.ext | with_reducible apply Sx.alloc | with_reducible apply Sx.draw)) ?_; clear hK K
  repeat (refine wpOrd_quiet rfl (fun K hK => ?_); go_simp; (try simp (disch := omega) only [IntWalk.i64_in]); refine hK _ ?_; clear hK K)
  refine wpOrd_nil ?_
  rw [← HIDS.out] at OW ⊢
  rw [← HFL.out]
  go_wp2_with fail
  (go_at_call 33; refine (laws_toTxS _ d0 _ (by (try simp only [← Array.append_assoc]); (repeat (first | with_reducible exact H0.out | with_reducible apply View.rdMerge | with_reducible apply View.rdExt | with_reducible apply View.rdAlloc | with_reducible apply View.rdDrew)); all_goals exact (0 : Nat)) L0.out).mono ?_; rintro e w' ⟨u, fpK0, rfl, hf, hb⟩; obtain ⟨XK0, rfl⟩ := hb.ext; clear hb; obtain ⟨xK0, yK0, rfl⟩ := vSlice.form (View.toRd _ hf.own); have ho := hf.own; have hs := hf.sp; (try simp only [World.ext_ext, ← Array.append_assoc] at ho); (try simp only [World.ext_size, Array.size_append] at hs); have OK0 := Lib.hid ho; have SK0 := Lib.hid hs; clear hf ho hs)
  go_wp2_with fail
  (go_at_call 25; refine (laws_toTx _ d1 _ (by (try simp only [← Array.append_assoc]); (repeat (first | with_reducible exact H1.out | with_reducible apply View.rdMerge | with_reducible apply View.rdExt | with_reducible apply View.rdAlloc | with_reducible apply View.rdDrew)); all_goals exact (0 : Nat)) L1.out).mono ?_; rintro e w' ⟨csq, fpK1, rfl, hf, hb⟩; obtain ⟨XK1, rfl⟩ := hb.ext; clear hb; obtain ⟨aK1_0, cK1_0, aK1_1, cK1_1, aK1_2, cK1_2, aK1_3, cK1_3, aK1_4, cK1_4, rfl⟩ := vTx_shape (View.toRd _ hf.own); have ho := hf.own; have hs := hf.sp; (try simp only [World.ext_ext, ← Array.append_assoc] at ho); (try simp only [World.ext_size, Array.size_append] at hs); have OK1 := Lib.hid ho; have SK1 := Lib.hid hs; clear hf ho hs)
  go_wp2_with fail
  (go_at_call 65; refine (laws_toTouch _ d2 _ (by (try simp only [← Array.append_assoc]); (repeat (first | with_reducible exact H2.out | with_reducible apply View.rdMerge | with_reducible apply View.rdExt | with_reducible apply View.rdAlloc | with_reducible apply View.rdDrew)); all_goals exact (0 : Nat)) L2.out).mono ?_; rintro e w' ⟨csq, fpK2, rfl, hf, hb⟩; obtain ⟨XK2, rfl⟩ := hb.ext; clear hb; obtain ⟨aK2_0, cK2_0, aK2_1, cK2_1, rfl⟩ := vTouch_shape (View.toRd _ hf.own); have ho := hf.own; have hs := hf.sp; (try simp only [World.ext_ext, ← Array.append_assoc] at ho); (try simp only [World.ext_size, Array.size_append] at hs); have OK2 := Lib.hid ho; have SK2 := Lib.hid hs; clear hf ho hs)
  go_wp2_with fail
  (go_at_call 70; refine (impl_Settle _ d0 _ d1 _ d2 _ (View.toRd _ (by (try simp only [← Array.append_assoc]); (repeat (first | with_reducible exact OK0.out | with_reducible apply View.ownMerge | with_reducible apply View.ownExt | with_reducible apply View.ownAlloc)); all_goals exact (0 : Nat))) (View.toRd _ (by (try simp only [← Array.append_assoc]); (repeat (first | with_reducible exact OK1.out | with_reducible apply View.ownMerge | with_reducible apply View.ownExt | with_reducible apply View.ownAlloc)); all_goals exact (0 : Nat))) (View.toRd _ (by (try simp only [← Array.append_assoc]); (repeat (first | with_reducible exact OK2.out | with_reducible apply View.ownMerge | with_reducible apply View.ownExt | with_reducible apply View.ownAlloc)); all_goals exact (0 : Nat))) HLEN.out).mono ?_; rintro e w' ⟨u, fpG, rfl, hf, hb⟩; obtain ⟨XG, rfl⟩ := hb.ext; clear hb; obtain ⟨xG, yG, rfl⟩ := vSlice.form (View.toRd _ hf.own); have ho := hf.own; have hs := hf.sp; (try simp only [World.ext_ext, ← Array.append_assoc] at ho); (try simp only [World.ext_size, Array.size_append] at hs); have OG := Lib.hid ho; have SG := Lib.hid hs; clear hf ho hs)
  rw [← HIDS.out] at OG ⊢
  rw [← HFL.out]
  go_wp2_with fail
  (go_at_call 45; refine (laws_eqIntS _ _ ids _ (View.toRd _ (by (try simp only [← Array.append_assoc]); (repeat (first | with_reducible exact OG.out | with_reducible apply View.ownMerge | with_reducible apply View.ownExt | with_reducible apply View.ownAlloc)); all_goals exact (0 : Nat))) (View.toRd _ (by (try simp only [← Array.append_assoc]); (repeat (first | with_reducible exact OW.out | with_reducible apply View.ownMerge | with_reducible apply View.ownExt | with_reducible apply View.ownAlloc)); all_goals exact (0 : Nat)))).mono ?_; rintro e w' ⟨rfl, hb⟩; obtain ⟨X, rfl⟩ := hb.ext; clear hb)
  go_wp2_with fail
  (go_at_call 33; refine (laws_toTxS _ d0 _ (by (try simp only [← Array.append_assoc]); (repeat (first | with_reducible exact H0.out | with_reducible apply View.rdMerge | with_reducible apply View.rdExt | with_reducible apply View.rdAlloc | with_reducible apply View.rdDrew)); all_goals exact (0 : Nat)) L0.out).mono ?_; rintro e w' ⟨u, fpE0, rfl, hf, hb⟩; obtain ⟨XE0, rfl⟩ := hb.ext; clear hb; obtain ⟨xE0, yE0, rfl⟩ := vSlice.form (View.toRd _ hf.own); have ho := hf.own; have hs := hf.sp; (try simp only [World.ext_ext, ← Array.append_assoc] at ho); (try simp only [World.ext_size, Array.size_append] at hs); have OE0 := Lib.hid ho; have SE0 := Lib.hid hs; clear hf ho hs)
  go_wp2_with fail
  (go_at_call 35; refine (laws_eqTxS _ _ d0 _ (View.toRd _ (by (try simp only [← Array.append_assoc]); (repeat (first | with_reducible exact OK0.out | with_reducible apply View.ownMerge | with_reducible apply View.ownExt | with_reducible apply View.ownAlloc)); all_goals exact (0 : Nat))) (View.toRd _ (by (try simp only [← Array.append_assoc]); (repeat (first | with_reducible exact OE0.out | with_reducible apply View.ownMerge | with_reducible apply View.ownExt | with_reducible apply View.ownAlloc)); all_goals exact (0 : Nat)))).mono ?_; rintro e w' ⟨rfl, hb⟩; obtain ⟨X, rfl⟩ := hb.ext; clear hb)
  go_wp2
  refine wp_region_ord [(0,true),(1,true),(2,false),(3,false),(4,true)] 5 (by kernel_rfl) (by kernel_rfl) ?_
  repeat (refine wpOrd_quiet rfl (fun K hK => ?_); go_simp; (try simp (disch := omega) only [IntWalk.i64_in]); refine hK _ ?_; clear hK K)
  refine wpOrd_grow rfl (fun K hK => ?_); go_simp; go_at_call 25; refine (laws_toTx _ d1 _ (by (try simp only [← Array.append_assoc]); (repeat (first | with_reducible exact H1.out | with_reducible apply View.rdMerge | with_reducible apply View.rdExt | with_reducible apply View.rdAlloc | with_reducible apply View.rdDrew)); all_goals exact (0 : Nat)) L1.out).mono ?_; rintro e w' ⟨csq, fpE1, rfl, hf, hb⟩; obtain ⟨XE1, rfl⟩ := hb.ext; clear hb; obtain ⟨aE1_0, cE1_0, aE1_1, cE1_1, aE1_2, cE1_2, aE1_3, cE1_3, aE1_4, cE1_4, rfl⟩ := vTx_shape (View.toRd _ hf.own); have ho := hf.own; have hs := hf.sp; (try simp only [World.ext_ext, ← Array.append_assoc] at ho); (try simp only [World.ext_size, Array.size_append] at hs); have OE1 := Lib.hid ho; have SE1 := Lib.hid hs; clear hf ho hs; try go_simp; refine hK _ _ (by show Sx _ _; (try simp only [← Array.append_assoc]); repeat (first | with_reducible exact Sx.drew _ | with_reducible exact Sx.same _ _ _ _ | with_reducible exact ⟨_, rfl⟩ | with_reducible apply Sx.more | with_reducible apply Sx.ext | with_reducible apply Sx.alloc | with_reducible apply Sx.draw)) ?_; clear hK K
  refine wpOrd_grow rfl (fun K hK => ?_); go_simp; go_at_call 20; refine (laws_eqTx _ _ d1 _ (View.toRd _ (by (try simp only [← Array.append_assoc]); (repeat (first | with_reducible exact OK1.out | with_reducible apply View.ownMerge | with_reducible apply View.ownExt | with_reducible apply View.ownAlloc)); all_goals exact (0 : Nat))) (View.toRd _ (by (try simp only [← Array.append_assoc]); (repeat (first | with_reducible exact OE1.out | with_reducible apply View.ownMerge | with_reducible apply View.ownExt | with_reducible apply View.ownAlloc)); all_goals exact (0 : Nat)))).mono ?_; rintro e w' ⟨rfl, hb⟩; obtain ⟨X, rfl⟩ := hb.ext; clear hb; try go_simp; refine hK _ _ (by show Sx _ _; (try simp only [← Array.append_assoc]); repeat (first | with_reducible exact Sx.drew _ | with_reducible exact Sx.same _ _ _ _ | with_reducible exact ⟨_, rfl⟩ | with_reducible apply Sx.more | with_reducible apply Sx.ext | with_reducible apply Sx.alloc | with_reducible apply Sx.draw)) ?_; clear hK K
  repeat (refine wpOrd_quiet rfl (fun K hK => ?_); go_simp; (try simp (disch := omega) only [IntWalk.i64_in]); refine hK _ ?_; clear hK K)
  refine wpOrd_nil ?_
  go_wp2
  refine wp_region_ord [(0,true),(1,true),(2,false),(3,false),(4,true)] 5 (by kernel_rfl) (by kernel_rfl) ?_
  repeat (refine wpOrd_quiet rfl (fun K hK => ?_); go_simp; (try simp (disch := omega) only [IntWalk.i64_in]); refine hK _ ?_; clear hK K)
  refine wpOrd_grow rfl (fun K hK => ?_); go_simp; go_at_call 65; refine (laws_toTouch _ d2 _ (by (try simp only [← Array.append_assoc]); (repeat (first | with_reducible exact H2.out | with_reducible apply View.rdMerge | with_reducible apply View.rdExt | with_reducible apply View.rdAlloc | with_reducible apply View.rdDrew)); all_goals exact (0 : Nat)) L2.out).mono ?_; rintro e w' ⟨csq, fpE2, rfl, hf, hb⟩; obtain ⟨XE2, rfl⟩ := hb.ext; clear hb; obtain ⟨aE2_0, cE2_0, aE2_1, cE2_1, rfl⟩ := vTouch_shape (View.toRd _ hf.own); have ho := hf.own; have hs := hf.sp; (try simp only [World.ext_ext, ← Array.append_assoc] at ho); (try simp only [World.ext_size, Array.size_append] at hs); have OE2 := Lib.hid ho; have SE2 := Lib.hid hs; clear hf ho hs; try go_simp; refine hK _ _ (by show Sx _ _; (try simp only [← Array.append_assoc]); repeat (first | with_reducible exact Sx.drew _ | with_reducible exact Sx.same _ _ _ _ | with_reducible exact ⟨_, rfl⟩ | with_reducible apply Sx.more | with_reducible apply Sx.ext | with_reducible apply Sx.alloc | with_reducible apply Sx.draw)) ?_; clear hK K
  refine wpOrd_grow rfl (fun K hK => ?_); go_simp; go_at_call 67; refine (laws_eqTouch _ _ d2 _ (View.toRd _ (by (try simp only [← Array.append_assoc]); (repeat (first | with_reducible exact OK2.out | with_reducible apply View.ownMerge | with_reducible apply View.ownExt | with_reducible apply View.ownAlloc)); all_goals exact (0 : Nat))) (View.toRd _ (by (try simp only [← Array.append_assoc]); (repeat (first | with_reducible exact OE2.out | with_reducible apply View.ownMerge | with_reducible apply View.ownExt | with_reducible apply View.ownAlloc)); all_goals exact (0 : Nat)))).mono ?_; rintro e w' ⟨rfl, hb⟩; obtain ⟨X, rfl⟩ := hb.ext; clear hb; try go_simp; refine hK _ _ (by show Sx _ _; (try simp only [← Array.append_assoc]); repeat (first | with_reducible exact Sx.drew _ | with_reducible exact Sx.same _ _ _ _ | with_reducible exact ⟨_, rfl⟩ | with_reducible apply Sx.more | with_reducible apply Sx.ext | with_reducible apply Sx.alloc | with_reducible apply Sx.draw)) ?_; clear hK K
  repeat (refine wpOrd_quiet rfl (fun K hK => ?_); go_simp; (try simp (disch := omega) only [IntWalk.i64_in]); refine hK _ ?_; clear hK K)
  refine wpOrd_nil ?_
  have DWK0 : Hid (∀ x ∈ fpW, x ∉ fpK0) := fun x hx h => by have h1 := SW.out.hi x hx; have h2 := SK0.out.lo x h; (try simp [World.ext_size] at h1); (try simp [World.ext_size] at h2); omega
  have DK0W : Hid (∀ x ∈ fpK0, x ∉ fpW) := fun x hx h => DWK0.out x h hx
  have DWK1 : Hid (∀ x ∈ fpW, x ∉ fpK1) := fun x hx h => by have h1 := SW.out.hi x hx; have h2 := SK1.out.lo x h; (try simp [World.ext_size] at h1); (try simp [World.ext_size] at h2); omega
  have DK1W : Hid (∀ x ∈ fpK1, x ∉ fpW) := fun x hx h => DWK1.out x h hx
  have DWK2 : Hid (∀ x ∈ fpW, x ∉ fpK2) := fun x hx h => by have h1 := SW.out.hi x hx; have h2 := SK2.out.lo x h; (try simp [World.ext_size] at h1); (try simp [World.ext_size] at h2); omega
  have DK2W : Hid (∀ x ∈ fpK2, x ∉ fpW) := fun x hx h => DWK2.out x h hx
  have DWG : Hid (∀ x ∈ fpW, x ∉ fpG) := fun x hx h => by have h1 := SW.out.hi x hx; have h2 := SG.out.lo x h; (try simp [World.ext_size] at h1); (try simp [World.ext_size] at h2); omega
  have DGW : Hid (∀ x ∈ fpG, x ∉ fpW) := fun x hx h => DWG.out x h hx
  have DK0K1 : Hid (∀ x ∈ fpK0, x ∉ fpK1) := fun x hx h => by have h1 := SK0.out.hi x hx; have h2 := SK1.out.lo x h; (try simp [World.ext_size] at h1); (try simp [World.ext_size] at h2); omega
  have DK1K0 : Hid (∀ x ∈ fpK1, x ∉ fpK0) := fun x hx h => DK0K1.out x h hx
  have DK0K2 : Hid (∀ x ∈ fpK0, x ∉ fpK2) := fun x hx h => by have h1 := SK0.out.hi x hx; have h2 := SK2.out.lo x h; (try simp [World.ext_size] at h1); (try simp [World.ext_size] at h2); omega
  have DK2K0 : Hid (∀ x ∈ fpK2, x ∉ fpK0) := fun x hx h => DK0K2.out x h hx
  have DK0G : Hid (∀ x ∈ fpK0, x ∉ fpG) := fun x hx h => by have h1 := SK0.out.hi x hx; have h2 := SG.out.lo x h; (try simp [World.ext_size] at h1); (try simp [World.ext_size] at h2); omega
  have DGK0 : Hid (∀ x ∈ fpG, x ∉ fpK0) := fun x hx h => DK0G.out x h hx
  have DK1K2 : Hid (∀ x ∈ fpK1, x ∉ fpK2) := fun x hx h => by have h1 := SK1.out.hi x hx; have h2 := SK2.out.lo x h; (try simp [World.ext_size] at h1); (try simp [World.ext_size] at h2); omega
  have DK2K1 : Hid (∀ x ∈ fpK2, x ∉ fpK1) := fun x hx h => DK1K2.out x h hx
  have DK1G : Hid (∀ x ∈ fpK1, x ∉ fpG) := fun x hx h => by have h1 := SK1.out.hi x hx; have h2 := SG.out.lo x h; (try simp [World.ext_size] at h1); (try simp [World.ext_size] at h2); omega
  have DGK1 : Hid (∀ x ∈ fpG, x ∉ fpK1) := fun x hx h => DK1G.out x h hx
  have DK2G : Hid (∀ x ∈ fpK2, x ∉ fpG) := fun x hx h => by have h1 := SK2.out.hi x hx; have h2 := SG.out.lo x h; (try simp [World.ext_size] at h1); (try simp [World.ext_size] at h2); omega
  have DGK2 : Hid (∀ x ∈ fpG, x ∉ fpK2) := fun x hx h => DK2G.out x h hx
  have LK0 : Hid (∀ x ∈ fpK0, ((w.alloc (.cells #[.int .i64 d1.id, .int .i64 d1.age, .int .i64 d1.proc, .int .i64 d1.began, .slice a1_0 d1.calls.length c1_0, .slice a1_1 d1.answers.length c1_1, .slice a1_2 d1.touch.reads.length c1_2, .slice a1_3 d1.touch.writes.length c1_3, .slice a1_4 d1.marks.length c1_4, .int .i64 d1.state] 38)).alloc (.cells #[.slice a2_0 d2.reads.length c2_0, .slice a2_1 d2.writes.length c2_1] 36)).heap.size ≤ x) := fun x hx => by have h2 := SK0.out.lo x hx; (try simp [World.ext_size] at h2 ⊢); omega
  have LK1 : Hid (∀ x ∈ fpK1, ((w.alloc (.cells #[.int .i64 d1.id, .int .i64 d1.age, .int .i64 d1.proc, .int .i64 d1.began, .slice a1_0 d1.calls.length c1_0, .slice a1_1 d1.answers.length c1_1, .slice a1_2 d1.touch.reads.length c1_2, .slice a1_3 d1.touch.writes.length c1_3, .slice a1_4 d1.marks.length c1_4, .int .i64 d1.state] 38)).alloc (.cells #[.slice a2_0 d2.reads.length c2_0, .slice a2_1 d2.writes.length c2_1] 36)).heap.size ≤ x) := fun x hx => by have h2 := SK1.out.lo x hx; (try simp [World.ext_size] at h2 ⊢); omega
  have LK2 : Hid (∀ x ∈ fpK2, ((w.alloc (.cells #[.int .i64 d1.id, .int .i64 d1.age, .int .i64 d1.proc, .int .i64 d1.began, .slice a1_0 d1.calls.length c1_0, .slice a1_1 d1.answers.length c1_1, .slice a1_2 d1.touch.reads.length c1_2, .slice a1_3 d1.touch.writes.length c1_3, .slice a1_4 d1.marks.length c1_4, .int .i64 d1.state] 38)).alloc (.cells #[.slice a2_0 d2.reads.length c2_0, .slice a2_1 d2.writes.length c2_1] 36)).heap.size ≤ x) := fun x hx => by have h2 := SK2.out.lo x hx; (try simp [World.ext_size] at h2 ⊢); omega
  have LG : Hid (∀ x ∈ fpG, ((w.alloc (.cells #[.int .i64 d1.id, .int .i64 d1.age, .int .i64 d1.proc, .int .i64 d1.began, .slice a1_0 d1.calls.length c1_0, .slice a1_1 d1.answers.length c1_1, .slice a1_2 d1.touch.reads.length c1_2, .slice a1_3 d1.touch.writes.length c1_3, .slice a1_4 d1.marks.length c1_4, .int .i64 d1.state] 38)).alloc (.cells #[.slice a2_0 d2.reads.length c2_0, .slice a2_1 d2.writes.length c2_1] 36)).heap.size ≤ x) := fun x hx => by have h2 := SG.out.lo x hx; (try simp [World.ext_size] at h2 ⊢); omega
  have N0 : Hid fpK0.Nodup := SK0.out.nodup
  have N1 : Hid fpK1.Nodup := SK1.out.nodup
  have N2 : Hid fpK2.Nodup := SK2.out.nodup
  go_wp2_with fail
  (go_at_call 53; refine (laws_markTxS _ fpK0 d0 _ _ (by (try simp only [← Array.append_assoc]); (repeat (first | with_reducible exact OK0.out | with_reducible apply View.ownMerge | with_reducible apply View.ownExt | with_reducible apply View.ownAlloc)); all_goals exact (0 : Nat)) N0.out (by omega) (by have := HCNT.out; omega)).mono ?_; rintro e w' ⟨rfl, hu⟩)
  have kb1_0 : w'.heap[_]? = some _ := (hu.block _ (World.lt_of_get (World.block_ext1 _ _ _ _ _)) (fun h => by have := SK0.out.hi _ h; (try simp [World.ext_size] at this); (try omega))).trans (World.block_ext1 _ _ _ _ _)
  simp only [World.ext_size, alloc_sz, Array.size_append] at kb1_0
  have kb2_0 : w'.heap[_]? = some _ := (hu.block _ (World.lt_of_get (World.block_ext0 _ _ _)) (fun h => by have := SK0.out.hi _ h; (try simp [World.ext_size] at this); (try omega))).trans (World.block_ext0 _ _ _)
  simp only [World.ext_size, alloc_sz, Array.size_append] at kb2_0
  have oK1 := View.ownUpon (by (try simp only [← Array.append_assoc]); (repeat (first | with_reducible exact OK1.out | with_reducible apply View.ownMerge | with_reducible apply View.ownExt | with_reducible apply View.ownAlloc)); all_goals exact (0 : Nat)) hu DK1K0.out
  have oK2 := View.ownUpon (by (try simp only [← Array.append_assoc]); (repeat (first | with_reducible exact OK2.out | with_reducible apply View.ownMerge | with_reducible apply View.ownExt | with_reducible apply View.ownAlloc)); all_goals exact (0 : Nat)) hu DK2K0.out
  have oG := View.ownUpon (by (try simp only [← Array.append_assoc]); (repeat (first | with_reducible exact OG.out | with_reducible apply View.ownMerge | with_reducible apply View.ownExt | with_reducible apply View.ownAlloc)); all_goals exact (0 : Nat)) hu DGK0.out
  have oW := View.ownUpon (by (try simp only [← Array.append_assoc]); (repeat (first | with_reducible exact OW.out | with_reducible apply View.ownMerge | with_reducible apply View.ownExt | with_reducible apply View.ownAlloc)); all_goals exact (0 : Nat)) hu DWK0.out
  have hbw := Below.trans (show Below ((w.alloc (.cells #[.int .i64 d1.id, .int .i64 d1.age, .int .i64 d1.proc, .int .i64 d1.began, .slice a1_0 d1.calls.length c1_0, .slice a1_1 d1.answers.length c1_1, .slice a1_2 d1.touch.reads.length c1_2, .slice a1_3 d1.touch.writes.length c1_3, .slice a1_4 d1.marks.length c1_4, .int .i64 d1.state] 38)).alloc (.cells #[.slice a2_0 d2.reads.length c2_0, .slice a2_1 d2.writes.length c2_1] 36)).heap.size ((w.alloc (.cells #[.int .i64 d1.id, .int .i64 d1.age, .int .i64 d1.proc, .int .i64 d1.began, .slice a1_0 d1.calls.length c1_0, .slice a1_1 d1.answers.length c1_1, .slice a1_2 d1.touch.reads.length c1_2, .slice a1_3 d1.touch.writes.length c1_3, .slice a1_4 d1.marks.length c1_4, .int .i64 d1.state] 38)).alloc (.cells #[.slice a2_0 d2.reads.length c2_0, .slice a2_1 d2.writes.length c2_1] 36)) _ from (by repeat (first | with_reducible exact Below.refl _ _ | with_reducible apply Below.ofExt | with_reducible apply Below.ofAlloc | with_reducible apply Below.drew | with_reducible apply Below.ofDrewN | with_reducible assumption | (with_reducible refine Below.setCell ?_ (by first | exact Nat.le_refl _ | (simp [go_sem]; done) | (simp [go_sem]; omega)) _)))) (hu.toBelow (by (try simp [World.ext_size]); try omega) LK0.out)
  obtain ⟨Z0, rfl⟩ := hbw.ext
  have PK10 := Lib.hid oK1
  have PK20 := Lib.hid oK2
  have PG0 := Lib.hid oG
  have PW0 := Lib.hid oW
  clear hu hbw oK1 oK2 oG oW
  have E1_0 := Lib.hid <| World.setB_self kb1_0
  have lq1_0 := World.lt_of_get kb1_0
  simp only [World.ext_size, alloc_sz] at lq1_0
  rw [← E1_0.out]
  have kc2_0 := kb2_0
  rw [← E1_0.out] at kc2_0
  have E2_0 := Lib.hid <| World.setB_self kc2_0
  have lq2_0 := World.lt_of_get kb2_0
  simp only [World.ext_size, alloc_sz] at lq2_0
  rw [← E2_0.out]
  have hk0 : ¬ ((1 : Int) + ((cntTxS d0 : Nat) : Int)) < 0 := by omega
  go_wp2_with fail
  (go_at_call 21; refine (laws_markTx _ fpK1 d1 _ _ (by rw [E2_0.out, E1_0.out]; exact PK10.out) N1.out (by omega) (by have := HCNT.out; omega)).mono ?_; rintro e w' ⟨rfl, hu⟩)
  rw [E2_0.out, E1_0.out] at hu
  have kb2_1 : w'.heap[_]? = some _ := (hu.block _ (World.lt_of_get kb2_0) (fun h => by have := SK1.out.hi _ h; (try simp [World.ext_size] at this); (try omega))).trans kb2_0
  have oK2 := View.ownUpon PK20.out hu DK2K1.out
  have oG := View.ownUpon PG0.out hu DGK1.out
  have oW := View.ownUpon PW0.out hu DWK1.out
  have hbw := Below.trans (show Below ((w.alloc (.cells #[.int .i64 d1.id, .int .i64 d1.age, .int .i64 d1.proc, .int .i64 d1.began, .slice a1_0 d1.calls.length c1_0, .slice a1_1 d1.answers.length c1_1, .slice a1_2 d1.touch.reads.length c1_2, .slice a1_3 d1.touch.writes.length c1_3, .slice a1_4 d1.marks.length c1_4, .int .i64 d1.state] 38)).alloc (.cells #[.slice a2_0 d2.reads.length c2_0, .slice a2_1 d2.writes.length c2_1] 36)).heap.size ((w.alloc (.cells #[.int .i64 d1.id, .int .i64 d1.age, .int .i64 d1.proc, .int .i64 d1.began, .slice a1_0 d1.calls.length c1_0, .slice a1_1 d1.answers.length c1_1, .slice a1_2 d1.touch.reads.length c1_2, .slice a1_3 d1.touch.writes.length c1_3, .slice a1_4 d1.marks.length c1_4, .int .i64 d1.state] 38)).alloc (.cells #[.slice a2_0 d2.reads.length c2_0, .slice a2_1 d2.writes.length c2_1] 36)) _ from (by repeat (first | with_reducible exact Below.refl _ _ | with_reducible apply Below.ofExt | with_reducible apply Below.ofAlloc | with_reducible apply Below.drew | with_reducible apply Below.ofDrewN | with_reducible assumption | (with_reducible refine Below.setCell ?_ (by first | exact Nat.le_refl _ | (simp [go_sem]; done) | (simp [go_sem]; omega)) _)))) (hu.toBelow (by (try simp [World.ext_size]); try omega) LK1.out)
  obtain ⟨Z1, rfl⟩ := hbw.ext
  have PK21 := Lib.hid oK2
  have PG1 := Lib.hid oG
  have PW1 := Lib.hid oW
  clear hu hbw oK2 oG oW
  have E2_1 := Lib.hid <| World.setB_self kb2_1
  have lq2_1 := World.lt_of_get kb2_1
  simp only [World.ext_size, alloc_sz] at lq2_1
  rw [← E2_1.out]
  have hk1 : ¬ ((1 : Int) + ((cntTxS d0 : Nat) : Int) + ((cntTx d1 : Nat) : Int)) < 0 := by omega
  go_wp2_with fail
  (go_at_call 68; refine (laws_markTouch _ fpK2 d2 _ _ (by rw [E2_1.out]; exact PK21.out) N2.out (by omega) (by have := HCNT.out; omega)).mono ?_; rintro e w' ⟨rfl, hu⟩)
  rw [E2_1.out] at hu
  have oG := View.ownUpon PG1.out hu DGK2.out
  have oW := View.ownUpon PW1.out hu DWK2.out
  have hbw := Below.trans (show Below ((w.alloc (.cells #[.int .i64 d1.id, .int .i64 d1.age, .int .i64 d1.proc, .int .i64 d1.began, .slice a1_0 d1.calls.length c1_0, .slice a1_1 d1.answers.length c1_1, .slice a1_2 d1.touch.reads.length c1_2, .slice a1_3 d1.touch.writes.length c1_3, .slice a1_4 d1.marks.length c1_4, .int .i64 d1.state] 38)).alloc (.cells #[.slice a2_0 d2.reads.length c2_0, .slice a2_1 d2.writes.length c2_1] 36)).heap.size ((w.alloc (.cells #[.int .i64 d1.id, .int .i64 d1.age, .int .i64 d1.proc, .int .i64 d1.began, .slice a1_0 d1.calls.length c1_0, .slice a1_1 d1.answers.length c1_1, .slice a1_2 d1.touch.reads.length c1_2, .slice a1_3 d1.touch.writes.length c1_3, .slice a1_4 d1.marks.length c1_4, .int .i64 d1.state] 38)).alloc (.cells #[.slice a2_0 d2.reads.length c2_0, .slice a2_1 d2.writes.length c2_1] 36)) _ from (by repeat (first | with_reducible exact Below.refl _ _ | with_reducible apply Below.ofExt | with_reducible apply Below.ofAlloc | with_reducible apply Below.drew | with_reducible apply Below.ofDrewN | with_reducible assumption | (with_reducible refine Below.setCell ?_ (by first | exact Nat.le_refl _ | (simp [go_sem]; done) | (simp [go_sem]; omega)) _)))) (hu.toBelow (by (try simp [World.ext_size]); try omega) LK2.out)
  obtain ⟨Z2, rfl⟩ := hbw.ext
  have PG2 := Lib.hid oG
  have PW2 := Lib.hid oW
  clear hu hbw oG oW
  have hk2 : ¬ ((1 : Int) + ((cntTxS d0 : Nat) : Int) + ((cntTx d1 : Nat) : Int) + ((cntTouch d2 : Nat) : Int)) < 0 := by omega
  go_wp2_with fail
  (go_at_call 45; refine (laws_eqIntS _ _ ids _ (View.toRd _ (by (try simp only [← Array.append_assoc]); (repeat (first | with_reducible exact PG2.out | with_reducible apply View.ownMerge | with_reducible apply View.ownExt | with_reducible apply View.ownAlloc)); all_goals exact (0 : Nat))) (View.toRd _ (by (try simp only [← Array.append_assoc]); (repeat (first | with_reducible exact PW2.out | with_reducible apply View.ownMerge | with_reducible apply View.ownExt | with_reducible apply View.ownAlloc)); all_goals exact (0 : Nat)))).mono ?_; rintro e w' ⟨rfl, hb⟩; obtain ⟨X, rfl⟩ := hb.ext; clear hb)
  go_wp2_with fail
  (go_at_call 54; refine (laws_markIntS _ fpG ids 1 _ (by (try simp only [← Array.append_assoc]); (repeat (first | with_reducible exact PG2.out | with_reducible apply View.ownMerge | with_reducible apply View.ownExt | with_reducible apply View.ownAlloc)); all_goals exact (0 : Nat)) (by omega) (by have := HIL.out; omega)).mono ?_; rintro e w' ⟨rfl, hm, hu⟩)
  have ow := View.ownUpon (by (try simp only [← Array.append_assoc]); (repeat (first | with_reducible exact PW2.out | with_reducible apply View.ownMerge | with_reducible apply View.ownExt | with_reducible apply View.ownAlloc)); all_goals exact (0 : Nat)) hu DWG.out
  have hbw := Below.trans (show Below ((w.alloc (.cells #[.int .i64 d1.id, .int .i64 d1.age, .int .i64 d1.proc, .int .i64 d1.began, .slice a1_0 d1.calls.length c1_0, .slice a1_1 d1.answers.length c1_1, .slice a1_2 d1.touch.reads.length c1_2, .slice a1_3 d1.touch.writes.length c1_3, .slice a1_4 d1.marks.length c1_4, .int .i64 d1.state] 38)).alloc (.cells #[.slice a2_0 d2.reads.length c2_0, .slice a2_1 d2.writes.length c2_1] 36)).heap.size ((w.alloc (.cells #[.int .i64 d1.id, .int .i64 d1.age, .int .i64 d1.proc, .int .i64 d1.began, .slice a1_0 d1.calls.length c1_0, .slice a1_1 d1.answers.length c1_1, .slice a1_2 d1.touch.reads.length c1_2, .slice a1_3 d1.touch.writes.length c1_3, .slice a1_4 d1.marks.length c1_4, .int .i64 d1.state] 38)).alloc (.cells #[.slice a2_0 d2.reads.length c2_0, .slice a2_1 d2.writes.length c2_1] 36)) _ from (by repeat (first | with_reducible exact Below.refl _ _ | with_reducible apply Below.ofExt | with_reducible apply Below.ofAlloc | with_reducible apply Below.drew | with_reducible apply Below.ofDrewN | with_reducible assumption | (with_reducible refine Below.setCell ?_ (by first | exact Nat.le_refl _ | (simp [go_sem]; done) | (simp [go_sem]; omega)) _)))) (hu.toBelow (by (try simp [World.ext_size]); try omega) LG.out)
  obtain ⟨ZG, rfl⟩ := hbw.ext
  have RG := Lib.hid hm
  have RW := Lib.hid ow
  clear hu hm ow hbw
  go_wp2_with fail
  (go_at_call 55; refine (laws_heldIntS _ 1 ids.length _ (View.toRd _ (by (try simp only [← Array.append_assoc]); (repeat (first | with_reducible exact RG.out | with_reducible apply View.ownMerge | with_reducible apply View.ownExt | with_reducible apply View.ownAlloc)); all_goals exact (0 : Nat))) (by omega) (by have := HIL.out; omega)).mono ?_; rintro e w' ⟨rfl, hb⟩; obtain ⟨X, rfl⟩ := hb.ext; clear hb)
  have hkr : ¬ (1 : Int) + (1 * ids.length : Nat) < 0 := by omega
  go_wp2
  refine wp_region_ord [(0,true),(2,true),(4,true),(1,false),(3,false),(5,false),(6,false),(7,true),(8,true),(9,true),(10,true),(11,true)] 12 (by kernel_rfl) (by kernel_rfl) ?_
  repeat (refine wpOrd_quiet rfl (fun K hK => ?_); go_simp; (try simp (disch := omega) only [IntWalk.i64_in]); refine hK _ ?_; clear hK K)
  refine wpOrd_grow rfl (fun K hK => ?_); go_simp; go_at_call 33; refine (laws_toTxS _ d0 _ (by (try simp only [← Array.append_assoc]); (repeat (first | with_reducible exact H0.out | with_reducible apply View.rdMerge | with_reducible apply View.rdExt | with_reducible apply View.rdAlloc | with_reducible apply View.rdDrew)); all_goals exact (0 : Nat)) L0.out).mono ?_; rintro e w' ⟨u, fpB0, rfl, hf, hb⟩; obtain ⟨XB0, rfl⟩ := hb.ext; clear hb; obtain ⟨xB0, yB0, rfl⟩ := vSlice.form (View.toRd _ hf.own); have ho := hf.own; have hs := hf.sp; (try simp only [World.ext_ext, ← Array.append_assoc] at ho); (try simp only [World.ext_size, Array.size_append] at hs); have OB0 := Lib.hid ho; have SB0 := Lib.hid hs; clear hf ho hs; try go_simp; refine hK _ _ (by show Sx _ _; (try simp only [← Array.append_assoc]); repeat (first | with_reducible exact Sx.drew _ | with_reducible exact Sx.same _ _ _ _ | with_reducible exact ⟨_, rfl⟩ | with_reducible apply Sx.more | with_reducible apply Sx.ext | with_reducible apply Sx.alloc | with_reducible apply Sx.draw)) ?_; clear hK K
  refine wpOrd_grow rfl (fun K hK => ?_); go_simp; go_at_call 25; refine (laws_toTx _ d1 _ (by (try simp only [← Array.append_assoc]); (repeat (first | with_reducible exact H1.out | with_reducible apply View.rdMerge | with_reducible apply View.rdExt | with_reducible apply View.rdAlloc | with_reducible apply View.rdDrew)); all_goals exact (0 : Nat)) L1.out).mono ?_; rintro e w' ⟨csq, fpB1, rfl, hf, hb⟩; obtain ⟨XB1, rfl⟩ := hb.ext; clear hb; obtain ⟨aB1_0, cB1_0, aB1_1, cB1_1, aB1_2, cB1_2, aB1_3, cB1_3, aB1_4, cB1_4, rfl⟩ := vTx_shape (View.toRd _ hf.own); have ho := hf.own; have hs := hf.sp; (try simp only [World.ext_ext, ← Array.append_assoc] at ho); (try simp only [World.ext_size, Array.size_append] at hs); have OB1 := Lib.hid ho; have SB1 := Lib.hid hs; clear hf ho hs; try go_simp; refine hK _ _ (by show Sx _ _; (try simp only [← Array.append_assoc]); repeat (first | with_reducible exact Sx.drew _ | with_reducible exact Sx.same _ _ _ _ | with_reducible exact ⟨_, rfl⟩ | with_reducible apply Sx.more | with_reducible apply Sx.ext | with_reducible apply Sx.alloc | with_reducible apply Sx.draw)) ?_; clear hK K
  refine wpOrd_grow rfl (fun K hK => ?_); go_simp; go_at_call 65; refine (laws_toTouch _ d2 _ (by (try simp only [← Array.append_assoc]); (repeat (first | with_reducible exact H2.out | with_reducible apply View.rdMerge | with_reducible apply View.rdExt | with_reducible apply View.rdAlloc | with_reducible apply View.rdDrew)); all_goals exact (0 : Nat)) L2.out).mono ?_; rintro e w' ⟨csq, fpB2, rfl, hf, hb⟩; obtain ⟨XB2, rfl⟩ := hb.ext; clear hb; obtain ⟨aB2_0, cB2_0, aB2_1, cB2_1, rfl⟩ := vTouch_shape (View.toRd _ hf.own); have ho := hf.own; have hs := hf.sp; (try simp only [World.ext_ext, ← Array.append_assoc] at ho); (try simp only [World.ext_size, Array.size_append] at hs); have OB2 := Lib.hid ho; have SB2 := Lib.hid hs; clear hf ho hs; try go_simp; refine hK _ _ (by show Sx _ _; (try simp only [← Array.append_assoc]); repeat (first | with_reducible exact Sx.drew _ | with_reducible exact Sx.same _ _ _ _ | with_reducible exact ⟨_, rfl⟩ | with_reducible apply Sx.more | with_reducible apply Sx.ext | with_reducible apply Sx.alloc | with_reducible apply Sx.draw)) ?_; clear hK K
  refine wpOrd_grow rfl (fun K hK => ?_); go_simp; go_at_call 70; refine (impl_Settle _ d0 _ d1 _ d2 _ (View.toRd _ (by (try simp only [← Array.append_assoc]); (repeat (first | with_reducible exact OB0.out | with_reducible apply View.ownMerge | with_reducible apply View.ownExt | with_reducible apply View.ownAlloc)); all_goals exact (0 : Nat))) (View.toRd _ (by (try simp only [← Array.append_assoc]); (repeat (first | with_reducible exact OB1.out | with_reducible apply View.ownMerge | with_reducible apply View.ownExt | with_reducible apply View.ownAlloc)); all_goals exact (0 : Nat))) (View.toRd _ (by (try simp only [← Array.append_assoc]); (repeat (first | with_reducible exact OB2.out | with_reducible apply View.ownMerge | with_reducible apply View.ownExt | with_reducible apply View.ownAlloc)); all_goals exact (0 : Nat))) HLEN.out).mono ?_; rintro e w' ⟨u, fpH, rfl, hf, hb⟩; obtain ⟨XH, rfl⟩ := hb.ext; clear hb; obtain ⟨xH, yH, rfl⟩ := vSlice.form (View.toRd _ hf.own); have ho := hf.own; have hs := hf.sp; (try simp only [World.ext_ext, ← Array.append_assoc] at ho); (try simp only [World.ext_size, Array.size_append] at hs); have OH := Lib.hid ho; have SH := Lib.hid hs; clear hf ho hs; try go_simp; refine hK _ _ (by show Sx _ _; (try simp only [← Array.append_assoc]); repeat (first | with_reducible exact Sx.drew _ | with_reducible exact Sx.same _ _ _ _ | with_reducible exact ⟨_, rfl⟩ | with_reducible apply Sx.more | with_reducible apply Sx.ext | with_reducible apply Sx.alloc | with_reducible apply Sx.draw)) ?_; clear hK K
  repeat (refine wpOrd_quiet rfl (fun K hK => ?_); go_simp; (try simp (disch := omega) only [IntWalk.i64_in]); refine hK _ ?_; clear hK K)
  refine wpOrd_nil ?_
  rw [← HIDS.out] at OH ⊢
  rw [← HFL.out]
  go_wp2_with fail
  (go_at_call 45; refine (laws_eqIntS _ _ ids _ (View.toRd _ (by (try simp only [← Array.append_assoc]); (repeat (first | with_reducible exact OH.out | with_reducible apply View.ownMerge | with_reducible apply View.ownExt | with_reducible apply View.ownAlloc)); all_goals exact (0 : Nat))) (View.toRd _ (by (try simp only [← Array.append_assoc]); (repeat (first | with_reducible exact RW.out | with_reducible apply View.ownMerge | with_reducible apply View.ownExt | with_reducible apply View.ownAlloc)); all_goals exact (0 : Nat)))).mono ?_; rintro e w' ⟨rfl, hb⟩; obtain ⟨X, rfl⟩ := hb.ext; clear hb)
  go_wp2_with fail
  (go_at_call 55; refine (laws_heldIntS _ 1 ids.length _ (View.toRd _ (by (try simp only [← Array.append_assoc]); (repeat (first | with_reducible exact RG.out | with_reducible apply View.ownMerge | with_reducible apply View.ownExt | with_reducible apply View.ownAlloc)); all_goals exact (0 : Nat))) (by omega) (by have := HIL.out; omega)).mono ?_; rintro e w' ⟨rfl, hb⟩; obtain ⟨X, rfl⟩ := hb.ext; clear hb)
  go_wp2
  go_ret
  exact ⟨rfl, (by repeat (first | with_reducible exact Below.refl _ _ | with_reducible apply Below.ofExt | with_reducible apply Below.ofAlloc | with_reducible apply Below.drew | with_reducible apply Below.ofDrewN | with_reducible assumption | (with_reducible refine Below.setCell ?_ (by first | exact Nat.le_refl _ | (simp [go_sem]; done) | (simp [go_sem]; omega)) _)))⟩
end Go.Proofs.Ytefenfglkfdoaaa
