/- The law of SinceMark: the program's and the reference's. Each condition stands in its theorem. -/
import Derived.Test.YtefenfglkfdoaaaSince
import Derived.Test.YtefenfglkfdoaaaSteps
import Derived.Test.YtefenfglkfdoaaaMarkT
set_option linter.unusedVariables false
set_option linter.unusedSimpArgs false
namespace Go.Proofs.Ytefenfglkfdoaaa
open Go.ChangeShapes Go.WideShapes Go.ChangeAt Go.RowKit

theorem vTx_rdl {w : World} {fp : List Nat} {cs : List Value} {d : TxD} (h : vTx.own w fp cs d) : ∀ v, cs[4]? = some v → RdL rCall w v d.calls := by
  obtain ⟨s0, s1, s2, s3, s4, f0, f1, f2, f3, f4, rfl, rfl, o0, _⟩ := h
  intro v hv
  simp only [List.getElem?_cons_succ, List.getElem?_cons_zero, Option.some.injEq] at hv
  subst hv
  exact rdl_of_own rfl o0
theorem vTx_callsOk {w : World} {cs : List Value} {d : TxD} (h : vTx.rd w cs d) : ∀ c ∈ d.calls, c.ok := by
  obtain ⟨s0, s1, s2, s3, s4, rfl, h0, _⟩ := h
  obtain ⟨_, _, _, _, _, _, hcell⟩ := vSlice.shape h0
  intro c hc
  obtain ⟨i, hi, rfl⟩ := List.getElem_of_mem hc
  obtain ⟨_, _, _, _, _, h, _⟩ := hcell i hi
  exact h.2
theorem sinceOf_sub (n : Int) (d : TxD) : ∀ c ∈ sinceOf n d, c ∈ d.calls := by
  intro c hc
  unfold sinceOf at hc
  split at hc
  · exact List.mem_of_mem_drop hc
  · cases hc
theorem sinceOf_len (n : Int) (d : TxD) : (sinceOf n d).length ≤ d.calls.length := by
  unfold sinceOf
  split
  · rw [List.length_drop]; omega
  · simp
theorem vCall_one : ∀ d : CallD, ∀ u ∈ CallD.row d, u.oneCell' = true := rCall.one
theorem spec_SinceMarkM (n : Int) (cs : List Value) (d : TxD) (fp : List Nat) (w : World) (hs : vTx.own w fp cs d) (hl : d.calls.length ≤ 1048576) :
    Calls Try.prog 46 #[.agg cs.toArray, .int .i64 n] w (Made (vSlice vCall 89) w (sinceOf n d)) := by
  refine (spec_SinceMark n cs d w (View.toRd _ hs) (vTx_rdl hs) hl).mono ?_
  rintro e w' ⟨v', rfl, ho, hb⟩
  obtain ⟨fp, h1, h2, h3⟩ := own_of_OwnR (R := rCall) (row := CallD.row) (k := 6) rfl rfl (ok := CallD.ok) (hk := fun _ => rfl) (h1 := vCall_one) ho (fun x hx => vTx_callsOk (View.toRd _ hs) x (sinceOf_sub n d x hx))
  exact ⟨v', fp, rfl, ⟨h1, h2, h3⟩, hb⟩
theorem impl_SinceMarkM (n : Int) (cs : List Value) (d : TxD) (fp : List Nat) (w : World) (hs : vTx.own w fp cs d) (hl : d.calls.length ≤ 1048576) :
    Calls Try.prog 47 #[.agg cs.toArray, .int .i64 n] w (Made (vSlice vCall 89) w (sinceOf n d)) := by
  refine (impl_SinceMark n cs d w (View.toRd _ hs) (vTx_rdl hs) hl).mono ?_
  rintro e w' ⟨v', rfl, ho, hb⟩
  obtain ⟨fp, h1, h2, h3⟩ := own_of_OwnR (R := rCall) (row := CallD.row) (k := 6) rfl rfl (ok := CallD.ok) (hk := fun _ => rfl) (h1 := vCall_one) ho (fun x hx => vTx_callsOk (View.toRd _ hs) x (sinceOf_sub n d x hx))
  exact ⟨v', fp, rfl, ⟨h1, h2, h3⟩, hb⟩
set_option maxRecDepth 100000 in
set_option maxHeartbeats 4000000 in
theorem law_SinceMark (cs0 : List Value) (d0 : TxD) (n : Int) (w : World) (hs0 : vTx.rd w cs0 d0) : Calls Try.prog 12 #[.agg cs0.toArray, .int .i64 n] w (Yes w) := by
  unfold Yes
  obtain ⟨a0, c0, a1, c1, a2, c2, a3, c3, a4, c4, rfl⟩ := vTx_shape hs0
  have H0 := Lib.hid hs0
  clear hs0
  go_enter Try.func12, Try.ntmps12
  go_wp2_with fail
  (go_at_call 23; refine (laws_szTx _ d0 _ _ (by (try simp only [← Array.append_assoc]); (repeat (first | with_reducible exact H0.out | with_reducible apply View.rdMerge | with_reducible apply View.rdExt | with_reducible apply View.rdAlloc | with_reducible apply View.rdDrew)); all_goals exact (0 : Nat)) (by omega) (by omega)).mono ?_; rintro e w' ⟨rfl, hb⟩; obtain ⟨X, rfl⟩ := hb.ext; clear hb)
  have q0e : ∃ q : Nat, q = TxD.wt d0 := ⟨_, rfl⟩
  obtain ⟨q0, q0e⟩ := q0e
  rw [← q0e]
  have Q0 := Lib.hid q0e
  clear q0e
  by_cases g0 : (q0 : Int) ≤ 1048576
  case neg =>
    rw [leftOf_none g0]
    go_wp2
    go_ret
    exact ⟨rfl, (by repeat (first | with_reducible exact Below.refl _ _ | with_reducible apply Below.ofExt | with_reducible apply Below.ofAlloc | with_reducible apply Below.drew | with_reducible apply Below.ofDrewN | with_reducible assumption | (with_reducible refine Below.setCell ?_ (by first | exact Nat.le_refl _ | (simp [go_sem]; done) | (simp [go_sem]; omega)) _)))⟩
  rw [leftOf_pos g0]
  have n0 : ¬ (1048576 - (q0 : Int)) < 0 := by omega
  have L0 : Hid (TxD.wt d0 ≤ 1048576) := by
    have := Q0.out
    show _ ≤ _
    omega
  have HLEN : Hid (d0.calls.length ≤ 1048576) := (Tx_lens L0.out).1
  have HIL : Hid ((sinceOf n d0).length ≤ 1048576) := Nat.le_trans (sinceOf_len n d0) HLEN.out
  have HCNT : Hid ((1 : Int) + (cntTx d0 : Nat) ≤ 4294960000) := by
    have h1 : cntTx d0 ≤ 6 * d0.wt := by unfold cntTx cntTouch TxD.wt wtStrs wtS; omega
    have := L0.out
    show _ ≤ _
    omega
  obtain ⟨ids, hids⟩ : ∃ ids, ids = sinceOf n d0 := ⟨_, rfl⟩
  rw [← hids] at HIL
  have HIDS := Lib.hid hids
  clear hids
  go_wp2_with fail
  (go_at_call 25; refine (laws_toTx _ d0 _ (by (try simp only [← Array.append_assoc]); (repeat (first | with_reducible exact H0.out | with_reducible apply View.rdMerge | with_reducible apply View.rdExt | with_reducible apply View.rdAlloc | with_reducible apply View.rdDrew)); all_goals exact (0 : Nat)) L0.out).mono ?_; rintro e w' ⟨csq, fpA, rfl, hf, hb⟩; obtain ⟨XA, rfl⟩ := hb.ext; clear hb; obtain ⟨Aa0, Ac0, Aa1, Ac1, Aa2, Ac2, Aa3, Ac3, Aa4, Ac4, rfl⟩ := vTx_shape (View.toRd _ hf.own); have ho := hf.own; have hs := hf.sp; (try simp only [World.ext_ext, ← Array.append_assoc] at ho); (try simp only [World.ext_size, Array.size_append] at hs); have OA := Lib.hid ho; have SA := Lib.hid hs; clear hf ho hs)
  go_wp2_with fail
  (go_at_call 46; refine (spec_SinceMarkM n _ d0 fpA _ (by (try simp only [← Array.append_assoc]); (repeat (first | with_reducible exact OA.out | with_reducible apply View.ownMerge | with_reducible apply View.ownExt | with_reducible apply View.ownAlloc)); all_goals exact (0 : Nat)) HLEN.out).mono ?_; rintro e w' ⟨u, fpW, rfl, hf, hb⟩; obtain ⟨XW, rfl⟩ := hb.ext; clear hb; obtain ⟨xW, yW, rfl⟩ := vSlice.form (View.toRd _ hf.own); have ho := hf.own; have hs := hf.sp; (try simp only [World.ext_ext, ← Array.append_assoc] at ho); (try simp only [World.ext_size, Array.size_append] at hs); have OW := Lib.hid ho; have SW := Lib.hid hs; clear hf ho hs)
  rw [← HIDS.out] at OW ⊢
  go_wp2_with fail
  (go_at_call 25; refine (laws_toTx _ d0 _ (by (try simp only [← Array.append_assoc]); (repeat (first | with_reducible exact H0.out | with_reducible apply View.rdMerge | with_reducible apply View.rdExt | with_reducible apply View.rdAlloc | with_reducible apply View.rdDrew)); all_goals exact (0 : Nat)) L0.out).mono ?_; rintro e w' ⟨csq, fpK, rfl, hf, hb⟩; obtain ⟨XK, rfl⟩ := hb.ext; clear hb; obtain ⟨Ka0, Kc0, Ka1, Kc1, Ka2, Kc2, Ka3, Kc3, Ka4, Kc4, rfl⟩ := vTx_shape (View.toRd _ hf.own); have ho := hf.own; have hs := hf.sp; (try simp only [World.ext_ext, ← Array.append_assoc] at ho); (try simp only [World.ext_size, Array.size_append] at hs); have OK := Lib.hid ho; have SK := Lib.hid hs; clear hf ho hs)
  go_wp2_with fail
  (go_at_call 47; refine (impl_SinceMarkM n _ d0 fpK _ (by (try simp only [← Array.append_assoc]); (repeat (first | with_reducible exact OK.out | with_reducible apply View.ownMerge | with_reducible apply View.ownExt | with_reducible apply View.ownAlloc)); all_goals exact (0 : Nat)) HLEN.out).mono ?_; rintro e w' ⟨u, fpG, rfl, hf, hb⟩; obtain ⟨XG, rfl⟩ := hb.ext; clear hb; obtain ⟨xG, yG, rfl⟩ := vSlice.form (View.toRd _ hf.own); have ho := hf.own; have hs := hf.sp; (try simp only [World.ext_ext, ← Array.append_assoc] at ho); (try simp only [World.ext_size, Array.size_append] at hs); have OG := Lib.hid ho; have SG := Lib.hid hs; clear hf ho hs)
  rw [← HIDS.out] at OG ⊢
  go_wp2_with fail
  (go_at_call 48; refine (laws_eqCallS _ _ ids _ (View.toRd _ (by (try simp only [← Array.append_assoc]); (repeat (first | with_reducible exact OG.out | with_reducible apply View.ownMerge | with_reducible apply View.ownExt | with_reducible apply View.ownAlloc)); all_goals exact (0 : Nat))) (View.toRd _ (by (try simp only [← Array.append_assoc]); (repeat (first | with_reducible exact OW.out | with_reducible apply View.ownMerge | with_reducible apply View.ownExt | with_reducible apply View.ownAlloc)); all_goals exact (0 : Nat)))).mono ?_; rintro e w' ⟨rfl, hb⟩; obtain ⟨X, rfl⟩ := hb.ext; clear hb)
  go_wp2
  refine wp_region_ord [(0,true),(1,true),(2,false),(3,false),(4,true)] 5 (by kernel_rfl) (by kernel_rfl) ?_
  repeat (refine wpOrd_quiet rfl (fun K hK => ?_); go_simp; (try simp (disch := omega) only [IntWalk.i64_in]); refine hK _ ?_; clear hK K)
  refine wpOrd_grow rfl (fun K hK => ?_); go_simp; go_at_call 25; refine (laws_toTx _ d0 _ (by (try simp only [← Array.append_assoc]); (repeat (first | with_reducible exact H0.out | with_reducible apply View.rdMerge | with_reducible apply View.rdExt | with_reducible apply View.rdAlloc | with_reducible apply View.rdDrew)); all_goals exact (0 : Nat)) L0.out).mono ?_; rintro e w' ⟨csq, fpE, rfl, hf, hb⟩; obtain ⟨XE, rfl⟩ := hb.ext; clear hb; obtain ⟨Ea0, Ec0, Ea1, Ec1, Ea2, Ec2, Ea3, Ec3, Ea4, Ec4, rfl⟩ := vTx_shape (View.toRd _ hf.own); have ho := hf.own; have hs := hf.sp; (try simp only [World.ext_ext, ← Array.append_assoc] at ho); (try simp only [World.ext_size, Array.size_append] at hs); have OE := Lib.hid ho; have SE := Lib.hid hs; clear hf ho hs; try go_simp; refine hK _ _ (by show Sx _ _; (try simp only [← Array.append_assoc]); repeat (first | with_reducible exact Sx.drew _ | with_reducible exact Sx.same _ _ _ _ | with_reducible exact ⟨_, rfl⟩ | with_reducible apply Sx.more | with_reducible apply Sx.ext | with_reducible apply Sx.alloc | with_reducible apply Sx.draw)) ?_; clear hK K
  refine wpOrd_grow rfl (fun K hK => ?_); go_simp; go_at_call 20; refine (laws_eqTx _ _ d0 _ (View.toRd _ (by (try simp only [← Array.append_assoc]); (repeat (first | with_reducible exact OK.out | with_reducible apply View.ownMerge | with_reducible apply View.ownExt | with_reducible apply View.ownAlloc)); all_goals exact (0 : Nat))) (View.toRd _ (by (try simp only [← Array.append_assoc]); (repeat (first | with_reducible exact OE.out | with_reducible apply View.ownMerge | with_reducible apply View.ownExt | with_reducible apply View.ownAlloc)); all_goals exact (0 : Nat)))).mono ?_; rintro e w' ⟨rfl, hb⟩; obtain ⟨X, rfl⟩ := hb.ext; clear hb; try go_simp; refine hK _ _ (by show Sx _ _; (try simp only [← Array.append_assoc]); repeat (first | with_reducible exact Sx.drew _ | with_reducible exact Sx.same _ _ _ _ | with_reducible exact ⟨_, rfl⟩ | with_reducible apply Sx.more | with_reducible apply Sx.ext | with_reducible apply Sx.alloc | with_reducible apply Sx.draw)) ?_; clear hK K
  repeat (refine wpOrd_quiet rfl (fun K hK => ?_); go_simp; (try simp (disch := omega) only [IntWalk.i64_in]); refine hK _ ?_; clear hK K)
  refine wpOrd_nil ?_
  have DWK : Hid (∀ x ∈ fpW, x ∉ fpK) := fun x hx h => by have h1 := SW.out.hi x hx; have h2 := SK.out.lo x h; simp at h1 h2; omega
  have DGK : Hid (∀ x ∈ fpG, x ∉ fpK) := fun x hx h => by have h1 := SG.out.lo x hx; have h2 := SK.out.hi x h; simp [World.ext_size] at h1 h2; omega
  have DWG : Hid (∀ x ∈ fpW, x ∉ fpG) := fun x hx h => by have h1 := SW.out.hi x hx; have h2 := SG.out.lo x h; simp [World.ext_size] at h1 h2; omega
  have LK : Hid (∀ x ∈ fpK, (w.alloc (.cells #[.int .i64 d0.id, .int .i64 d0.age, .int .i64 d0.proc, .int .i64 d0.began, .slice a0 d0.calls.length c0, .slice a1 d0.answers.length c1, .slice a2 d0.touch.reads.length c2, .slice a3 d0.touch.writes.length c3, .slice a4 d0.marks.length c4, .int .i64 d0.state] 38)).heap.size ≤ x) := fun x hx => by have h2 := SK.out.lo x hx; simp at h2 ⊢; omega
  have LG : Hid (∀ x ∈ fpG, (w.alloc (.cells #[.int .i64 d0.id, .int .i64 d0.age, .int .i64 d0.proc, .int .i64 d0.began, .slice a0 d0.calls.length c0, .slice a1 d0.answers.length c1, .slice a2 d0.touch.reads.length c2, .slice a3 d0.touch.writes.length c3, .slice a4 d0.marks.length c4, .int .i64 d0.state] 38)).heap.size ≤ x) := fun x hx => by have h2 := SG.out.lo x hx; simp [World.ext_size] at h2 ⊢; omega
  have NK : Hid fpK.Nodup := SK.out.nodup
  go_wp2_with fail
  (go_at_call 21; refine (laws_markTx _ fpK d0 1 _ (by (try simp only [← Array.append_assoc]); (repeat (first | with_reducible exact OK.out | with_reducible apply View.ownMerge | with_reducible apply View.ownExt | with_reducible apply View.ownAlloc)); all_goals exact (0 : Nat)) NK.out (by omega) HCNT.out).mono ?_; rintro e w' ⟨rfl, hu⟩)
  have og := View.ownUpon (by (try simp only [← Array.append_assoc]); (repeat (first | with_reducible exact OG.out | with_reducible apply View.ownMerge | with_reducible apply View.ownExt | with_reducible apply View.ownAlloc)); all_goals exact (0 : Nat)) hu DGK.out
  have ow := View.ownUpon (by (try simp only [← Array.append_assoc]); (repeat (first | with_reducible exact OW.out | with_reducible apply View.ownMerge | with_reducible apply View.ownExt | with_reducible apply View.ownAlloc)); all_goals exact (0 : Nat)) hu DWK.out
  have hbw := Below.trans (show Below (w.alloc (.cells #[.int .i64 d0.id, .int .i64 d0.age, .int .i64 d0.proc, .int .i64 d0.began, .slice a0 d0.calls.length c0, .slice a1 d0.answers.length c1, .slice a2 d0.touch.reads.length c2, .slice a3 d0.touch.writes.length c3, .slice a4 d0.marks.length c4, .int .i64 d0.state] 38)).heap.size (w.alloc (.cells #[.int .i64 d0.id, .int .i64 d0.age, .int .i64 d0.proc, .int .i64 d0.began, .slice a0 d0.calls.length c0, .slice a1 d0.answers.length c1, .slice a2 d0.touch.reads.length c2, .slice a3 d0.touch.writes.length c3, .slice a4 d0.marks.length c4, .int .i64 d0.state] 38)) _ from (by repeat (first | with_reducible exact Below.refl _ _ | with_reducible apply Below.ofExt | with_reducible apply Below.ofAlloc | with_reducible apply Below.drew | with_reducible apply Below.ofDrewN | with_reducible assumption | (with_reducible refine Below.setCell ?_ (by first | exact Nat.le_refl _ | (simp [go_sem]; done) | (simp [go_sem]; omega)) _)))) (hu.toBelow (by simp [World.ext_size]; try omega) LK.out)
  obtain ⟨Z1, rfl⟩ := hbw.ext
  have PG := Lib.hid og
  have PW := Lib.hid ow
  clear hu og ow hbw OK OG OW OE OA
  have hk1 : ¬ (1 : Int) + (cntTx d0 : Nat) < 0 := by omega
  go_wp2_with fail
  (go_at_call 48; refine (laws_eqCallS _ _ ids _ (View.toRd _ (by (try simp only [← Array.append_assoc]); (repeat (first | with_reducible exact PG.out | with_reducible apply View.ownMerge | with_reducible apply View.ownExt | with_reducible apply View.ownAlloc)); all_goals exact (0 : Nat))) (View.toRd _ (by (try simp only [← Array.append_assoc]); (repeat (first | with_reducible exact PW.out | with_reducible apply View.ownMerge | with_reducible apply View.ownExt | with_reducible apply View.ownAlloc)); all_goals exact (0 : Nat)))).mono ?_; rintro e w' ⟨rfl, hb⟩; obtain ⟨X, rfl⟩ := hb.ext; clear hb)
  go_wp2_with fail
  (go_at_call 49; refine (laws_markCallS _ fpG ids 1 _ (by (try simp only [← Array.append_assoc]); (repeat (first | with_reducible exact PG.out | with_reducible apply View.ownMerge | with_reducible apply View.ownExt | with_reducible apply View.ownAlloc)); all_goals exact (0 : Nat)) (by omega) (by have := HIL.out; omega)).mono ?_; rintro e w' ⟨rfl, hm, hu⟩)
  have ow := View.ownUpon (by (try simp only [← Array.append_assoc]); (repeat (first | with_reducible exact PW.out | with_reducible apply View.ownMerge | with_reducible apply View.ownExt | with_reducible apply View.ownAlloc)); all_goals exact (0 : Nat)) hu DWG.out
  have hbw := Below.trans (show Below (w.alloc (.cells #[.int .i64 d0.id, .int .i64 d0.age, .int .i64 d0.proc, .int .i64 d0.began, .slice a0 d0.calls.length c0, .slice a1 d0.answers.length c1, .slice a2 d0.touch.reads.length c2, .slice a3 d0.touch.writes.length c3, .slice a4 d0.marks.length c4, .int .i64 d0.state] 38)).heap.size (w.alloc (.cells #[.int .i64 d0.id, .int .i64 d0.age, .int .i64 d0.proc, .int .i64 d0.began, .slice a0 d0.calls.length c0, .slice a1 d0.answers.length c1, .slice a2 d0.touch.reads.length c2, .slice a3 d0.touch.writes.length c3, .slice a4 d0.marks.length c4, .int .i64 d0.state] 38)) _ from (by repeat (first | with_reducible exact Below.refl _ _ | with_reducible apply Below.ofExt | with_reducible apply Below.ofAlloc | with_reducible apply Below.drew | with_reducible apply Below.ofDrewN | with_reducible assumption | (with_reducible refine Below.setCell ?_ (by first | exact Nat.le_refl _ | (simp [go_sem]; done) | (simp [go_sem]; omega)) _)))) (hu.toBelow (by simp [World.ext_size]; try omega) LG.out)
  obtain ⟨Z2, rfl⟩ := hbw.ext
  have RG := Lib.hid hm
  have RW := Lib.hid ow
  clear hu hm ow hbw PG PW
  go_wp2_with fail
  (go_at_call 50; refine (laws_heldCallS _ 1 ids.length _ (View.toRd _ (by (try simp only [← Array.append_assoc]); (repeat (first | with_reducible exact RG.out | with_reducible apply View.ownMerge | with_reducible apply View.ownExt | with_reducible apply View.ownAlloc)); all_goals exact (0 : Nat))) (by omega) (by have := HIL.out; omega)).mono ?_; rintro e w' ⟨rfl, hb⟩; obtain ⟨X, rfl⟩ := hb.ext; clear hb)
  have hk2 : ¬ (1 : Int) + (6 * ids.length : Nat) < 0 := by omega
  go_wp2_with fail
  (go_at_call 25; refine (laws_toTx _ d0 _ (by (try simp only [← Array.append_assoc]); (repeat (first | with_reducible exact H0.out | with_reducible apply View.rdMerge | with_reducible apply View.rdExt | with_reducible apply View.rdAlloc | with_reducible apply View.rdDrew)); all_goals exact (0 : Nat)) L0.out).mono ?_; rintro e w' ⟨csq, fpB, rfl, hf, hb⟩; obtain ⟨XB, rfl⟩ := hb.ext; clear hb; obtain ⟨Ba0, Bc0, Ba1, Bc1, Ba2, Bc2, Ba3, Bc3, Ba4, Bc4, rfl⟩ := vTx_shape (View.toRd _ hf.own); have ho := hf.own; have hs := hf.sp; (try simp only [World.ext_ext, ← Array.append_assoc] at ho); (try simp only [World.ext_size, Array.size_append] at hs); have OB := Lib.hid ho; have SB := Lib.hid hs; clear hf ho hs)
  go_wp2_with fail
  (go_at_call 47; refine (impl_SinceMarkM n _ d0 fpB _ (by (try simp only [← Array.append_assoc]); (repeat (first | with_reducible exact OB.out | with_reducible apply View.ownMerge | with_reducible apply View.ownExt | with_reducible apply View.ownAlloc)); all_goals exact (0 : Nat)) HLEN.out).mono ?_; rintro e w' ⟨u, fpH, rfl, hf, hb⟩; obtain ⟨XH, rfl⟩ := hb.ext; clear hb; obtain ⟨xH, yH, rfl⟩ := vSlice.form (View.toRd _ hf.own); have ho := hf.own; have hs := hf.sp; (try simp only [World.ext_ext, ← Array.append_assoc] at ho); (try simp only [World.ext_size, Array.size_append] at hs); have OH := Lib.hid ho; have SH := Lib.hid hs; clear hf ho hs)
  rw [← HIDS.out] at OH ⊢
  go_wp2_with fail
  (go_at_call 48; refine (laws_eqCallS _ _ ids _ (View.toRd _ (by (try simp only [← Array.append_assoc]); (repeat (first | with_reducible exact OH.out | with_reducible apply View.ownMerge | with_reducible apply View.ownExt | with_reducible apply View.ownAlloc)); all_goals exact (0 : Nat))) (View.toRd _ (by (try simp only [← Array.append_assoc]); (repeat (first | with_reducible exact RW.out | with_reducible apply View.ownMerge | with_reducible apply View.ownExt | with_reducible apply View.ownAlloc)); all_goals exact (0 : Nat)))).mono ?_; rintro e w' ⟨rfl, hb⟩; obtain ⟨X, rfl⟩ := hb.ext; clear hb)
  go_wp2_with fail
  (go_at_call 50; refine (laws_heldCallS _ 1 ids.length _ (View.toRd _ (by (try simp only [← Array.append_assoc]); (repeat (first | with_reducible exact RG.out | with_reducible apply View.ownMerge | with_reducible apply View.ownExt | with_reducible apply View.ownAlloc)); all_goals exact (0 : Nat))) (by omega) (by have := HIL.out; omega)).mono ?_; rintro e w' ⟨rfl, hb⟩; obtain ⟨X, rfl⟩ := hb.ext; clear hb)
  go_wp2
  go_ret
  exact ⟨rfl, (by repeat (first | with_reducible exact Below.refl _ _ | with_reducible apply Below.ofExt | with_reducible apply Below.ofAlloc | with_reducible apply Below.drew | with_reducible apply Below.ofDrewN | with_reducible assumption | (with_reducible refine Below.setCell ?_ (by first | exact Nat.le_refl _ | (simp [go_sem]; done) | (simp [go_sem]; omega)) _)))⟩
end Go.Proofs.Ytefenfglkfdoaaa
