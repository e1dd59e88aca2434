/- The law of YoungerAll: its walk. No condition but that its arguments read. -/
import Derived.Test.YtefenfglkfdoaaaYoungerAll
set_option linter.unusedVariables false
set_option linter.unusedSimpArgs false
namespace Go.Proofs.Ytefenfglkfdoaaa
open Go.ChangeShapes Go.WideShapes Go.ChangeAt Go.RowKit

set_option maxRecDepth 100000 in
set_option maxHeartbeats 4000000 in
theorem law_YoungerAll (v0 : Value) (d0 : List TxD) (v1 : Value) (d1 : List Int) (cs2 : List Value) (d2 : TxD) (w : World) (hs0 : (vSlice vTx 38).rd w [v0] d0) (hs1 : (vSlice vInt 3).rd w [v1] d1) (hs2 : vTx.rd w cs2 d2) : Calls Try.prog 11 #[v0, v1, .agg cs2.toArray] w (Yes w) := by
  unfold Yes
  obtain ⟨a0, c0, rfl⟩ := vSlice.form hs0
  have H0 := Lib.hid hs0
  clear hs0
  obtain ⟨a1, c1, rfl, hb1, hc1, _⟩ := vSlice.shape hs1
  unfold maxLen at hc1
  have H1 := Lib.hid hs1
  clear hs1
  obtain ⟨a2_0, c2_0, a2_1, c2_1, a2_2, c2_2, a2_3, c2_3, a2_4, c2_4, rfl⟩ := vTx_shape hs2
  have H2 := Lib.hid hs2
  clear hs2
  by_cases l1 : 1048576 < (d1.length : Int)
  · go_enter Try.func11, Try.ntmps11
    go_wp2
    go_ret
    exact ⟨rfl, (by repeat (first | with_reducible exact Below.refl _ _ | with_reducible apply Below.ofExt | with_reducible apply Below.ofAlloc | with_reducible apply Below.drew | with_reducible assumption | (with_reducible refine Below.setCell ?_ (by first | exact Nat.le_refl _ | (simp [go_sem]; done) | (simp [go_sem]; omega)) _)))⟩
  have ll1 : d1.length ≤ 1048576 := by omega
  have L1 := Lib.hid ll1
  clear ll1
  go_enter Try.func11, Try.ntmps11
  go_wp2_with fail
  (go_at_call 31; refine (laws_szTxS _ d0 _ _ (by (try simp only [← Array.append_assoc]); (repeat (first | with_reducible exact H0.out | with_reducible apply View.rdMerge | with_reducible apply View.rdExt | with_reducible apply View.rdAlloc | with_reducible apply View.rdDrew)); all_goals exact (0 : Nat)) (by omega) (by omega)).mono ?_; rintro e w' ⟨rfl, hb⟩; obtain ⟨X, rfl⟩ := hb.ext; clear hb)
  have q0e : ∃ q : Nat, q = wtS TxD.wt d0 := ⟨_, rfl⟩
  obtain ⟨q0, q0e⟩ := q0e
  rw [← q0e]
  have Q0 := Lib.hid q0e
  clear q0e
  by_cases g0 : (q0 : Int) ≤ 1048576
  case neg =>
    rw [leftOf_none g0]
    go_wp2
    go_ret
    exact ⟨rfl, (by repeat (first | with_reducible exact Below.refl _ _ | with_reducible apply Below.ofExt | with_reducible apply Below.ofAlloc | with_reducible apply Below.drew | with_reducible assumption | (with_reducible refine Below.setCell ?_ (by first | exact Nat.le_refl _ | (simp [go_sem]; done) | (simp [go_sem]; omega)) _)))⟩
  rw [leftOf_pos g0]
  have n0 : ¬ (1048576 - (q0 : Int) : Int) < 0 := by omega
  have L0 : Hid (wtS TxD.wt d0 ≤ 1048576) := by
    have := Q0.out
    show _ ≤ _
    omega
  go_wp2_with fail
  (go_at_call 23; refine (laws_szTx _ d2 _ _ (by (try simp only [← Array.append_assoc]); (repeat (first | with_reducible exact H2.out | with_reducible apply View.rdMerge | with_reducible apply View.rdExt | with_reducible apply View.rdAlloc | with_reducible apply View.rdDrew)); all_goals exact (0 : Nat)) (by omega) (by omega)).mono ?_; rintro e w' ⟨rfl, hb⟩; obtain ⟨X, rfl⟩ := hb.ext; clear hb)
  have q2e : ∃ q : Nat, q = TxD.wt d2 := ⟨_, rfl⟩
  obtain ⟨q2, q2e⟩ := q2e
  rw [← q2e]
  have Q2 := Lib.hid q2e
  clear q2e
  by_cases g2 : (q2 : Int) ≤ 1048576 - (q0 : Int)
  case neg =>
    rw [leftOf_none g2]
    go_wp2
    go_ret
    exact ⟨rfl, (by repeat (first | with_reducible exact Below.refl _ _ | with_reducible apply Below.ofExt | with_reducible apply Below.ofAlloc | with_reducible apply Below.drew | with_reducible assumption | (with_reducible refine Below.setCell ?_ (by first | exact Nat.le_refl _ | (simp [go_sem]; done) | (simp [go_sem]; omega)) _)))⟩
  rw [leftOf_pos g2]
  have n2 : ¬ (1048576 - (q0 : Int) - (q2 : Int) : Int) < 0 := by omega
  have L2 : Hid (TxD.wt d2 ≤ 1048576) := by
    have := Q2.out
    show _ ≤ _
    omega
  go_wp2
  refine wp_region_ord [(0,true),(2,true),(4,true),(1,false),(3,false),(5,false),(6,false),(7,false)] 7 (by kernel_rfl) (by kernel_rfl) ?_
  repeat (refine wpOrd_quiet rfl (fun K hK => ?_); go_simp; (try simp (disch := omega) only [IntWalk.i64_in]); refine hK _ ?_; clear hK K)
  refine wpOrd_grow rfl (fun K hK => ?_); go_simp; go_at_call 33; refine (laws_toTxS _ d0 _ (by (try simp only [← Array.append_assoc]); (repeat (first | with_reducible exact H0.out | with_reducible apply View.rdMerge | with_reducible apply View.rdExt | with_reducible apply View.rdAlloc | with_reducible apply View.rdDrew)); all_goals exact (0 : Nat)) L0.out).mono ?_; rintro e w' ⟨u, fp, rfl, hf, hb⟩; obtain ⟨X, rfl⟩ := hb.ext; clear hb; obtain ⟨xS0, yS0, rfl⟩ := vSlice.form (View.toRd _ hf.own); have hr := View.toRd _ hf.own; (try simp only [World.ext_ext, ← Array.append_assoc] at hr); have S0 := Lib.hid hr; clear hf hr; try go_simp; refine hK _ _ (by show Sx _ _; (try simp only [← Array.append_assoc]); repeat (first | with_reducible exact Sx.drew _ | with_reducible exact Sx.same _ _ _ _ | with_reducible exact ⟨_, rfl⟩ | with_reducible apply Sx.more | with_reducible apply Sx.ext | with_reducible apply Sx.alloc | with_reducible apply Sx.draw)) ?_; clear hK K
  refine wpOrd_grow rfl (fun K hK => ?_); go_simp; go_at_call 43; refine (laws_toIntS _ d1 _ (by (try simp only [← Array.append_assoc]); (repeat (first | with_reducible exact H1.out | with_reducible apply View.rdMerge | with_reducible apply View.rdExt | with_reducible apply View.rdAlloc | with_reducible apply View.rdDrew)); all_goals exact (0 : Nat)) L1.out).mono ?_; rintro e w' ⟨u, fp, rfl, hf, hb⟩; obtain ⟨X, rfl⟩ := hb.ext; clear hb; obtain ⟨xS1, yS1, rfl⟩ := vSlice.form (View.toRd _ hf.own); have hr := View.toRd _ hf.own; (try simp only [World.ext_ext, ← Array.append_assoc] at hr); have S1 := Lib.hid hr; clear hf hr; try go_simp; refine hK _ _ (by show Sx _ _; (try simp only [← Array.append_assoc]); repeat (first | with_reducible exact Sx.drew _ | with_reducible exact Sx.same _ _ _ _ | with_reducible exact ⟨_, rfl⟩ | with_reducible apply Sx.more | with_reducible apply Sx.ext | with_reducible apply Sx.alloc | with_reducible apply Sx.draw)) ?_; clear hK K
  refine wpOrd_grow rfl (fun K hK => ?_); go_simp; go_at_call 25; refine (laws_toTx _ d2 _ (by (try simp only [← Array.append_assoc]); (repeat (first | with_reducible exact H2.out | with_reducible apply View.rdMerge | with_reducible apply View.rdExt | with_reducible apply View.rdAlloc | with_reducible apply View.rdDrew)); all_goals exact (0 : Nat)) L2.out).mono ?_; rintro e w' ⟨cs, fp, rfl, hf, hb⟩; obtain ⟨X, rfl⟩ := hb.ext; clear hb; obtain ⟨xS2_0, yS2_0, xS2_1, yS2_1, xS2_2, yS2_2, xS2_3, yS2_3, xS2_4, yS2_4, rfl⟩ := vTx_shape (View.toRd _ hf.own); have hr := View.toRd _ hf.own; (try simp only [World.ext_ext, ← Array.append_assoc] at hr); have S2 := Lib.hid hr; clear hf hr; try go_simp; refine hK _ _ (by show Sx _ _; (try simp only [← Array.append_assoc]); repeat (first | with_reducible exact Sx.drew _ | with_reducible exact Sx.same _ _ _ _ | with_reducible exact ⟨_, rfl⟩ | with_reducible apply Sx.more | with_reducible apply Sx.ext | with_reducible apply Sx.alloc | with_reducible apply Sx.draw)) ?_; clear hK K
  refine wpOrd_grow rfl (fun K hK => ?_); go_simp; go_at_call 42; refine (spec_YoungerAll _ d0 _ d1 _ d2 _ (by (try simp only [← Array.append_assoc]); (repeat (first | with_reducible exact S0.out | with_reducible apply View.rdMerge | with_reducible apply View.rdExt | with_reducible apply View.rdAlloc | with_reducible apply View.rdDrew)); all_goals exact (0 : Nat)) (by (try simp only [← Array.append_assoc]); (repeat (first | with_reducible exact S1.out | with_reducible apply View.rdMerge | with_reducible apply View.rdExt | with_reducible apply View.rdAlloc | with_reducible apply View.rdDrew)); all_goals exact (0 : Nat)) (by (try simp only [← Array.append_assoc]); (repeat (first | with_reducible exact S2.out | with_reducible apply View.rdMerge | with_reducible apply View.rdExt | with_reducible apply View.rdAlloc | with_reducible apply View.rdDrew)); all_goals exact (0 : Nat))).mono ?_; rintro e w' ⟨rfl, hb⟩; obtain ⟨X, rfl⟩ := hb.ext; clear hb; try go_simp; refine hK _ _ (by show Sx _ _; (try simp only [← Array.append_assoc]); repeat (first | with_reducible exact Sx.drew _ | with_reducible exact Sx.same _ _ _ _ | with_reducible exact ⟨_, rfl⟩ | with_reducible apply Sx.more | with_reducible apply Sx.ext | with_reducible apply Sx.alloc | with_reducible apply Sx.draw)) ?_; clear hK K
  repeat (refine wpOrd_tail rfl rfl (fun K hK => ?_); go_simp; refine hK _ _ ?_; clear hK K)
  refine wpOrd_nil ?_
  go_wp2_with fail
  (go_at_call 33; refine (laws_toTxS _ d0 _ (by (try simp only [← Array.append_assoc]); (repeat (first | with_reducible exact H0.out | with_reducible apply View.rdMerge | with_reducible apply View.rdExt | with_reducible apply View.rdAlloc | with_reducible apply View.rdDrew)); all_goals exact (0 : Nat)) L0.out).mono ?_; rintro e w' ⟨u, fp, rfl, hf, hb⟩; obtain ⟨X, rfl⟩ := hb.ext; clear hb; obtain ⟨xG0, yG0, rfl⟩ := vSlice.form (View.toRd _ hf.own); have hr := View.toRd _ hf.own; (try simp only [World.ext_ext, ← Array.append_assoc] at hr); have G0 := Lib.hid hr; clear hf hr)
  go_wp2_with fail
  (go_at_call 43; refine (laws_toIntS _ d1 _ (by (try simp only [← Array.append_assoc]); (repeat (first | with_reducible exact H1.out | with_reducible apply View.rdMerge | with_reducible apply View.rdExt | with_reducible apply View.rdAlloc | with_reducible apply View.rdDrew)); all_goals exact (0 : Nat)) L1.out).mono ?_; rintro e w' ⟨u, fp, rfl, hf, hb⟩; obtain ⟨X, rfl⟩ := hb.ext; clear hb; obtain ⟨xG1, yG1, rfl⟩ := vSlice.form (View.toRd _ hf.own); have hr := View.toRd _ hf.own; (try simp only [World.ext_ext, ← Array.append_assoc] at hr); have G1 := Lib.hid hr; clear hf hr)
  go_wp2_with fail
  (go_at_call 25; refine (laws_toTx _ d2 _ (by (try simp only [← Array.append_assoc]); (repeat (first | with_reducible exact H2.out | with_reducible apply View.rdMerge | with_reducible apply View.rdExt | with_reducible apply View.rdAlloc | with_reducible apply View.rdDrew)); all_goals exact (0 : Nat)) L2.out).mono ?_; rintro e w' ⟨cs, fp, rfl, hf, hb⟩; obtain ⟨X, rfl⟩ := hb.ext; clear hb; obtain ⟨xG2_0, yG2_0, xG2_1, yG2_1, xG2_2, yG2_2, xG2_3, yG2_3, xG2_4, yG2_4, rfl⟩ := vTx_shape (View.toRd _ hf.own); have hr := View.toRd _ hf.own; (try simp only [World.ext_ext, ← Array.append_assoc] at hr); have G2 := Lib.hid hr; clear hf hr)
  go_wp2_with fail
  (go_at_call 44; refine (impl_YoungerAll _ d0 _ d1 _ d2 _ (by (try simp only [← Array.append_assoc]); (repeat (first | with_reducible exact G0.out | with_reducible apply View.rdMerge | with_reducible apply View.rdExt | with_reducible apply View.rdAlloc | with_reducible apply View.rdDrew)); all_goals exact (0 : Nat)) (by (try simp only [← Array.append_assoc]); (repeat (first | with_reducible exact G1.out | with_reducible apply View.rdMerge | with_reducible apply View.rdExt | with_reducible apply View.rdAlloc | with_reducible apply View.rdDrew)); all_goals exact (0 : Nat)) (by (try simp only [← Array.append_assoc]); (repeat (first | with_reducible exact G2.out | with_reducible apply View.rdMerge | with_reducible apply View.rdExt | with_reducible apply View.rdAlloc | with_reducible apply View.rdDrew)); all_goals exact (0 : Nat))).mono ?_; rintro e w' ⟨rfl, hb⟩; obtain ⟨X, rfl⟩ := hb.ext; clear hb)
  go_wp2_with fail
  (go_at_call 33; refine (laws_toTxS _ d0 _ (by (try simp only [← Array.append_assoc]); (repeat (first | with_reducible exact H0.out | with_reducible apply View.rdMerge | with_reducible apply View.rdExt | with_reducible apply View.rdAlloc | with_reducible apply View.rdDrew)); all_goals exact (0 : Nat)) L0.out).mono ?_; rintro e w' ⟨u, fp, rfl, hf, hb⟩; obtain ⟨X, rfl⟩ := hb.ext; clear hb; obtain ⟨xE0, yE0, rfl⟩ := vSlice.form (View.toRd _ hf.own); have hr := View.toRd _ hf.own; (try simp only [World.ext_ext, ← Array.append_assoc] at hr); have E0 := Lib.hid hr; clear hf hr)
  go_wp2_with fail
  (go_at_call 35; refine (laws_eqTxS _ _ d0 _ (by (try simp only [← Array.append_assoc]); (repeat (first | with_reducible exact G0.out | with_reducible apply View.rdMerge | with_reducible apply View.rdExt | with_reducible apply View.rdAlloc | with_reducible apply View.rdDrew)); all_goals exact (0 : Nat)) (by (try simp only [← Array.append_assoc]); (repeat (first | with_reducible exact E0.out | with_reducible apply View.rdMerge | with_reducible apply View.rdExt | with_reducible apply View.rdAlloc | with_reducible apply View.rdDrew)); all_goals exact (0 : Nat))).mono ?_; rintro e w' ⟨rfl, hb⟩; obtain ⟨X, rfl⟩ := hb.ext; clear hb)
  go_wp2_with fail
  (go_at_call 43; refine (laws_toIntS _ d1 _ (by (try simp only [← Array.append_assoc]); (repeat (first | with_reducible exact H1.out | with_reducible apply View.rdMerge | with_reducible apply View.rdExt | with_reducible apply View.rdAlloc | with_reducible apply View.rdDrew)); all_goals exact (0 : Nat)) L1.out).mono ?_; rintro e w' ⟨u, fp, rfl, hf, hb⟩; obtain ⟨X, rfl⟩ := hb.ext; clear hb; obtain ⟨xE1, yE1, rfl⟩ := vSlice.form (View.toRd _ hf.own); have hr := View.toRd _ hf.own; (try simp only [World.ext_ext, ← Array.append_assoc] at hr); have E1 := Lib.hid hr; clear hf hr)
  go_wp2_with fail
  (go_at_call 45; refine (laws_eqIntS _ _ d1 _ (by (try simp only [← Array.append_assoc]); (repeat (first | with_reducible exact G1.out | with_reducible apply View.rdMerge | with_reducible apply View.rdExt | with_reducible apply View.rdAlloc | with_reducible apply View.rdDrew)); all_goals exact (0 : Nat)) (by (try simp only [← Array.append_assoc]); (repeat (first | with_reducible exact E1.out | with_reducible apply View.rdMerge | with_reducible apply View.rdExt | with_reducible apply View.rdAlloc | with_reducible apply View.rdDrew)); all_goals exact (0 : Nat))).mono ?_; rintro e w' ⟨rfl, hb⟩; obtain ⟨X, rfl⟩ := hb.ext; clear hb)
  go_wp2
  refine wp_region_ord [(0,true),(1,true),(2,false),(3,false),(4,true)] 5 (by kernel_rfl) (by kernel_rfl) ?_
  repeat (refine wpOrd_quiet rfl (fun K hK => ?_); go_simp; (try simp (disch := omega) only [IntWalk.i64_in]); refine hK _ ?_; clear hK K)
  refine wpOrd_grow rfl (fun K hK => ?_); go_simp; go_at_call 25; refine (laws_toTx _ d2 _ (by (try simp only [← Array.append_assoc]); (repeat (first | with_reducible exact H2.out | with_reducible apply View.rdMerge | with_reducible apply View.rdExt | with_reducible apply View.rdAlloc | with_reducible apply View.rdDrew)); all_goals exact (0 : Nat)) L2.out).mono ?_; rintro e w' ⟨cs, fp, rfl, hf, hb⟩; obtain ⟨X, rfl⟩ := hb.ext; clear hb; obtain ⟨xE2_0, yE2_0, xE2_1, yE2_1, xE2_2, yE2_2, xE2_3, yE2_3, xE2_4, yE2_4, rfl⟩ := vTx_shape (View.toRd _ hf.own); have hr := View.toRd _ hf.own; (try simp only [World.ext_ext, ← Array.append_assoc] at hr); have E2 := Lib.hid hr; clear hf hr; try go_simp; refine hK _ _ (by show Sx _ _; (try simp only [← Array.append_assoc]); repeat (first | with_reducible exact Sx.drew _ | with_reducible exact Sx.same _ _ _ _ | with_reducible exact ⟨_, rfl⟩ | with_reducible apply Sx.more | with_reducible apply Sx.ext | with_reducible apply Sx.alloc | with_reducible apply Sx.draw)) ?_; clear hK K
  refine wpOrd_grow rfl (fun K hK => ?_); go_simp; go_at_call 20; refine (laws_eqTx _ _ d2 _ (by (try simp only [← Array.append_assoc]); (repeat (first | with_reducible exact G2.out | with_reducible apply View.rdMerge | with_reducible apply View.rdExt | with_reducible apply View.rdAlloc | with_reducible apply View.rdDrew)); all_goals exact (0 : Nat)) (by (try simp only [← Array.append_assoc]); (repeat (first | with_reducible exact E2.out | with_reducible apply View.rdMerge | with_reducible apply View.rdExt | with_reducible apply View.rdAlloc | with_reducible apply View.rdDrew)); all_goals exact (0 : Nat))).mono ?_; rintro e w' ⟨rfl, hb⟩; obtain ⟨X, rfl⟩ := hb.ext; clear hb; try go_simp; refine hK _ _ (by show Sx _ _; (try simp only [← Array.append_assoc]); repeat (first | with_reducible exact Sx.drew _ | with_reducible exact Sx.same _ _ _ _ | with_reducible exact ⟨_, rfl⟩ | with_reducible apply Sx.more | with_reducible apply Sx.ext | with_reducible apply Sx.alloc | with_reducible apply Sx.draw)) ?_; clear hK K
  repeat (refine wpOrd_quiet rfl (fun K hK => ?_); go_simp; (try simp (disch := omega) only [IntWalk.i64_in]); refine hK _ ?_; clear hK K)
  refine wpOrd_nil ?_
  go_wp2
  go_ret
  exact ⟨rfl, (by repeat (first | with_reducible exact Below.refl _ _ | with_reducible apply Below.ofExt | with_reducible apply Below.ofAlloc | with_reducible apply Below.drew | with_reducible assumption | (with_reducible refine Below.setCell ?_ (by first | exact Nat.le_refl _ | (simp [go_sem]; done) | (simp [go_sem]; omega)) _)))⟩
end Go.Proofs.Ytefenfglkfdoaaa
