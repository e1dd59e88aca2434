/- The law of SameTx: its walk. No condition but that its arguments read. -/
import Derived.Test.YtefenfglkfdoaaaSameTx
set_option linter.unusedVariables false
set_option linter.unusedSimpArgs false
namespace Go.Proofs.Ytefenfglkfdoaaa
open Go.ChangeShapes Go.WideShapes Go.ChangeAt Go.RowKit

set_option maxRecDepth 100000 in
set_option maxHeartbeats 4000000 in
theorem law_SameTx (cs0 : List Value) (d0 : TxD) (cs1 : List Value) (d1 : TxD) (w : World) (hs0 : vTx.rd w cs0 d0) (hs1 : vTx.rd w cs1 d1) : Calls Try.prog 10 #[.agg cs0.toArray, .agg cs1.toArray] w (Yes w) := by
  unfold Yes
  obtain ⟨a0_0, c0_0, a0_1, c0_1, a0_2, c0_2, a0_3, c0_3, a0_4, c0_4, rfl⟩ := vTx_shape hs0
  have H0 := Lib.hid hs0
  clear hs0
  obtain ⟨a1_0, c1_0, a1_1, c1_1, a1_2, c1_2, a1_3, c1_3, a1_4, c1_4, rfl⟩ := vTx_shape hs1
  have H1 := Lib.hid hs1
  clear hs1
  go_enter Try.func10, Try.ntmps10
  go_wp2_with fail
  (go_at_call 23; refine (laws_szTx _ d0 _ _ (by (try simp only [← Array.append_assoc]); (repeat (first | with_reducible exact H0.out | with_reducible apply View.rdMerge | with_reducible apply View.rdExt | with_reducible apply View.rdAlloc | with_reducible apply View.rdDrew)); all_goals exact (0 : Nat)) (by omega) (by omega)).mono ?_; rintro e w' ⟨rfl, hb⟩; obtain ⟨X, rfl⟩ := hb.ext; clear hb)
  have q0e : ∃ q : Nat, q = TxD.wt d0 := ⟨_, rfl⟩
  obtain ⟨q0, q0e⟩ := q0e
  rw [← q0e]
  have Q0 := Lib.hid q0e
  clear q0e
  by_cases g0 : (q0 : Int) ≤ 1048576
  case neg =>
    rw [leftOf_none g0]
    go_wp2
    go_ret
    exact ⟨rfl, (by repeat (first | with_reducible exact Below.refl _ _ | with_reducible apply Below.ofExt | with_reducible apply Below.ofAlloc | with_reducible apply Below.drew | with_reducible apply Below.ofDrewN | with_reducible assumption | (with_reducible refine Below.setCell ?_ (by first | exact Nat.le_refl _ | (simp [go_sem]; done) | (simp [go_sem]; omega)) _)))⟩
  rw [leftOf_pos g0]
  have n0 : ¬ (1048576 - (q0 : Int) : Int) < 0 := by omega
  have L0 : Hid (TxD.wt d0 ≤ 1048576) := by
    have := Q0.out
    show _ ≤ _
    omega
  go_wp2_with fail
  (go_at_call 23; refine (laws_szTx _ d1 _ _ (by (try simp only [← Array.append_assoc]); (repeat (first | with_reducible exact H1.out | with_reducible apply View.rdMerge | with_reducible apply View.rdExt | with_reducible apply View.rdAlloc | with_reducible apply View.rdDrew)); all_goals exact (0 : Nat)) (by omega) (by omega)).mono ?_; rintro e w' ⟨rfl, hb⟩; obtain ⟨X, rfl⟩ := hb.ext; clear hb)
  have q1e : ∃ q : Nat, q = TxD.wt d1 := ⟨_, rfl⟩
  obtain ⟨q1, q1e⟩ := q1e
  rw [← q1e]
  have Q1 := Lib.hid q1e
  clear q1e
  by_cases g1 : (q1 : Int) ≤ 1048576 - (q0 : Int)
  case neg =>
    rw [leftOf_none g1]
    go_wp2
    go_ret
    exact ⟨rfl, (by repeat (first | with_reducible exact Below.refl _ _ | with_reducible apply Below.ofExt | with_reducible apply Below.ofAlloc | with_reducible apply Below.drew | with_reducible apply Below.ofDrewN | with_reducible assumption | (with_reducible refine Below.setCell ?_ (by first | exact Nat.le_refl _ | (simp [go_sem]; done) | (simp [go_sem]; omega)) _)))⟩
  rw [leftOf_pos g1]
  have n1 : ¬ (1048576 - (q0 : Int) - (q1 : Int) : Int) < 0 := by omega
  have L1 : Hid (TxD.wt d1 ≤ 1048576) := by
    have := Q1.out
    show _ ≤ _
    omega
  go_wp2
  refine wp_region_ord [(0,true),(2,true),(1,false),(3,false),(4,false),(5,false)] 5 (by kernel_rfl) (by kernel_rfl) ?_
  repeat (refine wpOrd_quiet rfl (fun K hK => ?_); go_simp; (try simp (disch := omega) only [IntWalk.i64_in]); refine hK _ ?_; clear hK K)
  refine wpOrd_grow rfl (fun K hK => ?_); go_simp; go_at_call 25; refine (laws_toTx _ d0 _ (by (try simp only [← Array.append_assoc]); (repeat (first | with_reducible exact H0.out | with_reducible apply View.rdMerge | with_reducible apply View.rdExt | with_reducible apply View.rdAlloc | with_reducible apply View.rdDrew)); all_goals exact (0 : Nat)) L0.out).mono ?_; rintro e w' ⟨cs, fp, rfl, hf, hb⟩; obtain ⟨X, rfl⟩ := hb.ext; clear hb; obtain ⟨xS0_0, yS0_0, xS0_1, yS0_1, xS0_2, yS0_2, xS0_3, yS0_3, xS0_4, yS0_4, rfl⟩ := vTx_shape (View.toRd _ hf.own); have hr := View.toRd _ hf.own; (try simp only [World.ext_ext, ← Array.append_assoc] at hr); have S0 := Lib.hid hr; clear hf hr; try go_simp; refine hK _ _ (by show Sx _ _; (try simp only [← Array.append_assoc]); repeat (first | with_reducible exact Sx.drew _ | with_reducible exact Sx.same _ _ _ _ | with_reducible exact ⟨_, rfl⟩ | with_reducible apply Sx.more | with_reducible apply Sx.ext | with_reducible apply Sx.alloc | with_reducible apply Sx.draw)) ?_; clear hK K
  refine wpOrd_grow rfl (fun K hK => ?_); go_simp; go_at_call 25; refine (laws_toTx _ d1 _ (by (try simp only [← Array.append_assoc]); (repeat (first | with_reducible exact H1.out | with_reducible apply View.rdMerge | with_reducible apply View.rdExt | with_reducible apply View.rdAlloc | with_reducible apply View.rdDrew)); all_goals exact (0 : Nat)) L1.out).mono ?_; rintro e w' ⟨cs, fp, rfl, hf, hb⟩; obtain ⟨X, rfl⟩ := hb.ext; clear hb; obtain ⟨xS1_0, yS1_0, xS1_1, yS1_1, xS1_2, yS1_2, xS1_3, yS1_3, xS1_4, yS1_4, rfl⟩ := vTx_shape (View.toRd _ hf.own); have hr := View.toRd _ hf.own; (try simp only [World.ext_ext, ← Array.append_assoc] at hr); have S1 := Lib.hid hr; clear hf hr; try go_simp; refine hK _ _ (by show Sx _ _; (try simp only [← Array.append_assoc]); repeat (first | with_reducible exact Sx.drew _ | with_reducible exact Sx.same _ _ _ _ | with_reducible exact ⟨_, rfl⟩ | with_reducible apply Sx.more | with_reducible apply Sx.ext | with_reducible apply Sx.alloc | with_reducible apply Sx.draw)) ?_; clear hK K
  refine wpOrd_grow rfl (fun K hK => ?_); go_simp; go_at_call 40; refine (spec_SameTx _ d0 _ d1 _ (by (try simp only [← Array.append_assoc]); (repeat (first | with_reducible exact S0.out | with_reducible apply View.rdMerge | with_reducible apply View.rdExt | with_reducible apply View.rdAlloc | with_reducible apply View.rdDrew)); all_goals exact (0 : Nat)) (by (try simp only [← Array.append_assoc]); (repeat (first | with_reducible exact S1.out | with_reducible apply View.rdMerge | with_reducible apply View.rdExt | with_reducible apply View.rdAlloc | with_reducible apply View.rdDrew)); all_goals exact (0 : Nat))).mono ?_; rintro e w' ⟨rfl, hb⟩; obtain ⟨X, rfl⟩ := hb.ext; clear hb; try go_simp; refine hK _ _ (by show Sx _ _; (try simp only [← Array.append_assoc]); repeat (first | with_reducible exact Sx.drew _ | with_reducible exact Sx.same _ _ _ _ | with_reducible exact ⟨_, rfl⟩ | with_reducible apply Sx.more | with_reducible apply Sx.ext | with_reducible apply Sx.alloc | with_reducible apply Sx.draw)) ?_; clear hK K
  repeat (refine wpOrd_tail rfl rfl (fun K hK => ?_); go_simp; refine hK _ _ ?_; clear hK K)
  refine wpOrd_nil ?_
  go_wp2_with fail
  (go_at_call 25; refine (laws_toTx _ d0 _ (by (try simp only [← Array.append_assoc]); (repeat (first | with_reducible exact H0.out | with_reducible apply View.rdMerge | with_reducible apply View.rdExt | with_reducible apply View.rdAlloc | with_reducible apply View.rdDrew)); all_goals exact (0 : Nat)) L0.out).mono ?_; rintro e w' ⟨cs, fp, rfl, hf, hb⟩; obtain ⟨X, rfl⟩ := hb.ext; clear hb; obtain ⟨xG0_0, yG0_0, xG0_1, yG0_1, xG0_2, yG0_2, xG0_3, yG0_3, xG0_4, yG0_4, rfl⟩ := vTx_shape (View.toRd _ hf.own); have hr := View.toRd _ hf.own; (try simp only [World.ext_ext, ← Array.append_assoc] at hr); have G0 := Lib.hid hr; clear hf hr)
  go_wp2_with fail
  (go_at_call 25; refine (laws_toTx _ d1 _ (by (try simp only [← Array.append_assoc]); (repeat (first | with_reducible exact H1.out | with_reducible apply View.rdMerge | with_reducible apply View.rdExt | with_reducible apply View.rdAlloc | with_reducible apply View.rdDrew)); all_goals exact (0 : Nat)) L1.out).mono ?_; rintro e w' ⟨cs, fp, rfl, hf, hb⟩; obtain ⟨X, rfl⟩ := hb.ext; clear hb; obtain ⟨xG1_0, yG1_0, xG1_1, yG1_1, xG1_2, yG1_2, xG1_3, yG1_3, xG1_4, yG1_4, rfl⟩ := vTx_shape (View.toRd _ hf.own); have hr := View.toRd _ hf.own; (try simp only [World.ext_ext, ← Array.append_assoc] at hr); have G1 := Lib.hid hr; clear hf hr)
  go_wp2_with fail
  (go_at_call 41; refine (impl_SameTx _ d0 _ d1 _ (by (try simp only [← Array.append_assoc]); (repeat (first | with_reducible exact G0.out | with_reducible apply View.rdMerge | with_reducible apply View.rdExt | with_reducible apply View.rdAlloc | with_reducible apply View.rdDrew)); all_goals exact (0 : Nat)) (by (try simp only [← Array.append_assoc]); (repeat (first | with_reducible exact G1.out | with_reducible apply View.rdMerge | with_reducible apply View.rdExt | with_reducible apply View.rdAlloc | with_reducible apply View.rdDrew)); all_goals exact (0 : Nat))).mono ?_; rintro e w' ⟨rfl, hb⟩; obtain ⟨X, rfl⟩ := hb.ext; clear hb)
  go_wp2
  refine wp_region_ord [(0,true),(1,true),(2,false),(3,false),(4,true)] 5 (by kernel_rfl) (by kernel_rfl) ?_
  repeat (refine wpOrd_quiet rfl (fun K hK => ?_); go_simp; (try simp (disch := omega) only [IntWalk.i64_in]); refine hK _ ?_; clear hK K)
  refine wpOrd_grow rfl (fun K hK => ?_); go_simp; go_at_call 25; refine (laws_toTx _ d0 _ (by (try simp only [← Array.append_assoc]); (repeat (first | with_reducible exact H0.out | with_reducible apply View.rdMerge | with_reducible apply View.rdExt | with_reducible apply View.rdAlloc | with_reducible apply View.rdDrew)); all_goals exact (0 : Nat)) L0.out).mono ?_; rintro e w' ⟨cs, fp, rfl, hf, hb⟩; obtain ⟨X, rfl⟩ := hb.ext; clear hb; obtain ⟨xE0_0, yE0_0, xE0_1, yE0_1, xE0_2, yE0_2, xE0_3, yE0_3, xE0_4, yE0_4, rfl⟩ := vTx_shape (View.toRd _ hf.own); have hr := View.toRd _ hf.own; (try simp only [World.ext_ext, ← Array.append_assoc] at hr); have E0 := Lib.hid hr; clear hf hr; try go_simp; refine hK _ _ (by show Sx _ _; (try simp only [← Array.append_assoc]); repeat (first | with_reducible exact Sx.drew _ | with_reducible exact Sx.same _ _ _ _ | with_reducible exact ⟨_, rfl⟩ | with_reducible apply Sx.more | with_reducible apply Sx.ext | with_reducible apply Sx.alloc | with_reducible apply Sx.draw)) ?_; clear hK K
  refine wpOrd_grow rfl (fun K hK => ?_); go_simp; go_at_call 20; refine (laws_eqTx _ _ d0 _ (by (try simp only [← Array.append_assoc]); (repeat (first | with_reducible exact G0.out | with_reducible apply View.rdMerge | with_reducible apply View.rdExt | with_reducible apply View.rdAlloc | with_reducible apply View.rdDrew)); all_goals exact (0 : Nat)) (by (try simp only [← Array.append_assoc]); (repeat (first | with_reducible exact E0.out | with_reducible apply View.rdMerge | with_reducible apply View.rdExt | with_reducible apply View.rdAlloc | with_reducible apply View.rdDrew)); all_goals exact (0 : Nat))).mono ?_; rintro e w' ⟨rfl, hb⟩; obtain ⟨X, rfl⟩ := hb.ext; clear hb; try go_simp; refine hK _ _ (by show Sx _ _; (try simp only [← Array.append_assoc]); repeat (first | with_reducible exact Sx.drew _ | with_reducible exact Sx.same _ _ _ _ | with_reducible exact ⟨_, rfl⟩ | with_reducible apply Sx.more | with_reducible apply Sx.ext | with_reducible apply Sx.alloc | with_reducible apply Sx.draw)) ?_; clear hK K
  repeat (refine wpOrd_quiet rfl (fun K hK => ?_); go_simp; (try simp (disch := omega) only [IntWalk.i64_in]); refine hK _ ?_; clear hK K)
  refine wpOrd_nil ?_
  go_wp2
  refine wp_region_ord [(0,true),(1,true),(2,false),(3,false),(4,true)] 5 (by kernel_rfl) (by kernel_rfl) ?_
  repeat (refine wpOrd_quiet rfl (fun K hK => ?_); go_simp; (try simp (disch := omega) only [IntWalk.i64_in]); refine hK _ ?_; clear hK K)
  refine wpOrd_grow rfl (fun K hK => ?_); go_simp; go_at_call 25; refine (laws_toTx _ d1 _ (by (try simp only [← Array.append_assoc]); (repeat (first | with_reducible exact H1.out | with_reducible apply View.rdMerge | with_reducible apply View.rdExt | with_reducible apply View.rdAlloc | with_reducible apply View.rdDrew)); all_goals exact (0 : Nat)) L1.out).mono ?_; rintro e w' ⟨cs, fp, rfl, hf, hb⟩; obtain ⟨X, rfl⟩ := hb.ext; clear hb; obtain ⟨xE1_0, yE1_0, xE1_1, yE1_1, xE1_2, yE1_2, xE1_3, yE1_3, xE1_4, yE1_4, rfl⟩ := vTx_shape (View.toRd _ hf.own); have hr := View.toRd _ hf.own; (try simp only [World.ext_ext, ← Array.append_assoc] at hr); have E1 := Lib.hid hr; clear hf hr; try go_simp; refine hK _ _ (by show Sx _ _; (try simp only [← Array.append_assoc]); repeat (first | with_reducible exact Sx.drew _ | with_reducible exact Sx.same _ _ _ _ | with_reducible exact ⟨_, rfl⟩ | with_reducible apply Sx.more | with_reducible apply Sx.ext | with_reducible apply Sx.alloc | with_reducible apply Sx.draw)) ?_; clear hK K
  refine wpOrd_grow rfl (fun K hK => ?_); go_simp; go_at_call 20; refine (laws_eqTx _ _ d1 _ (by (try simp only [← Array.append_assoc]); (repeat (first | with_reducible exact G1.out | with_reducible apply View.rdMerge | with_reducible apply View.rdExt | with_reducible apply View.rdAlloc | with_reducible apply View.rdDrew)); all_goals exact (0 : Nat)) (by (try simp only [← Array.append_assoc]); (repeat (first | with_reducible exact E1.out | with_reducible apply View.rdMerge | with_reducible apply View.rdExt | with_reducible apply View.rdAlloc | with_reducible apply View.rdDrew)); all_goals exact (0 : Nat))).mono ?_; rintro e w' ⟨rfl, hb⟩; obtain ⟨X, rfl⟩ := hb.ext; clear hb; try go_simp; refine hK _ _ (by show Sx _ _; (try simp only [← Array.append_assoc]); repeat (first | with_reducible exact Sx.drew _ | with_reducible exact Sx.same _ _ _ _ | with_reducible exact ⟨_, rfl⟩ | with_reducible apply Sx.more | with_reducible apply Sx.ext | with_reducible apply Sx.alloc | with_reducible apply Sx.draw)) ?_; clear hK K
  repeat (refine wpOrd_quiet rfl (fun K hK => ?_); go_simp; (try simp (disch := omega) only [IntWalk.i64_in]); refine hK _ ?_; clear hK K)
  refine wpOrd_nil ?_
  go_wp2
  go_ret
  exact ⟨rfl, (by repeat (first | with_reducible exact Below.refl _ _ | with_reducible apply Below.ofExt | with_reducible apply Below.ofAlloc | with_reducible apply Below.drew | with_reducible apply Below.ofDrewN | with_reducible assumption | (with_reducible refine Below.setCell ?_ (by first | exact Nat.le_refl _ | (simp [go_sem]; done) | (simp [go_sem]; omega)) _)))⟩
end Go.Proofs.Ytefenfglkfdoaaa
