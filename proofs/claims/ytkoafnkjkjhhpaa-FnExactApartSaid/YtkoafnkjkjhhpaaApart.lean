/- The law of Apart: its walk. Each condition stands in its theorem. -/
import Derived.Test.YtkoafnkjkjhhpaaMeet
set_option linter.unusedVariables false
set_option linter.unusedSimpArgs false
namespace Go.Proofs.Ytkoafnkjkjhhpaa
open Go.ChangeShapes Go.WideShapes Go.ChangeAt Go.RowKit

theorem leftOf_none {left : Int} {a : Nat} (h : ¬ ((a : Nat) : Int) ≤ left) : leftOf left a = -1 := by
  unfold leftOf
  rw [if_neg h]
set_option maxRecDepth 100000 in
set_option maxHeartbeats 4000000 in
theorem law_Apart (v v' : Value) (d e : TouchD) (w : World) (hs : RdTouchW w v d) (hs' : RdTouchW w v' e) (hd : d.ok) (he : e.ok) : Calls Try.prog 3 #[v, v'] w (Yes w) := by
  unfold Yes
  have HD := Lib.hid hs
  have HE := Lib.hid hs'
  obtain ⟨u1, u2, rfl, hu1, hu2⟩ := hs
  obtain ⟨v1, v2, rfl, hv1, hv2⟩ := hs'
  clear hu1 hu2 hv1 hv2
  by_cases h1 : (d.wt : Int) ≤ 1048576
  · have e1 := leftOf_pos h1
    have h1n : ¬ ((1048576 : Int) - d.wt < 0) := by omega
    by_cases h2 : (e.wt : Int) ≤ 1048576 - d.wt
    · have e2 := leftOf_pos h2
      have h2n : ¬ ((1048576 : Int) - d.wt - e.wt < 0) := by omega
      have hl1 := wt_le (show d.wt ≤ 4194304 by omega)
      have hl2 := wt_le (show e.wt ≤ 4194304 by omega)
      have HL1 := Lib.hid hl1
      have HL2 := Lib.hid hl2
      clear hl1 hl2
      go_enter Try.func3, Try.ntmps3
      go_wp2_with fail
      (go_at_call 4; refine (laws_szTouch _ d 1048576 _ ((HD.out.alloc _).alloc _) hd (by decide) (by decide)).mono ?_; rintro e w' ⟨rfl, hb⟩; obtain ⟨X, rfl⟩ := hb.ext; clear hb)
      rw [e1]
      go_wp2_with fail
      (go_at_call 4; refine (laws_szTouch _ e (1048576 - d.wt) _ (((HE.out.alloc _).alloc _).ext _) he (by omega) (by omega)).mono ?_; rintro e w' ⟨rfl, hb⟩; obtain ⟨X, rfl⟩ := hb.ext; clear hb)
      rw [e2]
      clear e1 e2
      go_wp2
      refine wp_region_ord [(0,true),(2,true),(1,false),(3,false),(4,false),(5,false)] 5 (by kernel_rfl) (by kernel_rfl) ?_
      repeat (refine wpOrd_quiet rfl (fun K hK => ?_); go_simp; (try simp (disch := omega) only [IntWalk.i64_in]); refine hK _ ?_; clear hK K)
      refine wpOrd_grow rfl (fun K hK => ?_); go_simp; go_at_call 6; refine (laws_toTouch _ d _ (by (try simp only [← Array.append_assoc]); (repeat (first | with_reducible exact Hid.out (by assumption) | with_reducible apply RdTouch.merge | with_reducible apply RdTouchW.ext | with_reducible apply RdTouchW.alloc | with_reducible apply RdTouchW.drew | with_reducible apply RdTouch.ext | with_reducible apply RdTouch.alloc | with_reducible apply RdTouch.drew)); all_goals exact (0 : Nat)) HL1.out.1 HL1.out.2).mono ?_; rintro x w' ⟨r1, r2, rfl, ho1, ho2, _, hb⟩; obtain ⟨a1, c1, rfl⟩ := ho1.rd.form; obtain ⟨b1, g1, rfl⟩ := ho2.rd.form; obtain ⟨X, rfl⟩ := hb.ext; have hxx : RdTouch _ _ d := ⟨_, _, rfl, ho1.rd, ho2.rd⟩; (try simp only [World.ext_ext, ← Array.append_assoc] at hxx); have HX1 := Lib.hid hxx; clear hxx hb ho1 ho2; try go_simp; refine hK _ _ (by show Sx _ _; (try simp only [← Array.append_assoc]); repeat (first | with_reducible exact Sx.drew _ | with_reducible exact Sx.same _ _ _ _ | with_reducible exact ⟨_, rfl⟩ | with_reducible apply Sx.more | with_reducible apply Sx.ext | with_reducible apply Sx.alloc | with_reducible apply Sx.draw)) ?_; clear hK K
      refine wpOrd_grow rfl (fun K hK => ?_); go_simp; go_at_call 6; refine (laws_toTouch _ e _ (by (try simp only [← Array.append_assoc]); (repeat (first | with_reducible exact Hid.out (by assumption) | with_reducible apply RdTouch.merge | with_reducible apply RdTouchW.ext | with_reducible apply RdTouchW.alloc | with_reducible apply RdTouchW.drew | with_reducible apply RdTouch.ext | with_reducible apply RdTouch.alloc | with_reducible apply RdTouch.drew)); all_goals exact (0 : Nat)) HL2.out.1 HL2.out.2).mono ?_; rintro x w' ⟨r1, r2, rfl, ho1, ho2, _, hb⟩; obtain ⟨a2, c2, rfl⟩ := ho1.rd.form; obtain ⟨b2, g2, rfl⟩ := ho2.rd.form; obtain ⟨X, rfl⟩ := hb.ext; have hxx : RdTouch _ _ e := ⟨_, _, rfl, ho1.rd, ho2.rd⟩; (try simp only [World.ext_ext, ← Array.append_assoc] at hxx); have HX2 := Lib.hid hxx; clear hxx hb ho1 ho2; try go_simp; refine hK _ _ (by show Sx _ _; (try simp only [← Array.append_assoc]); repeat (first | with_reducible exact Sx.drew _ | with_reducible exact Sx.same _ _ _ _ | with_reducible exact ⟨_, rfl⟩ | with_reducible apply Sx.more | with_reducible apply Sx.ext | with_reducible apply Sx.alloc | with_reducible apply Sx.draw)) ?_; clear hK K
      refine wpOrd_grow rfl (fun K hK => ?_); go_simp; go_at_call 5; refine (spec_Apart _ _ d e _ (by (try simp only [← Array.append_assoc]); (repeat (first | with_reducible exact Hid.out (by assumption) | with_reducible apply RdTouch.merge | with_reducible apply RdTouchW.ext | with_reducible apply RdTouchW.alloc | with_reducible apply RdTouchW.drew | with_reducible apply RdTouch.ext | with_reducible apply RdTouch.alloc | with_reducible apply RdTouch.drew)); all_goals exact (0 : Nat)) (by (try simp only [← Array.append_assoc]); (repeat (first | with_reducible exact Hid.out (by assumption) | with_reducible apply RdTouch.merge | with_reducible apply RdTouchW.ext | with_reducible apply RdTouchW.alloc | with_reducible apply RdTouchW.drew | with_reducible apply RdTouch.ext | with_reducible apply RdTouch.alloc | with_reducible apply RdTouch.drew)); all_goals exact (0 : Nat)) hd he).mono ?_; rintro e w' ⟨rfl, hb⟩; obtain ⟨X, rfl⟩ := hb.ext; clear hb; try go_simp; refine hK _ _ (by show Sx _ _; (try simp only [← Array.append_assoc]); repeat (first | with_reducible exact Sx.drew _ | with_reducible exact Sx.same _ _ _ _ | with_reducible exact ⟨_, rfl⟩ | with_reducible apply Sx.more | with_reducible apply Sx.ext | with_reducible apply Sx.alloc | with_reducible apply Sx.draw)) ?_; clear hK K
      repeat (refine wpOrd_tail rfl rfl (fun K hK => ?_); go_simp; refine hK _ _ ?_; clear hK K)
      refine wpOrd_nil ?_
      go_wp2_with fail
      (go_at_call 6; refine (laws_toTouch _ d _ (by (try simp only [← Array.append_assoc]); (repeat (first | with_reducible exact Hid.out (by assumption) | with_reducible apply RdTouch.merge | with_reducible apply RdTouchW.ext | with_reducible apply RdTouchW.alloc | with_reducible apply RdTouchW.drew | with_reducible apply RdTouch.ext | with_reducible apply RdTouch.alloc | with_reducible apply RdTouch.drew)); all_goals exact (0 : Nat)) HL1.out.1 HL1.out.2).mono ?_; rintro x w' ⟨r1, r2, rfl, ho1, ho2, _, hb⟩; obtain ⟨a3, c3, rfl⟩ := ho1.rd.form; obtain ⟨b3, g3, rfl⟩ := ho2.rd.form; obtain ⟨X, rfl⟩ := hb.ext; have hxx : RdTouch _ _ d := ⟨_, _, rfl, ho1.rd, ho2.rd⟩; (try simp only [World.ext_ext, ← Array.append_assoc] at hxx); have HX3 := Lib.hid hxx; clear hxx hb ho1 ho2)
      go_wp2_with fail
      (go_at_call 6; refine (laws_toTouch _ e _ (by (try simp only [← Array.append_assoc]); (repeat (first | with_reducible exact Hid.out (by assumption) | with_reducible apply RdTouch.merge | with_reducible apply RdTouchW.ext | with_reducible apply RdTouchW.alloc | with_reducible apply RdTouchW.drew | with_reducible apply RdTouch.ext | with_reducible apply RdTouch.alloc | with_reducible apply RdTouch.drew)); all_goals exact (0 : Nat)) HL2.out.1 HL2.out.2).mono ?_; rintro x w' ⟨r1, r2, rfl, ho1, ho2, _, hb⟩; obtain ⟨a4, c4, rfl⟩ := ho1.rd.form; obtain ⟨b4, g4, rfl⟩ := ho2.rd.form; obtain ⟨X, rfl⟩ := hb.ext; have hxx : RdTouch _ _ e := ⟨_, _, rfl, ho1.rd, ho2.rd⟩; (try simp only [World.ext_ext, ← Array.append_assoc] at hxx); have HX4 := Lib.hid hxx; clear hxx hb ho1 ho2)
      go_wp2_with fail
      (go_at_call 7; refine (impl_Apart _ _ d e _ (by (try simp only [← Array.append_assoc]); (repeat (first | with_reducible exact Hid.out (by assumption) | with_reducible apply RdTouch.merge | with_reducible apply RdTouchW.ext | with_reducible apply RdTouchW.alloc | with_reducible apply RdTouchW.drew | with_reducible apply RdTouch.ext | with_reducible apply RdTouch.alloc | with_reducible apply RdTouch.drew)); all_goals exact (0 : Nat)) (by (try simp only [← Array.append_assoc]); (repeat (first | with_reducible exact Hid.out (by assumption) | with_reducible apply RdTouch.merge | with_reducible apply RdTouchW.ext | with_reducible apply RdTouchW.alloc | with_reducible apply RdTouchW.drew | with_reducible apply RdTouch.ext | with_reducible apply RdTouch.alloc | with_reducible apply RdTouch.drew)); all_goals exact (0 : Nat)) hd he).mono ?_; rintro e w' ⟨rfl, hb⟩; obtain ⟨X, rfl⟩ := hb.ext; clear hb)
      go_wp2
      refine wp_region_ord [(0,true),(1,true),(2,false),(3,false),(4,true)] 5 (by kernel_rfl) (by kernel_rfl) ?_
      repeat (refine wpOrd_quiet rfl (fun K hK => ?_); go_simp; (try simp (disch := omega) only [IntWalk.i64_in]); refine hK _ ?_; clear hK K)
      refine wpOrd_grow rfl (fun K hK => ?_); go_simp; go_at_call 6; refine (laws_toTouch _ d _ (by (try simp only [← Array.append_assoc]); (repeat (first | with_reducible exact Hid.out (by assumption) | with_reducible apply RdTouch.merge | with_reducible apply RdTouchW.ext | with_reducible apply RdTouchW.alloc | with_reducible apply RdTouchW.drew | with_reducible apply RdTouch.ext | with_reducible apply RdTouch.alloc | with_reducible apply RdTouch.drew)); all_goals exact (0 : Nat)) HL1.out.1 HL1.out.2).mono ?_; rintro x w' ⟨r1, r2, rfl, ho1, ho2, _, hb⟩; obtain ⟨a5, c5, rfl⟩ := ho1.rd.form; obtain ⟨b5, g5, rfl⟩ := ho2.rd.form; obtain ⟨X, rfl⟩ := hb.ext; have hxx : RdTouch _ _ d := ⟨_, _, rfl, ho1.rd, ho2.rd⟩; (try simp only [World.ext_ext, ← Array.append_assoc] at hxx); have HX5 := Lib.hid hxx; clear hxx hb ho1 ho2; try go_simp; refine hK _ _ (by show Sx _ _; (try simp only [← Array.append_assoc]); repeat (first | with_reducible exact Sx.drew _ | with_reducible exact Sx.same _ _ _ _ | with_reducible exact ⟨_, rfl⟩ | with_reducible apply Sx.more | with_reducible apply Sx.ext | with_reducible apply Sx.alloc | with_reducible apply Sx.draw)) ?_; clear hK K
      refine wpOrd_grow rfl (fun K hK => ?_); go_simp; go_at_call 8; refine (laws_eqTouch _ _ d _ (by (try simp only [← Array.append_assoc]); (repeat (first | with_reducible exact Hid.out (by assumption) | with_reducible apply RdTouch.merge | with_reducible apply RdTouchW.ext | with_reducible apply RdTouchW.alloc | with_reducible apply RdTouchW.drew | with_reducible apply RdTouch.ext | with_reducible apply RdTouch.alloc | with_reducible apply RdTouch.drew)); all_goals exact (0 : Nat)) (by (try simp only [← Array.append_assoc]); (repeat (first | with_reducible exact Hid.out (by assumption) | with_reducible apply RdTouch.merge | with_reducible apply RdTouchW.ext | with_reducible apply RdTouchW.alloc | with_reducible apply RdTouchW.drew | with_reducible apply RdTouch.ext | with_reducible apply RdTouch.alloc | with_reducible apply RdTouch.drew)); all_goals exact (0 : Nat))).mono ?_; rintro e w' ⟨rfl, hb⟩; obtain ⟨X, rfl⟩ := hb.ext; clear hb; try go_simp; refine hK _ _ (by show Sx _ _; (try simp only [← Array.append_assoc]); repeat (first | with_reducible exact Sx.drew _ | with_reducible exact Sx.same _ _ _ _ | with_reducible exact ⟨_, rfl⟩ | with_reducible apply Sx.more | with_reducible apply Sx.ext | with_reducible apply Sx.alloc | with_reducible apply Sx.draw)) ?_; clear hK K
      repeat (refine wpOrd_quiet rfl (fun K hK => ?_); go_simp; (try simp (disch := omega) only [IntWalk.i64_in]); refine hK _ ?_; clear hK K)
      refine wpOrd_nil ?_
      go_wp2
      refine wp_region_ord [(0,true),(1,true),(2,false),(3,false),(4,true)] 5 (by kernel_rfl) (by kernel_rfl) ?_
      repeat (refine wpOrd_quiet rfl (fun K hK => ?_); go_simp; (try simp (disch := omega) only [IntWalk.i64_in]); refine hK _ ?_; clear hK K)
      refine wpOrd_grow rfl (fun K hK => ?_); go_simp; go_at_call 6; refine (laws_toTouch _ e _ (by (try simp only [← Array.append_assoc]); (repeat (first | with_reducible exact Hid.out (by assumption) | with_reducible apply RdTouch.merge | with_reducible apply RdTouchW.ext | with_reducible apply RdTouchW.alloc | with_reducible apply RdTouchW.drew | with_reducible apply RdTouch.ext | with_reducible apply RdTouch.alloc | with_reducible apply RdTouch.drew)); all_goals exact (0 : Nat)) HL2.out.1 HL2.out.2).mono ?_; rintro x w' ⟨r1, r2, rfl, ho1, ho2, _, hb⟩; obtain ⟨a6, c6, rfl⟩ := ho1.rd.form; obtain ⟨b6, g6, rfl⟩ := ho2.rd.form; obtain ⟨X, rfl⟩ := hb.ext; have hxx : RdTouch _ _ e := ⟨_, _, rfl, ho1.rd, ho2.rd⟩; (try simp only [World.ext_ext, ← Array.append_assoc] at hxx); have HX6 := Lib.hid hxx; clear hxx hb ho1 ho2; try go_simp; refine hK _ _ (by show Sx _ _; (try simp only [← Array.append_assoc]); repeat (first | with_reducible exact Sx.drew _ | with_reducible exact Sx.same _ _ _ _ | with_reducible exact ⟨_, rfl⟩ | with_reducible apply Sx.more | with_reducible apply Sx.ext | with_reducible apply Sx.alloc | with_reducible apply Sx.draw)) ?_; clear hK K
      refine wpOrd_grow rfl (fun K hK => ?_); go_simp; go_at_call 8; refine (laws_eqTouch _ _ e _ (by (try simp only [← Array.append_assoc]); (repeat (first | with_reducible exact Hid.out (by assumption) | with_reducible apply RdTouch.merge | with_reducible apply RdTouchW.ext | with_reducible apply RdTouchW.alloc | with_reducible apply RdTouchW.drew | with_reducible apply RdTouch.ext | with_reducible apply RdTouch.alloc | with_reducible apply RdTouch.drew)); all_goals exact (0 : Nat)) (by (try simp only [← Array.append_assoc]); (repeat (first | with_reducible exact Hid.out (by assumption) | with_reducible apply RdTouch.merge | with_reducible apply RdTouchW.ext | with_reducible apply RdTouchW.alloc | with_reducible apply RdTouchW.drew | with_reducible apply RdTouch.ext | with_reducible apply RdTouch.alloc | with_reducible apply RdTouch.drew)); all_goals exact (0 : Nat))).mono ?_; rintro e w' ⟨rfl, hb⟩; obtain ⟨X, rfl⟩ := hb.ext; clear hb; try go_simp; refine hK _ _ (by show Sx _ _; (try simp only [← Array.append_assoc]); repeat (first | with_reducible exact Sx.drew _ | with_reducible exact Sx.same _ _ _ _ | with_reducible exact ⟨_, rfl⟩ | with_reducible apply Sx.more | with_reducible apply Sx.ext | with_reducible apply Sx.alloc | with_reducible apply Sx.draw)) ?_; clear hK K
      repeat (refine wpOrd_quiet rfl (fun K hK => ?_); go_simp; (try simp (disch := omega) only [IntWalk.i64_in]); refine hK _ ?_; clear hK K)
      refine wpOrd_nil ?_
      go_wp2
      go_ret
      exact ⟨rfl, (by repeat (first | with_reducible exact Below.refl _ _ | with_reducible apply Below.ofExt | with_reducible apply Below.ofAlloc | with_reducible apply Below.drew | with_reducible assumption | (with_reducible refine Below.setCell ?_ (by first | exact Nat.le_refl _ | (simp [go_sem]; done) | (simp [go_sem]; omega)) _)))⟩
    · have e2 := leftOf_none h2
      go_enter Try.func3, Try.ntmps3
      go_wp2_with fail
      (go_at_call 4; refine (laws_szTouch _ d 1048576 _ ((HD.out.alloc _).alloc _) hd (by decide) (by decide)).mono ?_; rintro e w' ⟨rfl, hb⟩; obtain ⟨X, rfl⟩ := hb.ext; clear hb)
      rw [e1]
      go_wp2_with fail
      (go_at_call 4; refine (laws_szTouch _ e (1048576 - d.wt) _ (((HE.out.alloc _).alloc _).ext _) he (by omega) (by omega)).mono ?_; rintro e w' ⟨rfl, hb⟩; obtain ⟨X, rfl⟩ := hb.ext; clear hb)
      rw [e2]
      go_wp2
      go_ret
      exact ⟨rfl, (by repeat (first | with_reducible exact Below.refl _ _ | with_reducible apply Below.ofExt | with_reducible apply Below.ofAlloc | with_reducible apply Below.drew | with_reducible assumption | (with_reducible refine Below.setCell ?_ (by first | exact Nat.le_refl _ | (simp [go_sem]; done) | (simp [go_sem]; omega)) _)))⟩
  · have e1 := leftOf_none h1
    go_enter Try.func3, Try.ntmps3
    go_wp2_with fail
    (go_at_call 4; refine (laws_szTouch _ d 1048576 _ ((HD.out.alloc _).alloc _) hd (by decide) (by decide)).mono ?_; rintro e w' ⟨rfl, hb⟩; obtain ⟨X, rfl⟩ := hb.ext; clear hb)
    rw [e1]
    go_wp2
    go_ret
    exact ⟨rfl, (by repeat (first | with_reducible exact Below.refl _ _ | with_reducible apply Below.ofExt | with_reducible apply Below.ofAlloc | with_reducible apply Below.drew | with_reducible assumption | (with_reducible refine Below.setCell ?_ (by first | exact Nat.le_refl _ | (simp [go_sem]; done) | (simp [go_sem]; omega)) _)))⟩
end Go.Proofs.Ytkoafnkjkjhhpaa
