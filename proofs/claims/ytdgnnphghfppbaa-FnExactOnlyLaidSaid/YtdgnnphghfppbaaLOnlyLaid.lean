/- The law of OnlyLaid: its walk. No condition but that its arguments read. -/
import Derived.Test.YtdgnnphghfppbaaOnly
import Derived.Test.YtdgnnphghfppbaaCTouch
set_option linter.unusedVariables false
set_option linter.unusedSimpArgs false
namespace Go.Proofs.Ytdgnnphghfppbaa
open Go.ChangeShapes Go.WideShapes Go.ChangeAt Go.RowKit

theorem cells_rdl {w : World} {fp : List Nat} {v : Value} {ds : List CellD} (h : (vSlice vCell 50).own w fp [v] ds) : RdL rCell w v ds := rdl_of_own rfl h
theorem spec_OnlyLaidM (va : Value) (a : List CellD) (vb : Value) (b : List CellD) (ct : List Value) (t : TouchD) (w : World) {fa fb : List Nat} (ha : (vSlice vCell 50).own w fa [va] a) (hb : (vSlice vCell 50).own w fb [vb] b) (ht : vTouch.rd w ct t) (hl : a.length ≤ 1048576) (hl2 : b.length ≤ 1048576) :
    Calls Try.prog 28 #[va, vb, .agg ct.toArray] w fun e w' => e = .returned (.bool (covers t.writes (diffC a b))) ∧ Below w.heap.size w w' :=
  spec_OnlyLaid va vb a b ct t w (cells_rdl ha) (cells_rdl hb) ht (vCells_ok (View.toRd _ ha)) (vCells_ok (View.toRd _ hb)) hl hl2
theorem impl_OnlyLaidM (va : Value) (a : List CellD) (vb : Value) (b : List CellD) (ct : List Value) (t : TouchD) (w : World) {fa fb : List Nat} (ha : (vSlice vCell 50).own w fa [va] a) (hb : (vSlice vCell 50).own w fb [vb] b) (ht : vTouch.rd w ct t) (hl : a.length ≤ 1048576) (hl2 : b.length ≤ 1048576) :
    Calls Try.prog 29 #[va, vb, .agg ct.toArray] w fun e w' => e = .returned (.bool (covers t.writes (diffC a b))) ∧ Below w.heap.size w w' :=
  impl_OnlyLaid va vb a b ct t w (cells_rdl ha) (cells_rdl hb) ht (vCells_ok (View.toRd _ ha)) (vCells_ok (View.toRd _ hb)) hl hl2

set_option maxRecDepth 100000 in
set_option maxHeartbeats 4000000 in
theorem law_OnlyLaid (v0 : Value) (d0 : List CellD) (v1 : Value) (d1 : List CellD) (cs2 : List Value) (d2 : TouchD) (w : World) (hs0 : (vSlice vCell 48).rd w [v0] d0) (hs1 : (vSlice vCell 48).rd w [v1] d1) (hs2 : vTouch.rd w cs2 d2) : Calls Try.prog 7 #[v0, v1, .agg cs2.toArray] w (Yes w) := by
  unfold Yes
  obtain ⟨a0, c0, rfl⟩ := vSlice.form hs0
  have H0 := Lib.hid hs0
  clear hs0
  obtain ⟨a1, c1, rfl⟩ := vSlice.form hs1
  have H1 := Lib.hid hs1
  clear hs1
  obtain ⟨a2_0, c2_0, a2_1, c2_1, rfl⟩ := vTouch_shape hs2
  have H2 := Lib.hid hs2
  clear hs2
  go_enter Try.func7, Try.ntmps7
  go_wp2_with fail
  (go_at_call 8; refine (laws_szCellS _ d0 _ _ (by (try simp only [← Array.append_assoc]); (repeat (first | with_reducible exact H0.out | with_reducible apply View.rdMerge | with_reducible apply View.rdExt | with_reducible apply View.rdAlloc | with_reducible apply View.rdDrew)); all_goals exact (0 : Nat)) (by omega) (by omega)).mono ?_; rintro e w' ⟨rfl, hb⟩; obtain ⟨X, rfl⟩ := hb.ext; clear hb)
  have q0e : ∃ q : Nat, q = wtS CellD.wt d0 := ⟨_, rfl⟩
  obtain ⟨q0, q0e⟩ := q0e
  rw [← q0e]
  have Q0 := Lib.hid q0e
  clear q0e
  by_cases g0 : (q0 : Int) ≤ 1048576
  case neg =>
    rw [leftOf_none g0]
    go_wp2
    go_ret
    exact ⟨rfl, (by repeat (first | with_reducible exact Below.refl _ _ | with_reducible apply Below.ofExt | with_reducible apply Below.ofAlloc | with_reducible apply Below.drew | with_reducible apply Below.ofDrewN | with_reducible assumption | (with_reducible refine Below.setCell ?_ (by first | exact Nat.le_refl _ | (simp [go_sem]; done) | (simp [go_sem]; omega)) _)))⟩
  rw [leftOf_pos g0]
  have n0 : ¬ (1048576 - (q0 : Int) : Int) < 0 := by omega
  have L0 : Hid (wtS CellD.wt d0 ≤ 1048576) := by
    have := Q0.out
    show _ ≤ _
    omega
  go_wp2_with fail
  (go_at_call 8; refine (laws_szCellS _ d1 _ _ (by (try simp only [← Array.append_assoc]); (repeat (first | with_reducible exact H1.out | with_reducible apply View.rdMerge | with_reducible apply View.rdExt | with_reducible apply View.rdAlloc | with_reducible apply View.rdDrew)); all_goals exact (0 : Nat)) (by omega) (by omega)).mono ?_; rintro e w' ⟨rfl, hb⟩; obtain ⟨X, rfl⟩ := hb.ext; clear hb)
  have q1e : ∃ q : Nat, q = wtS CellD.wt d1 := ⟨_, rfl⟩
  obtain ⟨q1, q1e⟩ := q1e
  rw [← q1e]
  have Q1 := Lib.hid q1e
  clear q1e
  by_cases g1 : (q1 : Int) ≤ 1048576 - (q0 : Int)
  case neg =>
    rw [leftOf_none g1]
    go_wp2
    go_ret
    exact ⟨rfl, (by repeat (first | with_reducible exact Below.refl _ _ | with_reducible apply Below.ofExt | with_reducible apply Below.ofAlloc | with_reducible apply Below.drew | with_reducible apply Below.ofDrewN | with_reducible assumption | (with_reducible refine Below.setCell ?_ (by first | exact Nat.le_refl _ | (simp [go_sem]; done) | (simp [go_sem]; omega)) _)))⟩
  rw [leftOf_pos g1]
  have n1 : ¬ (1048576 - (q0 : Int) - (q1 : Int) : Int) < 0 := by omega
  have L1 : Hid (wtS CellD.wt d1 ≤ 1048576) := by
    have := Q1.out
    show _ ≤ _
    omega
  go_wp2_with fail
  (go_at_call 15; refine (laws_szTouch _ d2 _ _ (by (try simp only [← Array.append_assoc]); (repeat (first | with_reducible exact H2.out | with_reducible apply View.rdMerge | with_reducible apply View.rdExt | with_reducible apply View.rdAlloc | with_reducible apply View.rdDrew)); all_goals exact (0 : Nat)) (by omega) (by omega)).mono ?_; rintro e w' ⟨rfl, hb⟩; obtain ⟨X, rfl⟩ := hb.ext; clear hb)
  have q2e : ∃ q : Nat, q = TouchD.wt d2 := ⟨_, rfl⟩
  obtain ⟨q2, q2e⟩ := q2e
  rw [← q2e]
  have Q2 := Lib.hid q2e
  clear q2e
  by_cases g2 : (q2 : Int) ≤ 1048576 - (q0 : Int) - (q1 : Int)
  case neg =>
    rw [leftOf_none g2]
    go_wp2
    go_ret
    exact ⟨rfl, (by repeat (first | with_reducible exact Below.refl _ _ | with_reducible apply Below.ofExt | with_reducible apply Below.ofAlloc | with_reducible apply Below.drew | with_reducible apply Below.ofDrewN | with_reducible assumption | (with_reducible refine Below.setCell ?_ (by first | exact Nat.le_refl _ | (simp [go_sem]; done) | (simp [go_sem]; omega)) _)))⟩
  rw [leftOf_pos g2]
  have n2 : ¬ (1048576 - (q0 : Int) - (q1 : Int) - (q2 : Int) : Int) < 0 := by omega
  have L2 : Hid (TouchD.wt d2 ≤ 1048576) := by
    have := Q2.out
    show _ ≤ _
    omega
  have HL0 : Hid (d0.length ≤ 1048576) := (by have := L0.out; unfold wtS at this; show _ ≤ _; omega)
  have HL1 : Hid (d1.length ≤ 1048576) := (by have := L1.out; unfold wtS at this; show _ ≤ _; omega)
  go_wp2
  refine wp_region_ord [(0,true),(2,true),(4,true),(1,false),(3,false),(5,false),(6,false),(7,false)] 7 (by kernel_rfl) (by kernel_rfl) ?_
  repeat (refine wpOrd_quiet rfl (fun K hK => ?_); go_simp; (try simp (disch := omega) only [IntWalk.i64_in]); refine hK _ ?_; clear hK K)
  refine wpOrd_grow rfl (fun K hK => ?_); go_simp; go_at_call 10; refine (laws_toCellS _ d0 _ (by (try simp only [← Array.append_assoc]); (repeat (first | with_reducible exact H0.out | with_reducible apply View.rdMerge | with_reducible apply View.rdExt | with_reducible apply View.rdAlloc | with_reducible apply View.rdDrew)); all_goals exact (0 : Nat)) (by have := L0.out; unfold wtS at this; omega)).mono ?_; rintro e w' ⟨u, fp, rfl, hf, hb⟩; obtain ⟨X, rfl⟩ := hb.ext; clear hb; obtain ⟨xS0, yS0, rfl⟩ := vSlice.form (View.toRd _ hf.own); have hr := hf.own; (try simp only [World.ext_ext, ← Array.append_assoc] at hr); have S0 := Lib.hid hr; clear hf hr; try go_simp; refine hK _ _ (by show Sx _ _; (try simp only [← Array.append_assoc]); repeat (first | with_reducible exact Sx.drew _ | with_reducible exact Sx.same _ _ _ _ | with_reducible exact ⟨_, rfl⟩ | with_reducible apply Sx.more | with_reducible apply Sx.ext | with_reducible apply Sx.alloc | with_reducible apply Sx.draw)) ?_; clear hK K
  refine wpOrd_grow rfl (fun K hK => ?_); go_simp; go_at_call 10; refine (laws_toCellS _ d1 _ (by (try simp only [← Array.append_assoc]); (repeat (first | with_reducible exact H1.out | with_reducible apply View.rdMerge | with_reducible apply View.rdExt | with_reducible apply View.rdAlloc | with_reducible apply View.rdDrew)); all_goals exact (0 : Nat)) (by have := L1.out; unfold wtS at this; omega)).mono ?_; rintro e w' ⟨u, fp, rfl, hf, hb⟩; obtain ⟨X, rfl⟩ := hb.ext; clear hb; obtain ⟨xS1, yS1, rfl⟩ := vSlice.form (View.toRd _ hf.own); have hr := hf.own; (try simp only [World.ext_ext, ← Array.append_assoc] at hr); have S1 := Lib.hid hr; clear hf hr; try go_simp; refine hK _ _ (by show Sx _ _; (try simp only [← Array.append_assoc]); repeat (first | with_reducible exact Sx.drew _ | with_reducible exact Sx.same _ _ _ _ | with_reducible exact ⟨_, rfl⟩ | with_reducible apply Sx.more | with_reducible apply Sx.ext | with_reducible apply Sx.alloc | with_reducible apply Sx.draw)) ?_; clear hK K
  refine wpOrd_grow rfl (fun K hK => ?_); go_simp; go_at_call 17; refine (laws_toTouch _ d2 _ (by (try simp only [← Array.append_assoc]); (repeat (first | with_reducible exact H2.out | with_reducible apply View.rdMerge | with_reducible apply View.rdExt | with_reducible apply View.rdAlloc | with_reducible apply View.rdDrew)); all_goals exact (0 : Nat)) L2.out).mono ?_; rintro e w' ⟨cs, fp, rfl, hf, hb⟩; obtain ⟨X, rfl⟩ := hb.ext; clear hb; obtain ⟨xS2_0, yS2_0, xS2_1, yS2_1, rfl⟩ := vTouch_shape (View.toRd _ hf.own); have hr := View.toRd _ hf.own; (try simp only [World.ext_ext, ← Array.append_assoc] at hr); have S2 := Lib.hid hr; clear hf hr; try go_simp; refine hK _ _ (by show Sx _ _; (try simp only [← Array.append_assoc]); repeat (first | with_reducible exact Sx.drew _ | with_reducible exact Sx.same _ _ _ _ | with_reducible exact ⟨_, rfl⟩ | with_reducible apply Sx.more | with_reducible apply Sx.ext | with_reducible apply Sx.alloc | with_reducible apply Sx.draw)) ?_; clear hK K
  refine wpOrd_grow rfl (fun K hK => ?_); go_simp; go_at_call 28; refine (spec_OnlyLaidM _ d0 _ d1 _ d2 _ (by (try simp only [← Array.append_assoc]); (repeat (first | with_reducible exact S0.out | with_reducible apply View.ownMerge | with_reducible apply View.ownExt | with_reducible apply View.ownAlloc)); all_goals exact (0 : Nat)) (by (try simp only [← Array.append_assoc]); (repeat (first | with_reducible exact S1.out | with_reducible apply View.ownMerge | with_reducible apply View.ownExt | with_reducible apply View.ownAlloc)); all_goals exact (0 : Nat)) (by (try simp only [← Array.append_assoc]); (repeat (first | with_reducible exact S2.out | with_reducible apply View.rdMerge | with_reducible apply View.rdExt | with_reducible apply View.rdAlloc | with_reducible apply View.rdDrew)); all_goals exact (0 : Nat)) HL0.out HL1.out).mono ?_; rintro e w' ⟨rfl, hb⟩; obtain ⟨X, rfl⟩ := hb.ext; clear hb; try go_simp; refine hK _ _ (by show Sx _ _; (try simp only [← Array.append_assoc]); repeat (first | with_reducible exact Sx.drew _ | with_reducible exact Sx.same _ _ _ _ | with_reducible exact ⟨_, rfl⟩ | with_reducible apply Sx.more | with_reducible apply Sx.ext | with_reducible apply Sx.alloc | with_reducible apply Sx.draw)) ?_; clear hK K
  repeat (refine wpOrd_tail rfl rfl (fun K hK => ?_); go_simp; refine hK _ _ ?_; clear hK K)
  refine wpOrd_nil ?_
  go_wp2_with fail
  (go_at_call 10; refine (laws_toCellS _ d0 _ (by (try simp only [← Array.append_assoc]); (repeat (first | with_reducible exact H0.out | with_reducible apply View.rdMerge | with_reducible apply View.rdExt | with_reducible apply View.rdAlloc | with_reducible apply View.rdDrew)); all_goals exact (0 : Nat)) (by have := L0.out; unfold wtS at this; omega)).mono ?_; rintro e w' ⟨u, fp, rfl, hf, hb⟩; obtain ⟨X, rfl⟩ := hb.ext; clear hb; obtain ⟨xG0, yG0, rfl⟩ := vSlice.form (View.toRd _ hf.own); have hr := hf.own; (try simp only [World.ext_ext, ← Array.append_assoc] at hr); have G0 := Lib.hid hr; clear hf hr)
  go_wp2_with fail
  (go_at_call 10; refine (laws_toCellS _ d1 _ (by (try simp only [← Array.append_assoc]); (repeat (first | with_reducible exact H1.out | with_reducible apply View.rdMerge | with_reducible apply View.rdExt | with_reducible apply View.rdAlloc | with_reducible apply View.rdDrew)); all_goals exact (0 : Nat)) (by have := L1.out; unfold wtS at this; omega)).mono ?_; rintro e w' ⟨u, fp, rfl, hf, hb⟩; obtain ⟨X, rfl⟩ := hb.ext; clear hb; obtain ⟨xG1, yG1, rfl⟩ := vSlice.form (View.toRd _ hf.own); have hr := hf.own; (try simp only [World.ext_ext, ← Array.append_assoc] at hr); have G1 := Lib.hid hr; clear hf hr)
  go_wp2_with fail
  (go_at_call 17; refine (laws_toTouch _ d2 _ (by (try simp only [← Array.append_assoc]); (repeat (first | with_reducible exact H2.out | with_reducible apply View.rdMerge | with_reducible apply View.rdExt | with_reducible apply View.rdAlloc | with_reducible apply View.rdDrew)); all_goals exact (0 : Nat)) L2.out).mono ?_; rintro e w' ⟨cs, fp, rfl, hf, hb⟩; obtain ⟨X, rfl⟩ := hb.ext; clear hb; obtain ⟨xG2_0, yG2_0, xG2_1, yG2_1, rfl⟩ := vTouch_shape (View.toRd _ hf.own); have hr := View.toRd _ hf.own; (try simp only [World.ext_ext, ← Array.append_assoc] at hr); have G2 := Lib.hid hr; clear hf hr)
  go_wp2_with fail
  (go_at_call 29; refine (impl_OnlyLaidM _ d0 _ d1 _ d2 _ (by (try simp only [← Array.append_assoc]); (repeat (first | with_reducible exact G0.out | with_reducible apply View.ownMerge | with_reducible apply View.ownExt | with_reducible apply View.ownAlloc)); all_goals exact (0 : Nat)) (by (try simp only [← Array.append_assoc]); (repeat (first | with_reducible exact G1.out | with_reducible apply View.ownMerge | with_reducible apply View.ownExt | with_reducible apply View.ownAlloc)); all_goals exact (0 : Nat)) (by (try simp only [← Array.append_assoc]); (repeat (first | with_reducible exact G2.out | with_reducible apply View.rdMerge | with_reducible apply View.rdExt | with_reducible apply View.rdAlloc | with_reducible apply View.rdDrew)); all_goals exact (0 : Nat)) HL0.out HL1.out).mono ?_; rintro e w' ⟨rfl, hb⟩; obtain ⟨X, rfl⟩ := hb.ext; clear hb)
  go_wp2_with fail
  (go_at_call 10; refine (laws_toCellS _ d0 _ (by (try simp only [← Array.append_assoc]); (repeat (first | with_reducible exact H0.out | with_reducible apply View.rdMerge | with_reducible apply View.rdExt | with_reducible apply View.rdAlloc | with_reducible apply View.rdDrew)); all_goals exact (0 : Nat)) (by have := L0.out; unfold wtS at this; omega)).mono ?_; rintro e w' ⟨u, fp, rfl, hf, hb⟩; obtain ⟨X, rfl⟩ := hb.ext; clear hb; obtain ⟨xE0, yE0, rfl⟩ := vSlice.form (View.toRd _ hf.own); have hr := hf.own; (try simp only [World.ext_ext, ← Array.append_assoc] at hr); have E0 := Lib.hid hr; clear hf hr)
  go_wp2_with fail
  (go_at_call 12; refine (laws_eqCellS _ _ d0 _ (View.toRd _ (by (try simp only [← Array.append_assoc]); (repeat (first | with_reducible exact G0.out | with_reducible apply View.ownMerge | with_reducible apply View.ownExt | with_reducible apply View.ownAlloc)); all_goals exact (0 : Nat))) (View.toRd _ (by (try simp only [← Array.append_assoc]); (repeat (first | with_reducible exact E0.out | with_reducible apply View.ownMerge | with_reducible apply View.ownExt | with_reducible apply View.ownAlloc)); all_goals exact (0 : Nat)))).mono ?_; rintro e w' ⟨rfl, hb⟩; obtain ⟨X, rfl⟩ := hb.ext; clear hb)
  go_wp2_with fail
  (go_at_call 10; refine (laws_toCellS _ d1 _ (by (try simp only [← Array.append_assoc]); (repeat (first | with_reducible exact H1.out | with_reducible apply View.rdMerge | with_reducible apply View.rdExt | with_reducible apply View.rdAlloc | with_reducible apply View.rdDrew)); all_goals exact (0 : Nat)) (by have := L1.out; unfold wtS at this; omega)).mono ?_; rintro e w' ⟨u, fp, rfl, hf, hb⟩; obtain ⟨X, rfl⟩ := hb.ext; clear hb; obtain ⟨xE1, yE1, rfl⟩ := vSlice.form (View.toRd _ hf.own); have hr := hf.own; (try simp only [World.ext_ext, ← Array.append_assoc] at hr); have E1 := Lib.hid hr; clear hf hr)
  go_wp2_with fail
  (go_at_call 12; refine (laws_eqCellS _ _ d1 _ (View.toRd _ (by (try simp only [← Array.append_assoc]); (repeat (first | with_reducible exact G1.out | with_reducible apply View.ownMerge | with_reducible apply View.ownExt | with_reducible apply View.ownAlloc)); all_goals exact (0 : Nat))) (View.toRd _ (by (try simp only [← Array.append_assoc]); (repeat (first | with_reducible exact E1.out | with_reducible apply View.ownMerge | with_reducible apply View.ownExt | with_reducible apply View.ownAlloc)); all_goals exact (0 : Nat)))).mono ?_; rintro e w' ⟨rfl, hb⟩; obtain ⟨X, rfl⟩ := hb.ext; clear hb)
  go_wp2
  refine wp_region_ord [(0,true),(1,true),(2,false),(3,false),(4,true)] 5 (by kernel_rfl) (by kernel_rfl) ?_
  repeat (refine wpOrd_quiet rfl (fun K hK => ?_); go_simp; (try simp (disch := omega) only [IntWalk.i64_in]); refine hK _ ?_; clear hK K)
  refine wpOrd_grow rfl (fun K hK => ?_); go_simp; go_at_call 17; refine (laws_toTouch _ d2 _ (by (try simp only [← Array.append_assoc]); (repeat (first | with_reducible exact H2.out | with_reducible apply View.rdMerge | with_reducible apply View.rdExt | with_reducible apply View.rdAlloc | with_reducible apply View.rdDrew)); all_goals exact (0 : Nat)) L2.out).mono ?_; rintro e w' ⟨cs, fp, rfl, hf, hb⟩; obtain ⟨X, rfl⟩ := hb.ext; clear hb; obtain ⟨xE2_0, yE2_0, xE2_1, yE2_1, rfl⟩ := vTouch_shape (View.toRd _ hf.own); have hr := View.toRd _ hf.own; (try simp only [World.ext_ext, ← Array.append_assoc] at hr); have E2 := Lib.hid hr; clear hf hr; try go_simp; refine hK _ _ (by show Sx _ _; (try simp only [← Array.append_assoc]); repeat (first | with_reducible exact Sx.drew _ | with_reducible exact Sx.same _ _ _ _ | with_reducible exact ⟨_, rfl⟩ | with_reducible apply Sx.more | with_reducible apply Sx.ext | with_reducible apply Sx.alloc | with_reducible apply Sx.draw)) ?_; clear hK K
  refine wpOrd_grow rfl (fun K hK => ?_); go_simp; go_at_call 19; refine (laws_eqTouch _ _ d2 _ (by (try simp only [← Array.append_assoc]); (repeat (first | with_reducible exact G2.out | with_reducible apply View.rdMerge | with_reducible apply View.rdExt | with_reducible apply View.rdAlloc | with_reducible apply View.rdDrew)); all_goals exact (0 : Nat)) (by (try simp only [← Array.append_assoc]); (repeat (first | with_reducible exact E2.out | with_reducible apply View.rdMerge | with_reducible apply View.rdExt | with_reducible apply View.rdAlloc | with_reducible apply View.rdDrew)); all_goals exact (0 : Nat))).mono ?_; rintro e w' ⟨rfl, hb⟩; obtain ⟨X, rfl⟩ := hb.ext; clear hb; try go_simp; refine hK _ _ (by show Sx _ _; (try simp only [← Array.append_assoc]); repeat (first | with_reducible exact Sx.drew _ | with_reducible exact Sx.same _ _ _ _ | with_reducible exact ⟨_, rfl⟩ | with_reducible apply Sx.more | with_reducible apply Sx.ext | with_reducible apply Sx.alloc | with_reducible apply Sx.draw)) ?_; clear hK K
  repeat (refine wpOrd_quiet rfl (fun K hK => ?_); go_simp; (try simp (disch := omega) only [IntWalk.i64_in]); refine hK _ ?_; clear hK K)
  refine wpOrd_nil ?_
  go_wp2
  go_ret
  exact ⟨rfl, (by repeat (first | with_reducible exact Below.refl _ _ | with_reducible apply Below.ofExt | with_reducible apply Below.ofAlloc | with_reducible apply Below.drew | with_reducible apply Below.ofDrewN | with_reducible assumption | (with_reducible refine Below.setCell ?_ (by first | exact Nat.le_refl _ | (simp [go_sem]; done) | (simp [go_sem]; omega)) _)))⟩
end Go.Proofs.Ytdgnnphghfppbaa
