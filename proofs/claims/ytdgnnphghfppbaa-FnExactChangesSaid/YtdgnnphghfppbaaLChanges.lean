/- The law of Changes: the program's and the reference's. Each condition stands in its theorem. -/
import Derived.Test.YtdgnnphghfppbaaChg
set_option linter.unusedVariables false
set_option linter.unusedSimpArgs false
namespace Go.Proofs.Ytdgnnphghfppbaa
open Go.ChangeShapes Go.WideShapes Go.ChangeAt Go.RowKit

theorem alloc_sz (W : World) (o : Obj) : (W.alloc o).heap.size = W.heap.size + 1 := by simp
theorem _root_.Go.World.block_ext1 (w : World) (o : Obj) (X : Ext) (p : Obj) (Y : Ext) : ((((w.alloc o).ext X).alloc p).ext Y).heap[w.heap.size]? = some o := by
  rw [World.ext_get _ _ (by simp [World.ext_size]; omega)]
  show ((((w.alloc o).ext X).heap).push p)[w.heap.size]? = _
  rw [Array.getElem?_push, if_neg (by have := World.lt_of_get (World.block_ext0 w o X); omega)]
  exact World.block_ext0 w o X
theorem cntCellS_le (ds : List CellD) : 2 * ds.length ≤ 6 * wtS CellD.wt ds := by
  unfold wtS
  omega
theorem cells_rdl {w : World} {fp : List Nat} {v : Value} {ds : List CellD} (h : (vSlice vCell 50).own w fp [v] ds) : RdL rCell w v ds := rdl_of_own rfl h
theorem spec_ChangesM (va vy : Value) (zs ys : List CellD) (fa fy : List Nat) (w : World) (ha : (vSlice vCell 50).own w fa [va] zs) (hy : (vSlice vCell 50).own w fy [vy] ys) (hl : zs.length ≤ 1048576) (hl2 : ys.length ≤ 1048576) :
    Calls Try.prog 21 #[va, vy] w (Made (vSlice vCell 50) w (chgC zs ys)) := by
  refine (spec_Changes va vy zs ys w (cells_rdl ha) (cells_rdl hy) hl hl2).mono ?_
  rintro e w' ⟨v', rfl, ho, hb⟩
  obtain ⟨fp, h1, h2, h3⟩ := own_of_cells ho (chgC_ok zs ys (vCells_ok (View.toRd _ ha)) (vCells_ok (View.toRd _ hy)))
  exact ⟨v', fp, rfl, ⟨h1, h2, h3⟩, hb⟩
theorem impl_ChangesM (va vy : Value) (zs ys : List CellD) (fa fy : List Nat) (w : World) (ha : (vSlice vCell 50).own w fa [va] zs) (hy : (vSlice vCell 50).own w fy [vy] ys) (hl : zs.length ≤ 1048576) (hl2 : ys.length ≤ 1048576) :
    Calls Try.prog 22 #[va, vy] w (Made (vSlice vCell 50) w (chgC zs ys)) := by
  refine (impl_Changes va vy zs ys w (cells_rdl ha) (cells_rdl hy) (vCells_ok (View.toRd _ ha)) (vCells_ok (View.toRd _ hy)) hl hl2).mono ?_
  rintro e w' ⟨v', rfl, ho, hb⟩
  obtain ⟨fp, h1, h2, h3⟩ := own_of_cells ho (chgC_ok zs ys (vCells_ok (View.toRd _ ha)) (vCells_ok (View.toRd _ hy)))
  exact ⟨v', fp, rfl, ⟨h1, h2, h3⟩, hb⟩
set_option maxRecDepth 100000 in
set_option maxHeartbeats 4000000 in
theorem law_Changes (v0 : Value) (d0 : List CellD) (v1 : Value) (d1 : List CellD) (w : World) (hs0 : (vSlice vCell 48).rd w [v0] d0) (hs1 : (vSlice vCell 48).rd w [v1] d1) : Calls Try.prog 5 #[v0, v1] w (Yes w) := by
  unfold Yes
  obtain ⟨a0, c0, rfl⟩ := vSlice.form hs0
  have H0 := Lib.hid hs0
  clear hs0
  obtain ⟨a1, c1, rfl⟩ := vSlice.form hs1
  have H1 := Lib.hid hs1
  clear hs1
  go_enter Try.func5, Try.ntmps5
  go_wp2_with fail
  (go_at_call 8; refine (laws_szCellS _ d0 _ _ (by (try simp only [← Array.append_assoc]); (repeat (first | with_reducible exact H0.out | with_reducible apply View.rdMerge | with_reducible apply View.rdExt | with_reducible apply View.rdAlloc | with_reducible apply View.rdDrew)); all_goals exact (0 : Nat)) (by omega) (by omega)).mono ?_; rintro e w' ⟨rfl, hb⟩; obtain ⟨X, rfl⟩ := hb.ext; clear hb)
  have q0e : ∃ q : Nat, q = wtS CellD.wt d0 := ⟨_, rfl⟩
  obtain ⟨q0, q0e⟩ := q0e
  rw [← q0e]
  have Q0 := Lib.hid q0e
  clear q0e
  by_cases g0 : (q0 : Int) ≤ 1048576
  case neg =>
    rw [leftOf_none g0]
    go_wp2
    go_ret
    exact ⟨rfl, (by repeat (first | with_reducible exact Below.refl _ _ | with_reducible apply Below.ofExt | with_reducible apply Below.ofAlloc | with_reducible apply Below.drew | with_reducible apply Below.ofDrewN | with_reducible assumption | (with_reducible refine Below.setCell ?_ (by first | exact Nat.le_refl _ | (simp [go_sem]; done) | (simp [go_sem]; omega)) _)))⟩
  rw [leftOf_pos g0]
  have n0 : ¬ (1048576 - (q0 : Int) : Int) < 0 := by omega
  have L0 : Hid (wtS CellD.wt d0 ≤ 1048576) := by
    have := Q0.out
    show _ ≤ _
    omega
  go_wp2_with fail
  (go_at_call 8; refine (laws_szCellS _ d1 _ _ (by (try simp only [← Array.append_assoc]); (repeat (first | with_reducible exact H1.out | with_reducible apply View.rdMerge | with_reducible apply View.rdExt | with_reducible apply View.rdAlloc | with_reducible apply View.rdDrew)); all_goals exact (0 : Nat)) (by omega) (by omega)).mono ?_; rintro e w' ⟨rfl, hb⟩; obtain ⟨X, rfl⟩ := hb.ext; clear hb)
  have q1e : ∃ q : Nat, q = wtS CellD.wt d1 := ⟨_, rfl⟩
  obtain ⟨q1, q1e⟩ := q1e
  rw [← q1e]
  have Q1 := Lib.hid q1e
  clear q1e
  by_cases g1 : (q1 : Int) ≤ 1048576 - (q0 : Int)
  case neg =>
    rw [leftOf_none g1]
    go_wp2
    go_ret
    exact ⟨rfl, (by repeat (first | with_reducible exact Below.refl _ _ | with_reducible apply Below.ofExt | with_reducible apply Below.ofAlloc | with_reducible apply Below.drew | with_reducible apply Below.ofDrewN | with_reducible assumption | (with_reducible refine Below.setCell ?_ (by first | exact Nat.le_refl _ | (simp [go_sem]; done) | (simp [go_sem]; omega)) _)))⟩
  rw [leftOf_pos g1]
  have n1 : ¬ (1048576 - (q0 : Int) - (q1 : Int) : Int) < 0 := by omega
  have L1 : Hid (wtS CellD.wt d1 ≤ 1048576) := by
    have := Q1.out
    show _ ≤ _
    omega
  have HL0 : Hid (d0.length ≤ 1048576) := (by have := L0.out; unfold wtS at this; show _ ≤ _; omega)
  have HL1 : Hid (d1.length ≤ 1048576) := (by have := L1.out; unfold wtS at this; show _ ≤ _; omega)
  have HIL : Hid ((chgC d0 d1).length ≤ 2097152) := (by have := chgC_len d0 d1; have := HL0.out; have := HL1.out; show _ ≤ _; omega)
  have HCNT : Hid ((1 : Int) + ((2 * d0.length : Nat) : Int) + ((2 * d1.length : Nat) : Int) ≤ 4294960000) := by
    have t0 := cntCellS_le d0
    have u0 := L0.out
    have t1 := cntCellS_le d1
    have u1 := L1.out
    show _ ≤ _
    omega
  obtain ⟨ids, hids⟩ : ∃ ids, ids = chgC d0 d1 := ⟨_, rfl⟩
  rw [← hids] at HIL
  have HIDS := Lib.hid hids
  clear hids
  go_wp2_with fail
  (go_at_call 10; refine (laws_toCellS _ d0 _ (by (try simp only [← Array.append_assoc]); (repeat (first | with_reducible exact H0.out | with_reducible apply View.rdMerge | with_reducible apply View.rdExt | with_reducible apply View.rdAlloc | with_reducible apply View.rdDrew)); all_goals exact (0 : Nat)) (by have := L0.out; unfold wtS at this; omega)).mono ?_; rintro e w' ⟨u, fpS0, rfl, hf, hb⟩; obtain ⟨XS0, rfl⟩ := hb.ext; clear hb; obtain ⟨xS0, yS0, rfl⟩ := vSlice.form (View.toRd _ hf.own); have ho := hf.own; have hs := hf.sp; (try simp only [World.ext_ext, ← Array.append_assoc] at ho); (try simp only [World.ext_size, Array.size_append] at hs); have OS0 := Lib.hid ho; have SS0 := Lib.hid hs; clear hf ho hs)
  go_wp2_with fail
  (go_at_call 10; refine (laws_toCellS _ d1 _ (by (try simp only [← Array.append_assoc]); (repeat (first | with_reducible exact H1.out | with_reducible apply View.rdMerge | with_reducible apply View.rdExt | with_reducible apply View.rdAlloc | with_reducible apply View.rdDrew)); all_goals exact (0 : Nat)) (by have := L1.out; unfold wtS at this; omega)).mono ?_; rintro e w' ⟨u, fpS1, rfl, hf, hb⟩; obtain ⟨XS1, rfl⟩ := hb.ext; clear hb; obtain ⟨xS1, yS1, rfl⟩ := vSlice.form (View.toRd _ hf.own); have ho := hf.own; have hs := hf.sp; (try simp only [World.ext_ext, ← Array.append_assoc] at ho); (try simp only [World.ext_size, Array.size_append] at hs); have OS1 := Lib.hid ho; have SS1 := Lib.hid hs; clear hf ho hs)
  go_wp2_with fail
  (go_at_call 21; refine (spec_ChangesM _ _ d0 d1 _ _ _ (by (try simp only [← Array.append_assoc]); (repeat (first | with_reducible exact OS0.out | with_reducible apply View.ownMerge | with_reducible apply View.ownExt | with_reducible apply View.ownAlloc)); all_goals exact (0 : Nat)) (by (try simp only [← Array.append_assoc]); (repeat (first | with_reducible exact OS1.out | with_reducible apply View.ownMerge | with_reducible apply View.ownExt | with_reducible apply View.ownAlloc)); all_goals exact (0 : Nat)) HL0.out HL1.out).mono ?_; rintro e w' ⟨u, fpW, rfl, hf, hb⟩; obtain ⟨XW, rfl⟩ := hb.ext; clear hb; obtain ⟨xW, yW, rfl⟩ := vSlice.form (View.toRd _ hf.own); have ho := hf.own; have hs := hf.sp; (try simp only [World.ext_ext, ← Array.append_assoc] at ho); (try simp only [World.ext_size, Array.size_append] at hs); have OW := Lib.hid ho; have SW := Lib.hid hs; clear hf ho hs)
  rw [← HIDS.out] at OW ⊢
  go_wp2_with fail
  (go_at_call 10; refine (laws_toCellS _ d0 _ (by (try simp only [← Array.append_assoc]); (repeat (first | with_reducible exact H0.out | with_reducible apply View.rdMerge | with_reducible apply View.rdExt | with_reducible apply View.rdAlloc | with_reducible apply View.rdDrew)); all_goals exact (0 : Nat)) (by have := L0.out; unfold wtS at this; omega)).mono ?_; rintro e w' ⟨u, fpK0, rfl, hf, hb⟩; obtain ⟨XK0, rfl⟩ := hb.ext; clear hb; obtain ⟨xK0, yK0, rfl⟩ := vSlice.form (View.toRd _ hf.own); have ho := hf.own; have hs := hf.sp; (try simp only [World.ext_ext, ← Array.append_assoc] at ho); (try simp only [World.ext_size, Array.size_append] at hs); have OK0 := Lib.hid ho; have SK0 := Lib.hid hs; clear hf ho hs)
  go_wp2_with fail
  (go_at_call 10; refine (laws_toCellS _ d1 _ (by (try simp only [← Array.append_assoc]); (repeat (first | with_reducible exact H1.out | with_reducible apply View.rdMerge | with_reducible apply View.rdExt | with_reducible apply View.rdAlloc | with_reducible apply View.rdDrew)); all_goals exact (0 : Nat)) (by have := L1.out; unfold wtS at this; omega)).mono ?_; rintro e w' ⟨u, fpK1, rfl, hf, hb⟩; obtain ⟨XK1, rfl⟩ := hb.ext; clear hb; obtain ⟨xK1, yK1, rfl⟩ := vSlice.form (View.toRd _ hf.own); have ho := hf.own; have hs := hf.sp; (try simp only [World.ext_ext, ← Array.append_assoc] at ho); (try simp only [World.ext_size, Array.size_append] at hs); have OK1 := Lib.hid ho; have SK1 := Lib.hid hs; clear hf ho hs)
  go_wp2_with fail
  (go_at_call 22; refine (impl_ChangesM _ _ d0 d1 _ _ _ (by (try simp only [← Array.append_assoc]); (repeat (first | with_reducible exact OK0.out | with_reducible apply View.ownMerge | with_reducible apply View.ownExt | with_reducible apply View.ownAlloc)); all_goals exact (0 : Nat)) (by (try simp only [← Array.append_assoc]); (repeat (first | with_reducible exact OK1.out | with_reducible apply View.ownMerge | with_reducible apply View.ownExt | with_reducible apply View.ownAlloc)); all_goals exact (0 : Nat)) HL0.out HL1.out).mono ?_; rintro e w' ⟨u, fpG, rfl, hf, hb⟩; obtain ⟨XG, rfl⟩ := hb.ext; clear hb; obtain ⟨xG, yG, rfl⟩ := vSlice.form (View.toRd _ hf.own); have ho := hf.own; have hs := hf.sp; (try simp only [World.ext_ext, ← Array.append_assoc] at ho); (try simp only [World.ext_size, Array.size_append] at hs); have OG := Lib.hid ho; have SG := Lib.hid hs; clear hf ho hs)
  rw [← HIDS.out] at OG ⊢
  go_wp2_with fail
  (go_at_call 12; refine (laws_eqCellS _ _ ids _ (View.toRd _ (by (try simp only [← Array.append_assoc]); (repeat (first | with_reducible exact OG.out | with_reducible apply View.ownMerge | with_reducible apply View.ownExt | with_reducible apply View.ownAlloc)); all_goals exact (0 : Nat))) (View.toRd _ (by (try simp only [← Array.append_assoc]); (repeat (first | with_reducible exact OW.out | with_reducible apply View.ownMerge | with_reducible apply View.ownExt | with_reducible apply View.ownAlloc)); all_goals exact (0 : Nat)))).mono ?_; rintro e w' ⟨rfl, hb⟩; obtain ⟨X, rfl⟩ := hb.ext; clear hb)
  go_wp2_with fail
  (go_at_call 10; refine (laws_toCellS _ d0 _ (by (try simp only [← Array.append_assoc]); (repeat (first | with_reducible exact H0.out | with_reducible apply View.rdMerge | with_reducible apply View.rdExt | with_reducible apply View.rdAlloc | with_reducible apply View.rdDrew)); all_goals exact (0 : Nat)) (by have := L0.out; unfold wtS at this; omega)).mono ?_; rintro e w' ⟨u, fpE0, rfl, hf, hb⟩; obtain ⟨XE0, rfl⟩ := hb.ext; clear hb; obtain ⟨xE0, yE0, rfl⟩ := vSlice.form (View.toRd _ hf.own); have ho := hf.own; have hs := hf.sp; (try simp only [World.ext_ext, ← Array.append_assoc] at ho); (try simp only [World.ext_size, Array.size_append] at hs); have OE0 := Lib.hid ho; have SE0 := Lib.hid hs; clear hf ho hs)
  go_wp2_with fail
  (go_at_call 12; refine (laws_eqCellS _ _ d0 _ (View.toRd _ (by (try simp only [← Array.append_assoc]); (repeat (first | with_reducible exact OK0.out | with_reducible apply View.ownMerge | with_reducible apply View.ownExt | with_reducible apply View.ownAlloc)); all_goals exact (0 : Nat))) (View.toRd _ (by (try simp only [← Array.append_assoc]); (repeat (first | with_reducible exact OE0.out | with_reducible apply View.ownMerge | with_reducible apply View.ownExt | with_reducible apply View.ownAlloc)); all_goals exact (0 : Nat)))).mono ?_; rintro e w' ⟨rfl, hb⟩; obtain ⟨X, rfl⟩ := hb.ext; clear hb)
  go_wp2_with fail
  (go_at_call 10; refine (laws_toCellS _ d1 _ (by (try simp only [← Array.append_assoc]); (repeat (first | with_reducible exact H1.out | with_reducible apply View.rdMerge | with_reducible apply View.rdExt | with_reducible apply View.rdAlloc | with_reducible apply View.rdDrew)); all_goals exact (0 : Nat)) (by have := L1.out; unfold wtS at this; omega)).mono ?_; rintro e w' ⟨u, fpE1, rfl, hf, hb⟩; obtain ⟨XE1, rfl⟩ := hb.ext; clear hb; obtain ⟨xE1, yE1, rfl⟩ := vSlice.form (View.toRd _ hf.own); have ho := hf.own; have hs := hf.sp; (try simp only [World.ext_ext, ← Array.append_assoc] at ho); (try simp only [World.ext_size, Array.size_append] at hs); have OE1 := Lib.hid ho; have SE1 := Lib.hid hs; clear hf ho hs)
  go_wp2_with fail
  (go_at_call 12; refine (laws_eqCellS _ _ d1 _ (View.toRd _ (by (try simp only [← Array.append_assoc]); (repeat (first | with_reducible exact OK1.out | with_reducible apply View.ownMerge | with_reducible apply View.ownExt | with_reducible apply View.ownAlloc)); all_goals exact (0 : Nat))) (View.toRd _ (by (try simp only [← Array.append_assoc]); (repeat (first | with_reducible exact OE1.out | with_reducible apply View.ownMerge | with_reducible apply View.ownExt | with_reducible apply View.ownAlloc)); all_goals exact (0 : Nat)))).mono ?_; rintro e w' ⟨rfl, hb⟩; obtain ⟨X, rfl⟩ := hb.ext; clear hb)
  have DWK0 : Hid (∀ x ∈ fpW, x ∉ fpK0) := fun x hx h => by have h1 := SW.out.hi x hx; have h2 := SK0.out.lo x h; (try simp [World.ext_size] at h1); (try simp [World.ext_size] at h2); omega
  have DK0W : Hid (∀ x ∈ fpK0, x ∉ fpW) := fun x hx h => DWK0.out x h hx
  have DWK1 : Hid (∀ x ∈ fpW, x ∉ fpK1) := fun x hx h => by have h1 := SW.out.hi x hx; have h2 := SK1.out.lo x h; (try simp [World.ext_size] at h1); (try simp [World.ext_size] at h2); omega
  have DK1W : Hid (∀ x ∈ fpK1, x ∉ fpW) := fun x hx h => DWK1.out x h hx
  have DWG : Hid (∀ x ∈ fpW, x ∉ fpG) := fun x hx h => by have h1 := SW.out.hi x hx; have h2 := SG.out.lo x h; (try simp [World.ext_size] at h1); (try simp [World.ext_size] at h2); omega
  have DGW : Hid (∀ x ∈ fpG, x ∉ fpW) := fun x hx h => DWG.out x h hx
  have DK0K1 : Hid (∀ x ∈ fpK0, x ∉ fpK1) := fun x hx h => by have h1 := SK0.out.hi x hx; have h2 := SK1.out.lo x h; (try simp [World.ext_size] at h1); (try simp [World.ext_size] at h2); omega
  have DK1K0 : Hid (∀ x ∈ fpK1, x ∉ fpK0) := fun x hx h => DK0K1.out x h hx
  have DK0G : Hid (∀ x ∈ fpK0, x ∉ fpG) := fun x hx h => by have h1 := SK0.out.hi x hx; have h2 := SG.out.lo x h; (try simp [World.ext_size] at h1); (try simp [World.ext_size] at h2); omega
  have DGK0 : Hid (∀ x ∈ fpG, x ∉ fpK0) := fun x hx h => DK0G.out x h hx
  have DK1G : Hid (∀ x ∈ fpK1, x ∉ fpG) := fun x hx h => by have h1 := SK1.out.hi x hx; have h2 := SG.out.lo x h; (try simp [World.ext_size] at h1); (try simp [World.ext_size] at h2); omega
  have DGK1 : Hid (∀ x ∈ fpG, x ∉ fpK1) := fun x hx h => DK1G.out x h hx
  have LK0 : Hid (∀ x ∈ fpK0, w.heap.size ≤ x) := fun x hx => by have h2 := SK0.out.lo x hx; (try simp [World.ext_size] at h2 ⊢); omega
  have LK1 : Hid (∀ x ∈ fpK1, w.heap.size ≤ x) := fun x hx => by have h2 := SK1.out.lo x hx; (try simp [World.ext_size] at h2 ⊢); omega
  have LG : Hid (∀ x ∈ fpG, w.heap.size ≤ x) := fun x hx => by have h2 := SG.out.lo x hx; (try simp [World.ext_size] at h2 ⊢); omega
  have N0 : Hid fpK0.Nodup := SK0.out.nodup
  have N1 : Hid fpK1.Nodup := SK1.out.nodup
  go_wp2_with fail
  (go_at_call 13; refine (laws_markCellS _ fpK0 d0 _ _ (by (try simp only [← Array.append_assoc]); (repeat (first | with_reducible exact OK0.out | with_reducible apply View.ownMerge | with_reducible apply View.ownExt | with_reducible apply View.ownAlloc)); all_goals exact (0 : Nat)) (by omega) (by have := HCNT.out; omega)).mono ?_; rintro e w' ⟨rfl, _, hu⟩)
  have oK1 := View.ownUpon (by (try simp only [← Array.append_assoc]); (repeat (first | with_reducible exact OK1.out | with_reducible apply View.ownMerge | with_reducible apply View.ownExt | with_reducible apply View.ownAlloc)); all_goals exact (0 : Nat)) hu DK1K0.out
  have oG := View.ownUpon (by (try simp only [← Array.append_assoc]); (repeat (first | with_reducible exact OG.out | with_reducible apply View.ownMerge | with_reducible apply View.ownExt | with_reducible apply View.ownAlloc)); all_goals exact (0 : Nat)) hu DGK0.out
  have oW := View.ownUpon (by (try simp only [← Array.append_assoc]); (repeat (first | with_reducible exact OW.out | with_reducible apply View.ownMerge | with_reducible apply View.ownExt | with_reducible apply View.ownAlloc)); all_goals exact (0 : Nat)) hu DWK0.out
  have hbw := Below.trans (show Below w.heap.size w _ from (by repeat (first | with_reducible exact Below.refl _ _ | with_reducible apply Below.ofExt | with_reducible apply Below.ofAlloc | with_reducible apply Below.drew | with_reducible apply Below.ofDrewN | with_reducible assumption | (with_reducible refine Below.setCell ?_ (by first | exact Nat.le_refl _ | (simp [go_sem]; done) | (simp [go_sem]; omega)) _)))) (hu.toBelow (by (try simp [World.ext_size]); try omega) LK0.out)
  obtain ⟨Z0, rfl⟩ := hbw.ext
  have PK10 := Lib.hid oK1
  have PG0 := Lib.hid oG
  have PW0 := Lib.hid oW
  clear hu hbw oK1 oG oW
  have hk0 : ¬ ((1 : Int) + ((2 * d0.length : Nat) : Int)) < 0 := by omega
  go_wp2_with fail
  (go_at_call 13; refine (laws_markCellS _ fpK1 d1 _ _ PK10.out (by omega) (by have := HCNT.out; omega)).mono ?_; rintro e w' ⟨rfl, _, hu⟩)
  have oG := View.ownUpon PG0.out hu DGK1.out
  have oW := View.ownUpon PW0.out hu DWK1.out
  have hbw := Below.trans (show Below w.heap.size w _ from (by repeat (first | with_reducible exact Below.refl _ _ | with_reducible apply Below.ofExt | with_reducible apply Below.ofAlloc | with_reducible apply Below.drew | with_reducible apply Below.ofDrewN | with_reducible assumption | (with_reducible refine Below.setCell ?_ (by first | exact Nat.le_refl _ | (simp [go_sem]; done) | (simp [go_sem]; omega)) _)))) (hu.toBelow (by (try simp [World.ext_size]); try omega) LK1.out)
  obtain ⟨Z1, rfl⟩ := hbw.ext
  have PG1 := Lib.hid oG
  have PW1 := Lib.hid oW
  clear hu hbw oG oW
  have hk1 : ¬ ((1 : Int) + ((2 * d0.length : Nat) : Int) + ((2 * d1.length : Nat) : Int)) < 0 := by omega
  go_wp2_with fail
  (go_at_call 12; refine (laws_eqCellS _ _ ids _ (View.toRd _ (by (try simp only [← Array.append_assoc]); (repeat (first | with_reducible exact PG1.out | with_reducible apply View.ownMerge | with_reducible apply View.ownExt | with_reducible apply View.ownAlloc)); all_goals exact (0 : Nat))) (View.toRd _ (by (try simp only [← Array.append_assoc]); (repeat (first | with_reducible exact PW1.out | with_reducible apply View.ownMerge | with_reducible apply View.ownExt | with_reducible apply View.ownAlloc)); all_goals exact (0 : Nat)))).mono ?_; rintro e w' ⟨rfl, hb⟩; obtain ⟨X, rfl⟩ := hb.ext; clear hb)
  go_wp2_with fail
  (go_at_call 13; refine (laws_markCellS _ fpG ids 1 _ (by (try simp only [← Array.append_assoc]); (repeat (first | with_reducible exact PG1.out | with_reducible apply View.ownMerge | with_reducible apply View.ownExt | with_reducible apply View.ownAlloc)); all_goals exact (0 : Nat)) (by omega) (by have := HIL.out; omega)).mono ?_; rintro e w' ⟨rfl, hm, hu⟩)
  have ow := View.ownUpon (by (try simp only [← Array.append_assoc]); (repeat (first | with_reducible exact PW1.out | with_reducible apply View.ownMerge | with_reducible apply View.ownExt | with_reducible apply View.ownAlloc)); all_goals exact (0 : Nat)) hu DWG.out
  have hbw := Below.trans (show Below w.heap.size w _ from (by repeat (first | with_reducible exact Below.refl _ _ | with_reducible apply Below.ofExt | with_reducible apply Below.ofAlloc | with_reducible apply Below.drew | with_reducible apply Below.ofDrewN | with_reducible assumption | (with_reducible refine Below.setCell ?_ (by first | exact Nat.le_refl _ | (simp [go_sem]; done) | (simp [go_sem]; omega)) _)))) (hu.toBelow (by (try simp [World.ext_size]); try omega) LG.out)
  obtain ⟨ZG, rfl⟩ := hbw.ext
  have RG := Lib.hid hm
  have RW := Lib.hid ow
  clear hu hm ow hbw
  go_wp2_with fail
  (go_at_call 14; refine (laws_heldCellS _ 1 ids.length _ (View.toRd _ (by (try simp only [← Array.append_assoc]); (repeat (first | with_reducible exact RG.out | with_reducible apply View.ownMerge | with_reducible apply View.ownExt | with_reducible apply View.ownAlloc)); all_goals exact (0 : Nat))) (by omega) (by have := HIL.out; omega)).mono ?_; rintro e w' ⟨rfl, hb⟩; obtain ⟨X, rfl⟩ := hb.ext; clear hb)
  have hkr : ¬ (1 : Int) + (2 * ids.length : Nat) < 0 := by omega
  go_wp2_with fail
  (go_at_call 10; refine (laws_toCellS _ d0 _ (by (try simp only [← Array.append_assoc]); (repeat (first | with_reducible exact H0.out | with_reducible apply View.rdMerge | with_reducible apply View.rdExt | with_reducible apply View.rdAlloc | with_reducible apply View.rdDrew)); all_goals exact (0 : Nat)) (by have := L0.out; unfold wtS at this; omega)).mono ?_; rintro e w' ⟨u, fpB0, rfl, hf, hb⟩; obtain ⟨XB0, rfl⟩ := hb.ext; clear hb; obtain ⟨xB0, yB0, rfl⟩ := vSlice.form (View.toRd _ hf.own); have ho := hf.own; have hs := hf.sp; (try simp only [World.ext_ext, ← Array.append_assoc] at ho); (try simp only [World.ext_size, Array.size_append] at hs); have OB0 := Lib.hid ho; have SB0 := Lib.hid hs; clear hf ho hs)
  go_wp2_with fail
  (go_at_call 10; refine (laws_toCellS _ d1 _ (by (try simp only [← Array.append_assoc]); (repeat (first | with_reducible exact H1.out | with_reducible apply View.rdMerge | with_reducible apply View.rdExt | with_reducible apply View.rdAlloc | with_reducible apply View.rdDrew)); all_goals exact (0 : Nat)) (by have := L1.out; unfold wtS at this; omega)).mono ?_; rintro e w' ⟨u, fpB1, rfl, hf, hb⟩; obtain ⟨XB1, rfl⟩ := hb.ext; clear hb; obtain ⟨xB1, yB1, rfl⟩ := vSlice.form (View.toRd _ hf.own); have ho := hf.own; have hs := hf.sp; (try simp only [World.ext_ext, ← Array.append_assoc] at ho); (try simp only [World.ext_size, Array.size_append] at hs); have OB1 := Lib.hid ho; have SB1 := Lib.hid hs; clear hf ho hs)
  go_wp2_with fail
  (go_at_call 22; refine (impl_ChangesM _ _ d0 d1 _ _ _ (by (try simp only [← Array.append_assoc]); (repeat (first | with_reducible exact OB0.out | with_reducible apply View.ownMerge | with_reducible apply View.ownExt | with_reducible apply View.ownAlloc)); all_goals exact (0 : Nat)) (by (try simp only [← Array.append_assoc]); (repeat (first | with_reducible exact OB1.out | with_reducible apply View.ownMerge | with_reducible apply View.ownExt | with_reducible apply View.ownAlloc)); all_goals exact (0 : Nat)) HL0.out HL1.out).mono ?_; rintro e w' ⟨u, fpH, rfl, hf, hb⟩; obtain ⟨XH, rfl⟩ := hb.ext; clear hb; obtain ⟨xH, yH, rfl⟩ := vSlice.form (View.toRd _ hf.own); have ho := hf.own; have hs := hf.sp; (try simp only [World.ext_ext, ← Array.append_assoc] at ho); (try simp only [World.ext_size, Array.size_append] at hs); have OH := Lib.hid ho; have SH := Lib.hid hs; clear hf ho hs)
  rw [← HIDS.out] at OH ⊢
  go_wp2_with fail
  (go_at_call 12; refine (laws_eqCellS _ _ ids _ (View.toRd _ (by (try simp only [← Array.append_assoc]); (repeat (first | with_reducible exact OH.out | with_reducible apply View.ownMerge | with_reducible apply View.ownExt | with_reducible apply View.ownAlloc)); all_goals exact (0 : Nat))) (View.toRd _ (by (try simp only [← Array.append_assoc]); (repeat (first | with_reducible exact RW.out | with_reducible apply View.ownMerge | with_reducible apply View.ownExt | with_reducible apply View.ownAlloc)); all_goals exact (0 : Nat)))).mono ?_; rintro e w' ⟨rfl, hb⟩; obtain ⟨X, rfl⟩ := hb.ext; clear hb)
  go_wp2_with fail
  (go_at_call 14; refine (laws_heldCellS _ 1 ids.length _ (View.toRd _ (by (try simp only [← Array.append_assoc]); (repeat (first | with_reducible exact RG.out | with_reducible apply View.ownMerge | with_reducible apply View.ownExt | with_reducible apply View.ownAlloc)); all_goals exact (0 : Nat))) (by omega) (by have := HIL.out; omega)).mono ?_; rintro e w' ⟨rfl, hb⟩; obtain ⟨X, rfl⟩ := hb.ext; clear hb)
  go_wp2
  go_ret
  exact ⟨rfl, (by repeat (first | with_reducible exact Below.refl _ _ | with_reducible apply Below.ofExt | with_reducible apply Below.ofAlloc | with_reducible apply Below.drew | with_reducible apply Below.ofDrewN | with_reducible assumption | (with_reducible refine Below.setCell ?_ (by first | exact Nat.le_refl _ | (simp [go_sem]; done) | (simp [go_sem]; omega)) _)))⟩
end Go.Proofs.Ytdgnnphghfppbaa
