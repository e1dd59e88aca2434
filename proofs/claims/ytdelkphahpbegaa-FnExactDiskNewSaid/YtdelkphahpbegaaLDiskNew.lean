/- The law of DiskNew: the program's and the reference's. Each condition stands in its theorem. -/
import Derived.Test.YtdelkphahpbegaaDiskMark
set_option linter.unusedVariables false
set_option linter.unusedSimpArgs false
namespace Go.Proofs.Ytdelkphahpbegaa
open Go.ChangeShapes Go.WideShapes Go.ChangeAt Go.RowKit

theorem _root_.Go.World.block_ext1 (w : World) (o : Obj) (X : Ext) (p : Obj) (Y : Ext) : ((((w.alloc o).ext X).alloc p).ext Y).heap[w.heap.size]? = some o := by
  rw [World.ext_get _ _ (by simp [World.ext_size]; omega)]
  show ((((w.alloc o).ext X).heap).push p)[w.heap.size]? = _
  rw [Array.getElem?_push, if_neg (by have := World.lt_of_get (World.block_ext0 w o X); omega)]
  exact World.block_ext0 w o X
theorem cells_rdl {w : World} {fp : List Nat} {v : Value} {ds : List CellD} (h : (vSlice vCell 58).own w fp [v] ds) : RdL rCell w v ds := rdl_of_own rfl h
set_option maxRecDepth 100000 in
set_option maxHeartbeats 4000000 in
theorem law_DiskNew (v0 : Value) (d0 : List CellD) (w : World) (hs0 : (vSlice vCell 57).rd w [v0] d0) : Calls Try.prog 4 #[v0] w (Yes w) := by
  unfold Yes
  obtain ⟨a0, c0, rfl⟩ := vSlice.form hs0
  have HOK := Lib.hid (vCells_ok hs0)
  have H0 := Lib.hid hs0
  clear hs0
  go_enter Try.func4, Try.ntmps4
  go_wp2_with fail
  (go_at_call 12; refine (laws_szCellS _ d0 _ _ (by (try simp only [← Array.append_assoc]); (repeat (first | with_reducible exact H0.out | with_reducible apply View.rdMerge | with_reducible apply View.rdExt | with_reducible apply View.rdAlloc | with_reducible apply View.rdDrew)); all_goals exact (0 : Nat)) (by omega) (by omega)).mono ?_; rintro e w' ⟨rfl, hb⟩; obtain ⟨X1, rfl⟩ := hb.ext; clear hb)
  have q0e : ∃ q : Nat, q = wtS CellD.wt d0 := ⟨_, rfl⟩
  obtain ⟨q0, q0e⟩ := q0e
  rw [← q0e]
  have Q0 := Lib.hid q0e
  clear q0e
  by_cases g0 : (q0 : Int) ≤ 1048576
  case neg =>
    rw [leftOf_none g0]
    go_wp2
    go_ret
    exact ⟨rfl, (by repeat (first | with_reducible exact Below.refl _ _ | with_reducible apply Below.ofExt | with_reducible apply Below.ofAlloc | with_reducible apply Below.drew | with_reducible apply Below.ofDrewN | with_reducible assumption | (with_reducible refine Below.setCell ?_ (by first | exact Nat.le_refl _ | (simp [go_sem]; done) | (simp [go_sem]; omega)) _)))⟩
  rw [leftOf_pos g0]
  have n0 : ¬ (1048576 - (q0 : Int)) < 0 := by omega
  have HLEN : Hid (d0.length ≤ 1048576) := by
    have := Q0.out
    unfold wtS at this
    show _ ≤ _
    omega
  go_wp2_with fail
  (go_at_call 14; refine (laws_toCellS _ d0 _ (by (try simp only [← Array.append_assoc]); (repeat (first | with_reducible exact H0.out | with_reducible apply View.rdMerge | with_reducible apply View.rdExt | with_reducible apply View.rdAlloc | with_reducible apply View.rdDrew)); all_goals exact (0 : Nat)) HLEN.out).mono ?_; rintro e w' ⟨u, fpA, rfl, hf, hb⟩; obtain ⟨XA, rfl⟩ := hb.ext; clear hb; obtain ⟨xA, yA, rfl⟩ := vSlice.form (View.toRd _ hf.own); have ho := hf.own; have hs := hf.sp; (try simp only [World.ext_ext, ← Array.append_assoc] at ho); (try simp only [World.ext_size, Array.size_append] at hs); have OA := Lib.hid ho; have SA := Lib.hid hs; clear hf ho hs)
  go_wp2_with fail
  (go_at_call 13; refine (spec_DiskNew _ d0 _ (cells_rdl (by (try simp only [← Array.append_assoc]); (repeat (first | with_reducible exact OA.out | with_reducible apply View.ownMerge | with_reducible apply View.ownExt | with_reducible apply View.ownAlloc)); all_goals exact (0 : Nat))) HOK.out HLEN.out).mono ?_; rintro e w' ⟨bW, fW, uW, rfl, hd, hs, hb⟩; obtain ⟨XW, rfl⟩ := hb.ext; clear hb; (try simp only [World.ext_ext, ← Array.append_assoc] at hd); (try simp only [World.ext_size, Array.size_append] at hs); have DW := Lib.hid hd; have SW := Lib.hid hs; clear hd hs)
  go_wp2_with fail
  (go_at_call 14; refine (laws_toCellS _ d0 _ (by (try simp only [← Array.append_assoc]); (repeat (first | with_reducible exact H0.out | with_reducible apply View.rdMerge | with_reducible apply View.rdExt | with_reducible apply View.rdAlloc | with_reducible apply View.rdDrew)); all_goals exact (0 : Nat)) HLEN.out).mono ?_; rintro e w' ⟨u, fpK, rfl, hf, hb⟩; obtain ⟨XK, rfl⟩ := hb.ext; clear hb; obtain ⟨xK, yK, rfl⟩ := vSlice.form (View.toRd _ hf.own); have ho := hf.own; have hs := hf.sp; (try simp only [World.ext_ext, ← Array.append_assoc] at ho); (try simp only [World.ext_size, Array.size_append] at hs); have OK := Lib.hid ho; have SK := Lib.hid hs; clear hf ho hs)
  go_wp2_with fail
  (go_at_call 15; refine (impl_DiskNew _ d0 _ (cells_rdl (by (try simp only [← Array.append_assoc]); (repeat (first | with_reducible exact OK.out | with_reducible apply View.ownMerge | with_reducible apply View.ownExt | with_reducible apply View.ownAlloc)); all_goals exact (0 : Nat))) HOK.out HLEN.out).mono ?_; rintro e w' ⟨bG, fG, uG, rfl, hd, hs, hb⟩; obtain ⟨XG, rfl⟩ := hb.ext; clear hb; (try simp only [World.ext_ext, ← Array.append_assoc] at hd); (try simp only [World.ext_size, Array.size_append] at hs); have DG := Lib.hid hd; have SG := Lib.hid hs; clear hd hs)
  go_wp2_with fail
  (go_at_call 11; refine (laws_eqDisk _ _ ⟨[⟨0, d0, true⟩, ⟨0, [], false⟩], ⟨⟨#[]⟩, 0⟩⟩ _ (D2.rd (by (try simp only [← Array.append_assoc]); (repeat (first | with_reducible exact DG.out | with_reducible apply D2.merge | with_reducible apply D2.ext | with_reducible apply D2.alloc)); all_goals exact (0 : Nat))) (D2.rd (by (try simp only [← Array.append_assoc]); (repeat (first | with_reducible exact DW.out | with_reducible apply D2.merge | with_reducible apply D2.ext | with_reducible apply D2.alloc)); all_goals exact (0 : Nat)))).mono ?_; rintro e w' ⟨rfl, hb⟩; obtain ⟨X, rfl⟩ := hb.ext; clear hb)
  go_wp2_with fail
  (go_at_call 14; refine (laws_toCellS _ d0 _ (by (try simp only [← Array.append_assoc]); (repeat (first | with_reducible exact H0.out | with_reducible apply View.rdMerge | with_reducible apply View.rdExt | with_reducible apply View.rdAlloc | with_reducible apply View.rdDrew)); all_goals exact (0 : Nat)) HLEN.out).mono ?_; rintro e w' ⟨u, fpE, rfl, hf, hb⟩; obtain ⟨XE, rfl⟩ := hb.ext; clear hb; obtain ⟨xE, yE, rfl⟩ := vSlice.form (View.toRd _ hf.own); have ho := hf.own; have hs := hf.sp; (try simp only [World.ext_ext, ← Array.append_assoc] at ho); (try simp only [World.ext_size, Array.size_append] at hs); have OE := Lib.hid ho; have SE := Lib.hid hs; clear hf ho hs)
  go_wp2_with fail
  (go_at_call 16; refine (laws_eqCellS _ _ d0 _ (View.toRd _ (by (try simp only [← Array.append_assoc]); (repeat (first | with_reducible exact OK.out | with_reducible apply View.ownMerge | with_reducible apply View.ownExt | with_reducible apply View.ownAlloc)); all_goals exact (0 : Nat))) (View.toRd _ (by (try simp only [← Array.append_assoc]); (repeat (first | with_reducible exact OE.out | with_reducible apply View.ownMerge | with_reducible apply View.ownExt | with_reducible apply View.ownAlloc)); all_goals exact (0 : Nat)))).mono ?_; rintro e w' ⟨rfl, hb⟩; obtain ⟨X, rfl⟩ := hb.ext; clear hb)
  have DWK : Hid (∀ x ∈ bW :: fW, x ∉ fpK) := fun x hx h => by have h1 := SW.out.hi x hx; have h2 := SK.out.lo x h; (try simp [World.ext_size] at h1); (try simp [World.ext_size] at h2); omega
  have DGK : Hid (∀ x ∈ bG :: fG, x ∉ fpK) := fun x hx h => by have h1 := SG.out.lo x hx; have h2 := SK.out.hi x h; (try simp [World.ext_size] at h1); (try simp [World.ext_size] at h2); omega
  have DWG : Hid (∀ x ∈ bW :: fW, x ∉ bG :: fG) := fun x hx h => by have h1 := SW.out.hi x hx; have h2 := SG.out.lo x h; (try simp [World.ext_size] at h1); (try simp [World.ext_size] at h2); omega
  have LK : Hid (∀ x ∈ fpK, w.heap.size ≤ x) := fun x hx => by have h2 := SK.out.lo x hx; (try simp [World.ext_size] at h2); omega
  have LG : Hid (∀ x ∈ bG :: fG, w.heap.size ≤ x) := fun x hx => by have h2 := SG.out.lo x hx; (try simp [World.ext_size] at h2); omega
  go_wp2_with fail
  (go_at_call 17; refine (laws_markCellS _ fpK d0 1 _ (by (try simp only [← Array.append_assoc]); (repeat (first | with_reducible exact OK.out | with_reducible apply View.ownMerge | with_reducible apply View.ownExt | with_reducible apply View.ownAlloc)); all_goals exact (0 : Nat)) (by omega) (by have := HLEN.out; omega)).mono ?_; rintro e w1 ⟨rfl, _, hu⟩)
  have kbW1 : w1.heap[_]? = some _ := (hu.block _ (World.lt_of_get (World.block_ext1 _ _ _ _ _)) (fun h => by have h1 := SK.out.lo _ h; (try simp [World.ext_size] at h1); (try omega))).trans (World.block_ext1 _ _ _ _ _)
  simp only [World.ext_size, alloc_sz, Array.size_append] at kbW1
  have lqW1 := World.lt_of_get kbW1
  have cW10 : w1.cell? ⟨_, 0, none⟩ = some (.slice (some ⟨bW, 0, none⟩) 2 2) := (World.cell?_of_get kbW1 (i := 0)).trans rfl
  have cW11 : w1.cell? ⟨_, 1, none⟩ = some (.string ⟨#[]⟩) := (World.cell?_of_get kbW1 (i := 1)).trans rfl
  have cW12 : w1.cell? ⟨_, 2, none⟩ = some (.int .i64 0) := (World.cell?_of_get kbW1 (i := 2)).trans rfl
  have KBW1 := Lib.hid kbW1
  clear kbW1
  have kbG1 : w1.heap[_]? = some _ := (hu.block _ (World.lt_of_get (World.block_ext0 _ _ _)) (fun h => by have h1 := SK.out.hi _ h; (try simp [World.ext_size] at h1); (try omega))).trans (World.block_ext0 _ _ _)
  simp only [World.ext_size, alloc_sz, Array.size_append] at kbG1
  have lqG1 := World.lt_of_get kbG1
  have cG10 : w1.cell? ⟨_, 0, none⟩ = some (.slice (some ⟨bG, 0, none⟩) 2 2) := (World.cell?_of_get kbG1 (i := 0)).trans rfl
  have cG11 : w1.cell? ⟨_, 1, none⟩ = some (.string ⟨#[]⟩) := (World.cell?_of_get kbG1 (i := 1)).trans rfl
  have cG12 : w1.cell? ⟨_, 2, none⟩ = some (.int .i64 0) := (World.cell?_of_get kbG1 (i := 2)).trans rfl
  have KBG1 := Lib.hid kbG1
  clear kbG1
  have PG := Lib.hid (D2.upon (by (try simp only [← Array.append_assoc]); (repeat (first | with_reducible exact DG.out | with_reducible apply D2.merge | with_reducible apply D2.ext | with_reducible apply D2.alloc)); all_goals exact (0 : Nat)) hu DGK.out)
  have PW := Lib.hid (D2.upon (by (try simp only [← Array.append_assoc]); (repeat (first | with_reducible exact DW.out | with_reducible apply D2.merge | with_reducible apply D2.ext | with_reducible apply D2.alloc)); all_goals exact (0 : Nat)) hu DWK.out)
  have hB1 : Below w.heap.size w w1 := Below.trans (show Below w.heap.size w _ from (by repeat (first | with_reducible exact Below.refl _ _ | with_reducible apply Below.ofExt | with_reducible apply Below.ofAlloc | with_reducible apply Below.drew | with_reducible apply Below.ofDrewN | with_reducible assumption | (with_reducible refine Below.setCell ?_ (by first | exact Nat.le_refl _ | (simp [go_sem]; done) | (simp [go_sem]; omega)) _)))) (hu.toBelow (by (try simp [World.ext_size]); try omega) LK.out)
  clear hu OK OE OA DG DW
  have hk1 : ¬ (1 : Int) + (2 * d0.length : Nat) < 0 := by omega
  go_wp2_with fail
  (go_at_call 11; refine (laws_eqDisk _ _ ⟨[⟨0, d0, true⟩, ⟨0, [], false⟩], ⟨⟨#[]⟩, 0⟩⟩ _ (D2.rd (by (try simp only [← Array.append_assoc]); (repeat (first | with_reducible exact PG.out | with_reducible apply D2.merge | with_reducible apply D2.ext | with_reducible apply D2.alloc)); all_goals exact (0 : Nat))) (D2.rd (by (try simp only [← Array.append_assoc]); (repeat (first | with_reducible exact PW.out | with_reducible apply D2.merge | with_reducible apply D2.ext | with_reducible apply D2.alloc)); all_goals exact (0 : Nat)))).mono ?_; rintro e w' ⟨rfl, hb⟩; obtain ⟨X, rfl⟩ := hb.ext; clear hb)
  go_wp2_with fail
  (go_at_call 18; refine (laws_markDisk2 bG fG uG _ _ 1 _ (by (try simp only [← Array.append_assoc]); (repeat (first | with_reducible exact PG.out | with_reducible apply D2.merge | with_reducible apply D2.ext | with_reducible apply D2.alloc)); all_goals exact (0 : Nat)) (by omega) (by have := HLEN.out; show (1 : Int) + 4 + (2 * d0.length : Nat) ≤ _; omega)).mono ?_; rintro e w2 ⟨rfl, hd, hu⟩)
  have hu := Upon.trans (Upon.below (show Below w1.heap.size w1 _ from (by repeat (first | with_reducible exact Below.refl _ _ | with_reducible apply Below.ofExt | with_reducible apply Below.ofAlloc | with_reducible apply Below.drew | with_reducible apply Below.ofDrewN | with_reducible assumption | (with_reducible refine Below.setCell ?_ (by first | exact Nat.le_refl _ | (simp [go_sem]; done) | (simp [go_sem]; omega)) _))))) hu
  have kbW2 : w2.heap[_]? = some _ := (hu.block _ (World.lt_of_get KBW1.out) (fun h => by have h1 := SG.out.lo _ h; (try simp [World.ext_size] at h1); (try omega))).trans KBW1.out
  have lqW2 := World.lt_of_get kbW2
  have cW20 : w2.cell? ⟨_, 0, none⟩ = some (.slice (some ⟨bW, 0, none⟩) 2 2) := (World.cell?_of_get kbW2 (i := 0)).trans rfl
  have cW21 : w2.cell? ⟨_, 1, none⟩ = some (.string ⟨#[]⟩) := (World.cell?_of_get kbW2 (i := 1)).trans rfl
  have cW22 : w2.cell? ⟨_, 2, none⟩ = some (.int .i64 0) := (World.cell?_of_get kbW2 (i := 2)).trans rfl
  have ltW0 : ∀ n : Nat, w.heap.size + (X1.bs.size + (XA.bs.size + XW.bs.size)) < w2.heap.size + n := fun n => by omega
  have ltW1 : ∀ n m : Nat, w.heap.size + (X1.bs.size + (XA.bs.size + XW.bs.size)) < w2.heap.size + n + m := fun n m => by omega
  have neW0 : ∀ n : Nat, ¬ w.heap.size + (X1.bs.size + (XA.bs.size + XW.bs.size)) = w2.heap.size + n := fun n => by omega
  have KBW2 := Lib.hid kbW2
  clear kbW2
  have kbG2 : w2.heap[_]? = some _ := (hu.block _ (World.lt_of_get KBG1.out) (fun h => by have h1 := SG.out.hi _ h; (try simp [World.ext_size] at h1); (try omega))).trans KBG1.out
  have lqG2 := World.lt_of_get kbG2
  have cG20 : w2.cell? ⟨_, 0, none⟩ = some (.slice (some ⟨bG, 0, none⟩) 2 2) := (World.cell?_of_get kbG2 (i := 0)).trans rfl
  have cG21 : w2.cell? ⟨_, 1, none⟩ = some (.string ⟨#[]⟩) := (World.cell?_of_get kbG2 (i := 1)).trans rfl
  have cG22 : w2.cell? ⟨_, 2, none⟩ = some (.int .i64 0) := (World.cell?_of_get kbG2 (i := 2)).trans rfl
  have ltG0 : ∀ n : Nat, w.heap.size + (X1.bs.size + (XA.bs.size + XW.bs.size)) + 1 + (XK.bs.size + XG.bs.size) < w2.heap.size + n := fun n => by omega
  have ltG1 : ∀ n m : Nat, w.heap.size + (X1.bs.size + (XA.bs.size + XW.bs.size)) + 1 + (XK.bs.size + XG.bs.size) < w2.heap.size + n + m := fun n m => by omega
  have neG0 : ∀ n : Nat, ¬ w.heap.size + (X1.bs.size + (XA.bs.size + XW.bs.size)) + 1 + (XK.bs.size + XG.bs.size) = w2.heap.size + n := fun n => by omega
  have KBG2 := Lib.hid kbG2
  clear kbG2
  have RG := Lib.hid hd
  have RW := Lib.hid (D2.upon PW.out hu DWG.out)
  have hB2 : Below w.heap.size w w2 := Below.trans hB1 (hu.toBelow hB1.size LG.out)
  have HB := Lib.hid (View.rdBelow H0.out hB2)
  clear hu hd PG PW hB1 cW10 cW11 cW12 cG10 cG11 cG12 KBW1 KBG1 lqW1 lqG1
  have HN : Hid ((1 : Int) + 4 + (2 * d0.length : Nat) ≤ 4294960000) := by have := HLEN.out; show _ ≤ _; omega
  trace_state
  go_wp2_with fail
  (go_at_call 19; refine (laws_heldDisk2 bG fG uG d0.length 1 _ (by (try simp only [← Array.append_assoc]); (repeat (first | with_reducible exact RG.out | with_reducible apply D2.merge | with_reducible apply D2.ext | with_reducible apply D2.alloc)); all_goals exact (0 : Nat)) (by omega) HN.out).mono ?_; rintro e w' ⟨rfl, hb⟩; obtain ⟨X, rfl⟩ := hb.ext; clear hb)
  have hk2 : ¬ (1 : Int) + 4 + (2 * d0.length : Nat) < 0 := by omega
  go_wp2_with fail
  (go_at_call 14; refine (laws_toCellS _ d0 _ (by (try simp only [← Array.append_assoc]); (repeat (first | with_reducible exact HB.out | with_reducible apply View.rdMerge | with_reducible apply View.rdExt | with_reducible apply View.rdAlloc | with_reducible apply View.rdDrew)); all_goals exact (0 : Nat)) HLEN.out).mono ?_; rintro e w' ⟨u, fpB, rfl, hf, hb⟩; obtain ⟨XB, rfl⟩ := hb.ext; clear hb; obtain ⟨xB, yB, rfl⟩ := vSlice.form (View.toRd _ hf.own); have ho := hf.own; have hs := hf.sp; (try simp only [World.ext_ext, ← Array.append_assoc] at ho); (try simp only [World.ext_size, Array.size_append] at hs); have OB := Lib.hid ho; have SB := Lib.hid hs; clear hf ho hs)
  go_wp2_with fail
  (go_at_call 15; refine (impl_DiskNew _ d0 _ (cells_rdl (by (try simp only [← Array.append_assoc]); (repeat (first | with_reducible exact OB.out | with_reducible apply View.ownMerge | with_reducible apply View.ownExt | with_reducible apply View.ownAlloc)); all_goals exact (0 : Nat))) HOK.out HLEN.out).mono ?_; rintro e w' ⟨bH, fH, uH, rfl, hd, hs, hb⟩; obtain ⟨XH, rfl⟩ := hb.ext; clear hb; (try simp only [World.ext_ext, ← Array.append_assoc] at hd); (try simp only [World.ext_size, Array.size_append] at hs); have DH := Lib.hid hd; have SH := Lib.hid hs; clear hd hs)
  go_wp2_with fail
  (go_at_call 11; refine (laws_eqDisk _ _ ⟨[⟨0, d0, true⟩, ⟨0, [], false⟩], ⟨⟨#[]⟩, 0⟩⟩ _ (D2.rd (by (try simp only [← Array.append_assoc]); (repeat (first | with_reducible exact DH.out | with_reducible apply D2.merge | with_reducible apply D2.ext | with_reducible apply D2.alloc)); all_goals exact (0 : Nat))) (D2.rd (by (try simp only [← Array.append_assoc]); (repeat (first | with_reducible exact RW.out | with_reducible apply D2.merge | with_reducible apply D2.ext | with_reducible apply D2.alloc)); all_goals exact (0 : Nat)))).mono ?_; rintro e w' ⟨rfl, hb⟩; obtain ⟨X, rfl⟩ := hb.ext; clear hb)
  go_wp2_with fail
  (go_at_call 19; refine (laws_heldDisk2 bG fG uG d0.length 1 _ (by (try simp only [← Array.append_assoc]); (repeat (first | with_reducible exact RG.out | with_reducible apply D2.merge | with_reducible apply D2.ext | with_reducible apply D2.alloc)); all_goals exact (0 : Nat)) (by omega) HN.out).mono ?_; rintro e w' ⟨rfl, hb⟩; obtain ⟨X, rfl⟩ := hb.ext; clear hb)
  go_wp2
  go_ret
  exact ⟨rfl, (by repeat (first | with_reducible exact Below.refl _ _ | with_reducible apply Below.ofExt | with_reducible apply Below.ofAlloc | with_reducible apply Below.drew | with_reducible apply Below.ofDrewN | with_reducible assumption | (with_reducible refine Below.setCell ?_ (by first | exact Nat.le_refl _ | (simp [go_sem]; done) | (simp [go_sem]; omega)) _)))⟩
end Go.Proofs.Ytdelkphahpbegaa
