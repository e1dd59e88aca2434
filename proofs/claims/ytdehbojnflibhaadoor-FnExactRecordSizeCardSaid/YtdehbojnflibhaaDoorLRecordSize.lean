/- The law of RecordSize: its walk. No condition but that its arguments read. -/
import Derived.Test.YtdehbojnflibhaaDoorLRecordText
set_option linter.unusedVariables false
set_option linter.unusedSimpArgs false
namespace Go.Proofs.YtdehbojnflibhaaDoor
open Go.ChangeShapes Go.WideShapes Go.ChangeAt Go.RowKit

set_option maxRecDepth 100000 in
theorem spec_RecordSizeM (va : Value) (a : List CellD) (w : World) {fa : List Nat} (ha : (vSlice vCell 46).own w fa [va] a) (hl : a.length ≤ 1048576) (ht : Tab10 w) :
    Calls Tryd.prog 16 #[va] w fun e w' => e = .returned (.int .i64 ((recText 100000 a).size : Nat)) ∧ Below w.heap.size w w' := by
  obtain ⟨ao, ac, rfl⟩ := vSlice.form (View.toRd _ ha)
  have HA := Lib.hid ha
  have HT := Lib.hid ht
  clear ha ht
  have hz := recText_size 100000 a
  go_enter Tryd.func16, Tryd.ntmps16
  go_wp2_with fail
  (go_at_call 12; refine (spec_RecordTextM 100000 _ a _ HA.out hl HT.out).mono ?_; rintro e w' ⟨rfl, hb⟩; obtain ⟨X, rfl⟩ := hb.ext; clear hb)
  go_wp2
  go_ret
  exact ⟨rfl, (by repeat (first | with_reducible exact Below.refl _ _ | with_reducible apply Below.ofExt | with_reducible apply Below.ofAlloc | with_reducible apply Below.drew | with_reducible apply Below.ofDrewN | with_reducible assumption | (with_reducible refine Below.setCell ?_ (by first | exact Nat.le_refl _ | (simp [go_sem]; done) | (simp [go_sem]; omega)) _)))⟩
set_option maxRecDepth 100000 in
theorem impl_RecordSizeM (va : Value) (a : List CellD) (w : World) {fa : List Nat} (ha : (vSlice vCell 46).own w fa [va] a) (hl : a.length ≤ 1048576) (ht : Tab10 w) :
    Calls Tryd.prog 17 #[va] w fun e w' => e = .returned (.int .i64 ((recText 100000 a).size : Nat)) ∧ Below w.heap.size w w' := by
  obtain ⟨ao, ac, rfl⟩ := vSlice.form (View.toRd _ ha)
  have HA := Lib.hid ha
  have HT := Lib.hid ht
  clear ha ht
  have hz := recText_size 100000 a
  go_enter Tryd.func17, Tryd.ntmps17
  go_wp2_with fail
  (go_at_call 14; refine (impl_RecordTextM 100000 _ a _ HA.out hl HT.out).mono ?_; rintro e w' ⟨rfl, hb⟩; obtain ⟨X, rfl⟩ := hb.ext; clear hb)
  go_wp2
  go_ret
  exact ⟨rfl, (by repeat (first | with_reducible exact Below.refl _ _ | with_reducible apply Below.ofExt | with_reducible apply Below.ofAlloc | with_reducible apply Below.drew | with_reducible apply Below.ofDrewN | with_reducible assumption | (with_reducible refine Below.setCell ?_ (by first | exact Nat.le_refl _ | (simp [go_sem]; done) | (simp [go_sem]; omega)) _)))⟩

set_option maxRecDepth 100000 in
set_option maxHeartbeats 4000000 in
theorem law_RecordSize (v0 : Value) (d0 : List CellD) (w : World) (hs0 : (vSlice vCell 43).rd w [v0] d0) (ht : Tab10 w) : Calls Tryd.prog 5 #[v0] w (Yes w) := by
  unfold Yes
  have HT := Lib.hid ht
  clear ht
  obtain ⟨a0, c0, rfl⟩ := vSlice.form hs0
  have H0 := Lib.hid hs0
  clear hs0
  go_enter Tryd.func5, Tryd.ntmps5
  go_wp2_with fail
  (go_at_call 11; refine (laws_szCellS _ d0 _ _ (by (try simp only [← Array.append_assoc]); (repeat (first | with_reducible exact H0.out | with_reducible apply View.rdMerge | with_reducible apply View.rdExt | with_reducible apply View.rdAlloc | with_reducible apply View.rdDrew)); all_goals exact (0 : Nat)) (by omega) (by omega)).mono ?_; rintro e w' ⟨rfl, hb⟩; obtain ⟨X, rfl⟩ := hb.ext; clear hb)
  have q0e : ∃ q : Nat, q = wtS CellD.wt d0 := ⟨_, rfl⟩
  obtain ⟨q0, q0e⟩ := q0e
  rw [← q0e]
  have Q0 := Lib.hid q0e
  clear q0e
  by_cases g0 : (q0 : Int) ≤ 1048576
  case neg =>
    rw [leftOf_none g0]
    go_wp2
    go_ret
    exact ⟨rfl, (by repeat (first | with_reducible exact Below.refl _ _ | with_reducible apply Below.ofExt | with_reducible apply Below.ofAlloc | with_reducible apply Below.drew | with_reducible apply Below.ofDrewN | with_reducible assumption | (with_reducible refine Below.setCell ?_ (by first | exact Nat.le_refl _ | (simp [go_sem]; done) | (simp [go_sem]; omega)) _)))⟩
  rw [leftOf_pos g0]
  have n0 : ¬ (1048576 - (q0 : Int) : Int) < 0 := by omega
  have L0 : Hid (wtS CellD.wt d0 ≤ 1048576) := by
    have := Q0.out
    show _ ≤ _
    omega
  have HL0 : Hid (d0.length ≤ 1048576) := (by have := L0.out; unfold wtS at this; show _ ≤ _; omega)
  go_wp2_with fail
  (go_at_call 13; refine (laws_toCellS _ d0 _ (by (try simp only [← Array.append_assoc]); (repeat (first | with_reducible exact H0.out | with_reducible apply View.rdMerge | with_reducible apply View.rdExt | with_reducible apply View.rdAlloc | with_reducible apply View.rdDrew)); all_goals exact (0 : Nat)) (by have := L0.out; unfold wtS at this; omega)).mono ?_; rintro e w' ⟨u, fp, rfl, hf, hb⟩; obtain ⟨X, rfl⟩ := hb.ext; clear hb; obtain ⟨xS0, yS0, rfl⟩ := vSlice.form (View.toRd _ hf.own); have hr := hf.own; (try simp only [World.ext_ext, ← Array.append_assoc] at hr); have S0 := Lib.hid hr; clear hf hr)
  go_wp2_with fail
  (go_at_call 16; refine (spec_RecordSizeM _ d0 _ (by (try simp only [← Array.append_assoc]); (repeat (first | with_reducible exact S0.out | with_reducible apply View.ownMerge | with_reducible apply View.ownExt | with_reducible apply View.ownAlloc)); all_goals exact (0 : Nat)) HL0.out (HT.out.below (by repeat (first | with_reducible exact Below.refl _ _ | with_reducible apply Below.ofExt | with_reducible apply Below.ofAlloc | with_reducible apply Below.drew | with_reducible apply Below.ofDrewN | with_reducible assumption | (with_reducible refine Below.setCell ?_ (by first | exact Nat.le_refl _ | (simp [go_sem]; done) | (simp [go_sem]; omega)) _))))).mono ?_; rintro e w' ⟨rfl, hb⟩; obtain ⟨X, rfl⟩ := hb.ext; clear hb)
  go_wp2_with fail
  (go_at_call 13; refine (laws_toCellS _ d0 _ (by (try simp only [← Array.append_assoc]); (repeat (first | with_reducible exact H0.out | with_reducible apply View.rdMerge | with_reducible apply View.rdExt | with_reducible apply View.rdAlloc | with_reducible apply View.rdDrew)); all_goals exact (0 : Nat)) (by have := L0.out; unfold wtS at this; omega)).mono ?_; rintro e w' ⟨u, fp, rfl, hf, hb⟩; obtain ⟨X, rfl⟩ := hb.ext; clear hb; obtain ⟨xG0, yG0, rfl⟩ := vSlice.form (View.toRd _ hf.own); have hr := hf.own; (try simp only [World.ext_ext, ← Array.append_assoc] at hr); have G0 := Lib.hid hr; clear hf hr)
  go_wp2_with fail
  (go_at_call 17; refine (impl_RecordSizeM _ d0 _ (by (try simp only [← Array.append_assoc]); (repeat (first | with_reducible exact G0.out | with_reducible apply View.ownMerge | with_reducible apply View.ownExt | with_reducible apply View.ownAlloc)); all_goals exact (0 : Nat)) HL0.out (HT.out.below (by repeat (first | with_reducible exact Below.refl _ _ | with_reducible apply Below.ofExt | with_reducible apply Below.ofAlloc | with_reducible apply Below.drew | with_reducible apply Below.ofDrewN | with_reducible assumption | (with_reducible refine Below.setCell ?_ (by first | exact Nat.le_refl _ | (simp [go_sem]; done) | (simp [go_sem]; omega)) _))))).mono ?_; rintro e w' ⟨rfl, hb⟩; obtain ⟨X, rfl⟩ := hb.ext; clear hb)
  go_wp2_with fail
  (go_at_call 13; refine (laws_toCellS _ d0 _ (by (try simp only [← Array.append_assoc]); (repeat (first | with_reducible exact H0.out | with_reducible apply View.rdMerge | with_reducible apply View.rdExt | with_reducible apply View.rdAlloc | with_reducible apply View.rdDrew)); all_goals exact (0 : Nat)) (by have := L0.out; unfold wtS at this; omega)).mono ?_; rintro e w' ⟨u, fp, rfl, hf, hb⟩; obtain ⟨X, rfl⟩ := hb.ext; clear hb; obtain ⟨xE0, yE0, rfl⟩ := vSlice.form (View.toRd _ hf.own); have hr := hf.own; (try simp only [World.ext_ext, ← Array.append_assoc] at hr); have E0 := Lib.hid hr; clear hf hr)
  go_wp2_with fail
  (go_at_call 15; refine (laws_eqCellS _ _ d0 _ (View.toRd _ (by (try simp only [← Array.append_assoc]); (repeat (first | with_reducible exact G0.out | with_reducible apply View.ownMerge | with_reducible apply View.ownExt | with_reducible apply View.ownAlloc)); all_goals exact (0 : Nat))) (View.toRd _ (by (try simp only [← Array.append_assoc]); (repeat (first | with_reducible exact E0.out | with_reducible apply View.ownMerge | with_reducible apply View.ownExt | with_reducible apply View.ownAlloc)); all_goals exact (0 : Nat)))).mono ?_; rintro e w' ⟨rfl, hb⟩; obtain ⟨X, rfl⟩ := hb.ext; clear hb)
  go_wp2
  go_ret
  exact ⟨rfl, (by repeat (first | with_reducible exact Below.refl _ _ | with_reducible apply Below.ofExt | with_reducible apply Below.ofAlloc | with_reducible apply Below.drew | with_reducible apply Below.ofDrewN | with_reducible assumption | (with_reducible refine Below.setCell ?_ (by first | exact Nat.le_refl _ | (simp [go_sem]; done) | (simp [go_sem]; omega)) _)))⟩
end Go.Proofs.YtdehbojnflibhaaDoor
