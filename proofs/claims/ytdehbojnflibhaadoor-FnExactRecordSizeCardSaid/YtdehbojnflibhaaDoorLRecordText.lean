/- The law of RecordText: its walk. No condition but that its arguments read. -/
import Derived.Test.YtdehbojnflibhaaDoorRecI
import Derived.Test.YtdehbojnflibhaaDoorTCell
set_option linter.unusedVariables false
set_option linter.unusedSimpArgs false
namespace Go.Proofs.YtdehbojnflibhaaDoor
open Go.ChangeShapes Go.WideShapes Go.ChangeAt Go.RowKit

theorem spec_RecordTextM (seq : Int) (va : Value) (a : List CellD) (w : World) {fa : List Nat} (ha : (vSlice vCell 46).own w fa [va] a) (hl : a.length ≤ 1048576) (ht : Tab10 w) :
    Calls Tryd.prog 12 #[.int .i64 seq, va] w fun e w' => e = .returned (.string (recText seq a)) ∧ Below w.heap.size w w' :=
  spec_RecordText seq va a w (View.toRd _ ha) hl
theorem impl_RecordTextM (seq : Int) (va : Value) (a : List CellD) (w : World) {fa : List Nat} (ha : (vSlice vCell 46).own w fa [va] a) (hl : a.length ≤ 1048576) (ht : Tab10 w) :
    Calls Tryd.prog 14 #[.int .i64 seq, va] w fun e w' => e = .returned (.string (recText seq a)) ∧ Below w.heap.size w w' :=
  impl_RecordText seq va a w ht (View.toRd _ ha) hl

set_option maxRecDepth 100000 in
set_option maxHeartbeats 4000000 in
theorem law_RecordText (d0 : Int) (v1 : Value) (d1 : List CellD) (w : World) (hs1 : (vSlice vCell 43).rd w [v1] d1) (ht : Tab10 w) : Calls Tryd.prog 4 #[.int .i64 d0, v1] w (Yes w) := by
  unfold Yes
  have HT := Lib.hid ht
  clear ht
  obtain ⟨a1, c1, rfl⟩ := vSlice.form hs1
  have H1 := Lib.hid hs1
  clear hs1
  go_enter Tryd.func4, Tryd.ntmps4
  go_wp2_with fail
  (go_at_call 11; refine (laws_szCellS _ d1 _ _ (by (try simp only [← Array.append_assoc]); (repeat (first | with_reducible exact H1.out | with_reducible apply View.rdMerge | with_reducible apply View.rdExt | with_reducible apply View.rdAlloc | with_reducible apply View.rdDrew)); all_goals exact (0 : Nat)) (by omega) (by omega)).mono ?_; rintro e w' ⟨rfl, hb⟩; obtain ⟨X, rfl⟩ := hb.ext; clear hb)
  have q1e : ∃ q : Nat, q = wtS CellD.wt d1 := ⟨_, rfl⟩
  obtain ⟨q1, q1e⟩ := q1e
  rw [← q1e]
  have Q1 := Lib.hid q1e
  clear q1e
  by_cases g1 : (q1 : Int) ≤ 1048576
  case neg =>
    rw [leftOf_none g1]
    go_wp2
    go_ret
    exact ⟨rfl, (by repeat (first | with_reducible exact Below.refl _ _ | with_reducible apply Below.ofExt | with_reducible apply Below.ofAlloc | with_reducible apply Below.drew | with_reducible apply Below.ofDrewN | with_reducible assumption | (with_reducible refine Below.setCell ?_ (by first | exact Nat.le_refl _ | (simp [go_sem]; done) | (simp [go_sem]; omega)) _)))⟩
  rw [leftOf_pos g1]
  have n1 : ¬ (1048576 - (q1 : Int) : Int) < 0 := by omega
  have L1 : Hid (wtS CellD.wt d1 ≤ 1048576) := by
    have := Q1.out
    show _ ≤ _
    omega
  have HL0 : Hid (d1.length ≤ 1048576) := (by have := L1.out; unfold wtS at this; show _ ≤ _; omega)
  go_wp2_with fail
  (go_at_call 13; refine (laws_toCellS _ d1 _ (by (try simp only [← Array.append_assoc]); (repeat (first | with_reducible exact H1.out | with_reducible apply View.rdMerge | with_reducible apply View.rdExt | with_reducible apply View.rdAlloc | with_reducible apply View.rdDrew)); all_goals exact (0 : Nat)) (by have := L1.out; unfold wtS at this; omega)).mono ?_; rintro e w' ⟨u, fp, rfl, hf, hb⟩; obtain ⟨X, rfl⟩ := hb.ext; clear hb; obtain ⟨xS1, yS1, rfl⟩ := vSlice.form (View.toRd _ hf.own); have hr := hf.own; (try simp only [World.ext_ext, ← Array.append_assoc] at hr); have S1 := Lib.hid hr; clear hf hr)
  go_wp2_with fail
  (go_at_call 12; refine (spec_RecordTextM d0 _ d1 _ (by (try simp only [← Array.append_assoc]); (repeat (first | with_reducible exact S1.out | with_reducible apply View.ownMerge | with_reducible apply View.ownExt | with_reducible apply View.ownAlloc)); all_goals exact (0 : Nat)) HL0.out (HT.out.below (by repeat (first | with_reducible exact Below.refl _ _ | with_reducible apply Below.ofExt | with_reducible apply Below.ofAlloc | with_reducible apply Below.drew | with_reducible apply Below.ofDrewN | with_reducible assumption | (with_reducible refine Below.setCell ?_ (by first | exact Nat.le_refl _ | (simp [go_sem]; done) | (simp [go_sem]; omega)) _))))).mono ?_; rintro e w' ⟨rfl, hb⟩; obtain ⟨X, rfl⟩ := hb.ext; clear hb)
  go_wp2_with fail
  (go_at_call 13; refine (laws_toCellS _ d1 _ (by (try simp only [← Array.append_assoc]); (repeat (first | with_reducible exact H1.out | with_reducible apply View.rdMerge | with_reducible apply View.rdExt | with_reducible apply View.rdAlloc | with_reducible apply View.rdDrew)); all_goals exact (0 : Nat)) (by have := L1.out; unfold wtS at this; omega)).mono ?_; rintro e w' ⟨u, fp, rfl, hf, hb⟩; obtain ⟨X, rfl⟩ := hb.ext; clear hb; obtain ⟨xG1, yG1, rfl⟩ := vSlice.form (View.toRd _ hf.own); have hr := hf.own; (try simp only [World.ext_ext, ← Array.append_assoc] at hr); have G1 := Lib.hid hr; clear hf hr)
  go_wp2_with fail
  (go_at_call 14; refine (impl_RecordTextM d0 _ d1 _ (by (try simp only [← Array.append_assoc]); (repeat (first | with_reducible exact G1.out | with_reducible apply View.ownMerge | with_reducible apply View.ownExt | with_reducible apply View.ownAlloc)); all_goals exact (0 : Nat)) HL0.out (HT.out.below (by repeat (first | with_reducible exact Below.refl _ _ | with_reducible apply Below.ofExt | with_reducible apply Below.ofAlloc | with_reducible apply Below.drew | with_reducible apply Below.ofDrewN | with_reducible assumption | (with_reducible refine Below.setCell ?_ (by first | exact Nat.le_refl _ | (simp [go_sem]; done) | (simp [go_sem]; omega)) _))))).mono ?_; rintro e w' ⟨rfl, hb⟩; obtain ⟨X, rfl⟩ := hb.ext; clear hb)
  go_wp2_with fail
  (go_at_call 13; refine (laws_toCellS _ d1 _ (by (try simp only [← Array.append_assoc]); (repeat (first | with_reducible exact H1.out | with_reducible apply View.rdMerge | with_reducible apply View.rdExt | with_reducible apply View.rdAlloc | with_reducible apply View.rdDrew)); all_goals exact (0 : Nat)) (by have := L1.out; unfold wtS at this; omega)).mono ?_; rintro e w' ⟨u, fp, rfl, hf, hb⟩; obtain ⟨X, rfl⟩ := hb.ext; clear hb; obtain ⟨xE1, yE1, rfl⟩ := vSlice.form (View.toRd _ hf.own); have hr := hf.own; (try simp only [World.ext_ext, ← Array.append_assoc] at hr); have E1 := Lib.hid hr; clear hf hr)
  go_wp2_with fail
  (go_at_call 15; refine (laws_eqCellS _ _ d1 _ (View.toRd _ (by (try simp only [← Array.append_assoc]); (repeat (first | with_reducible exact G1.out | with_reducible apply View.ownMerge | with_reducible apply View.ownExt | with_reducible apply View.ownAlloc)); all_goals exact (0 : Nat))) (View.toRd _ (by (try simp only [← Array.append_assoc]); (repeat (first | with_reducible exact E1.out | with_reducible apply View.ownMerge | with_reducible apply View.ownExt | with_reducible apply View.ownAlloc)); all_goals exact (0 : Nat)))).mono ?_; rintro e w' ⟨rfl, hb⟩; obtain ⟨X, rfl⟩ := hb.ext; clear hb)
  go_wp2
  go_ret
  exact ⟨rfl, (by repeat (first | with_reducible exact Below.refl _ _ | with_reducible apply Below.ofExt | with_reducible apply Below.ofAlloc | with_reducible apply Below.drew | with_reducible apply Below.ofDrewN | with_reducible assumption | (with_reducible refine Below.setCell ?_ (by first | exact Nat.le_refl _ | (simp [go_sem]; done) | (simp [go_sem]; omega)) _)))⟩
end Go.Proofs.YtdehbojnflibhaaDoor
