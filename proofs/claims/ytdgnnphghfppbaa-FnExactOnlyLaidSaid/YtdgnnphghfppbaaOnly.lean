/- Whether only what was laid has changed: the program's and the reference's. Each condition stands in its theorem. -/
import Derived.Test.YtdgnnphghfppbaaCov
import Derived.Test.YtdgnnphghfppbaaChg
import Derived.Test.YtdgnnphghfppbaaCTouch
set_option linter.unusedVariables false
set_option linter.unusedSimpArgs false
namespace Go.Proofs.Ytdgnnphghfppbaa
open Go.ChangeShapes Go.WideShapes Go.ChangeAt Go.RowKit

theorem RdS.dx {w : World} {Y : Ext} {v : Value} {xs : List ByteArray} (h : RdS (w.drew.ext Y) v xs) : RdS (w.ext Y) v xs := h
set_option maxRecDepth 100000 in
set_option maxHeartbeats 1000000 in
theorem spec_OnlyLaid (va vb : Value) (a b : List CellD) (ct : List Value) (t : TouchD) (w : World) (ha : RdL rCell w va a) (hb : RdL rCell w vb b) (ht : vTouch.rd w ct t) (hka : ∀ c ∈ a, c.ok) (hkb : ∀ c ∈ b, c.ok) (hl : a.length ≤ 1048576) (hl2 : b.length ≤ 1048576) :
    Calls Try.prog 28 #[va, vb, .agg ct.toArray] w fun e w' => e = .returned (.bool (covers t.writes (diffC a b))) ∧ Below w.heap.size w w' := by
  obtain ⟨ts0, ts1, rfl, th0, th1⟩ := ht
  obtain ⟨ta0, tc0, rfl⟩ := vSlice.form th0
  obtain ⟨ta1, tc1, rfl⟩ := vSlice.form th1
  have HT := Lib.hid (RdS.ofRd th1)
  have HA := Lib.hid ha
  have HB := Lib.hid hb
  have HKA := Lib.hid hka
  have HKB := Lib.hid hkb
  obtain ⟨aa, ca, rfl⟩ := ha.form
  obtain ⟨ab, cb, rfl⟩ := hb.form
  clear th0 th1 ha hb hka hkb
  go_enter Try.func28, Try.ntmps28
  go_wp2
  refine wp_region_ordT [(0,true),(1,true),(2,true),(3,true),(4,false),(5,false),(6,false)] 6 (by kernel_rfl) (by kernel_rfl) ?_
  repeat (refine wpOrd_quiet rfl (fun K hK => ?_); go_simp; (try simp (disch := omega) only [IntWalk.i64_in]); refine hK _ ?_; clear hK K)
  refine wpOrd_grow rfl (fun K hK => ?_); go_simp; go_at_call 40; refine (spec_DiffKeys _ _ a b _ (by (try simp only [← Array.append_assoc]); (repeat (first | with_reducible exact HA.out | with_reducible apply RdL.mergeC2 | with_reducible apply RdL.ext | with_reducible apply RdL.alloc | with_reducible apply RdL.drew)); all_goals exact (0 : Nat)) (by (try simp only [← Array.append_assoc]); (repeat (first | with_reducible exact HB.out | with_reducible apply RdL.mergeC2 | with_reducible apply RdL.ext | with_reducible apply RdL.alloc | with_reducible apply RdL.drew)); all_goals exact (0 : Nat)) hl hl2).mono ?_; rintro e w' ⟨v', rfl, ho', hb'⟩; have HP0 := Lib.hid (RdS.ofL ho'.rd (diffC_ok a b HKA.out HKB.out)); obtain ⟨Y, rfl⟩ := hb'.ext; clear ho' hb'; try go_simp; refine hK _ _ ((by show Sx _ _; (try simp only [← Array.append_assoc]); repeat (first | with_reducible exact Sx.drew _ | with_reducible exact Sx.refl _ | with_reducible exact Sx.same _ _ _ _ | with_reducible exact ⟨_, rfl⟩ | with_reducible apply Sx.more | with_reducible apply Sx.ext | with_reducible apply Sx.draw | with_reducible apply Sx.alloc))) ?_; clear hK K
  have HP := Lib.hid (RdS.dx HP0.out)
  refine wpOrd_grow rfl (fun K hK => ?_); go_simp; go_at_call 42; refine (spec_Covers _ _ t.writes (diffC a b) _ (by (try simp only [← Array.append_assoc]); (repeat (first | with_reducible exact HT.out | with_reducible apply RdS.merge | with_reducible apply RdS.ext | with_reducible apply RdS.alloc | with_reducible apply RdS.drew)); all_goals exact (0 : Nat)) (by (try simp only [← Array.append_assoc]); (repeat (first | with_reducible exact HP.out | with_reducible apply RdS.merge | with_reducible apply RdS.ext | with_reducible apply RdS.alloc | with_reducible apply RdS.drew)); all_goals exact (0 : Nat))).mono ?_; rintro e w' ⟨rfl, hb⟩; obtain ⟨X, rfl⟩ := hb.ext; clear hb; try go_simp; refine hK _ _ ((by show Sx _ _; (try simp only [← Array.append_assoc]); repeat (first | with_reducible exact Sx.drew _ | with_reducible exact Sx.refl _ | with_reducible exact Sx.same _ _ _ _ | with_reducible exact ⟨_, rfl⟩ | with_reducible apply Sx.more | with_reducible apply Sx.ext | with_reducible apply Sx.draw | with_reducible apply Sx.alloc))) ?_; clear hK K
  repeat (refine wpOrd_tail rfl rfl (fun K hK => ?_); go_simp; refine hK _ _ ?_; clear hK K)
  refine wpOrd_nil ?_
  go_wp2
  go_ret
  exact ⟨rfl, (by repeat (first | with_reducible exact Below.refl _ _ | with_reducible apply Below.ofExt | with_reducible apply Below.ofAlloc | with_reducible apply Below.drew | with_reducible apply Below.ofDrewN | with_reducible assumption | (with_reducible refine Below.setCell ?_ (by first | exact Nat.le_refl _ | (simp [go_sem]; done) | (simp [go_sem]; omega)) _)))⟩
set_option maxRecDepth 100000 in
set_option maxHeartbeats 1000000 in
theorem impl_OnlyLaid (va vb : Value) (a b : List CellD) (ct : List Value) (t : TouchD) (w : World) (ha : RdL rCell w va a) (hb : RdL rCell w vb b) (ht : vTouch.rd w ct t) (hka : ∀ c ∈ a, c.ok) (hkb : ∀ c ∈ b, c.ok) (hl : a.length ≤ 1048576) (hl2 : b.length ≤ 1048576) :
    Calls Try.prog 29 #[va, vb, .agg ct.toArray] w fun e w' => e = .returned (.bool (covers t.writes (diffC a b))) ∧ Below w.heap.size w w' := by
  obtain ⟨ts0, ts1, rfl, th0, th1⟩ := ht
  obtain ⟨ta0, tc0, rfl⟩ := vSlice.form th0
  obtain ⟨ta1, tc1, rfl⟩ := vSlice.form th1
  have HT := Lib.hid (RdS.ofRd th1)
  have HA := Lib.hid ha
  have HB := Lib.hid hb
  have HKA := Lib.hid hka
  have HKB := Lib.hid hkb
  obtain ⟨aa, ca, rfl⟩ := ha.form
  obtain ⟨ab, cb, rfl⟩ := hb.form
  clear th0 th1 ha hb hka hkb
  go_enter Try.func29, Try.ntmps29
  go_wp2
  refine wp_region_ordT [(0,true),(1,true),(2,true),(3,true),(4,false),(5,false),(6,false)] 6 (by kernel_rfl) (by kernel_rfl) ?_
  repeat (refine wpOrd_quiet rfl (fun K hK => ?_); go_simp; (try simp (disch := omega) only [IntWalk.i64_in]); refine hK _ ?_; clear hK K)
  refine wpOrd_grow rfl (fun K hK => ?_); go_simp; go_at_call 41; refine (impl_DiffKeys _ _ a b _ (by (try simp only [← Array.append_assoc]); (repeat (first | with_reducible exact HA.out | with_reducible apply RdL.mergeC2 | with_reducible apply RdL.ext | with_reducible apply RdL.alloc | with_reducible apply RdL.drew)); all_goals exact (0 : Nat)) (by (try simp only [← Array.append_assoc]); (repeat (first | with_reducible exact HB.out | with_reducible apply RdL.mergeC2 | with_reducible apply RdL.ext | with_reducible apply RdL.alloc | with_reducible apply RdL.drew)); all_goals exact (0 : Nat)) HKA.out HKB.out hl hl2).mono ?_; rintro e w' ⟨v', rfl, ho', hb'⟩; have HP0 := Lib.hid (RdS.ofL ho'.rd (diffC_ok a b HKA.out HKB.out)); obtain ⟨Y, rfl⟩ := hb'.ext; clear ho' hb'; try go_simp; refine hK _ _ ((by show Sx _ _; (try simp only [← Array.append_assoc]); repeat (first | with_reducible exact Sx.drew _ | with_reducible exact Sx.refl _ | with_reducible exact Sx.same _ _ _ _ | with_reducible exact ⟨_, rfl⟩ | with_reducible apply Sx.more | with_reducible apply Sx.ext | with_reducible apply Sx.draw | with_reducible apply Sx.alloc))) ?_; clear hK K
  have HP := Lib.hid (RdS.dx HP0.out)
  refine wpOrd_grow rfl (fun K hK => ?_); go_simp; go_at_call 46; refine (impl_Covers _ _ t.writes (diffC a b) _ (by (try simp only [← Array.append_assoc]); (repeat (first | with_reducible exact HT.out | with_reducible apply RdS.merge | with_reducible apply RdS.ext | with_reducible apply RdS.alloc | with_reducible apply RdS.drew)); all_goals exact (0 : Nat)) (by (try simp only [← Array.append_assoc]); (repeat (first | with_reducible exact HP.out | with_reducible apply RdS.merge | with_reducible apply RdS.ext | with_reducible apply RdS.alloc | with_reducible apply RdS.drew)); all_goals exact (0 : Nat))).mono ?_; rintro e w' ⟨rfl, hb⟩; obtain ⟨X, rfl⟩ := hb.ext; clear hb; try go_simp; refine hK _ _ ((by show Sx _ _; (try simp only [← Array.append_assoc]); repeat (first | with_reducible exact Sx.drew _ | with_reducible exact Sx.refl _ | with_reducible exact Sx.same _ _ _ _ | with_reducible exact ⟨_, rfl⟩ | with_reducible apply Sx.more | with_reducible apply Sx.ext | with_reducible apply Sx.draw | with_reducible apply Sx.alloc))) ?_; clear hK K
  repeat (refine wpOrd_tail rfl rfl (fun K hK => ?_); go_simp; refine hK _ _ ?_; clear hK K)
  refine wpOrd_nil ?_
  go_wp2
  go_ret
  exact ⟨rfl, (by repeat (first | with_reducible exact Below.refl _ _ | with_reducible apply Below.ofExt | with_reducible apply Below.ofAlloc | with_reducible apply Below.drew | with_reducible apply Below.ofDrewN | with_reducible assumption | (with_reducible refine Below.setCell ?_ (by first | exact Nat.le_refl _ | (simp [go_sem]; done) | (simp [go_sem]; omega)) _)))⟩
end Go.Proofs.Ytdgnnphghfppbaa
