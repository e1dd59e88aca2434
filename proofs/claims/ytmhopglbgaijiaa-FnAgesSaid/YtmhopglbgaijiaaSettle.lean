/- Whom a transaction waits for: the program's and the reference's. Each condition stands in its theorem. -/
import Derived.Test.YtmhopglbgaijiaaClash
import Derived.Test.YtmhopglbgaijiaaYoungerAll
set_option linter.unusedVariables false
set_option linter.unusedSimpArgs false
namespace Go.Proofs.Ytmhopglbgaijiaa
open Go.ChangeShapes Go.WideShapes Go.ChangeAt Go.RowKit

def settleOk (ds : List TxD) (x : TxD) (t : TouchD) : Bool := youngerAll ds (clashIds t x.id ds) x
def settleIds (ds : List TxD) (x : TxD) (t : TouchD) : List Int := if settleOk ds x t then clashIds t x.id ds else []
/-- a call's own new value, and a bool beside it -/
def _root_.Go.MadeT {α : Type} (V : View α) (w : World) (d : α) (b : Bool) : Ending → World → Prop := fun e w' => ∃ v' fp, e = .returned (.tuple #[v', .bool b]) ∧ Fresh V w w' fp [v'] d ∧ Below w.heap.size w w'
theorem nilAt {α : Type} (V : View α) {e : TypeId} (W : World) {n : Nat} (hn : n = W.heap.size) : (vSlice V e).own (W.alloc (.cells #[] e)) [n] [.slice (some ⟨n, 0, none⟩) 0 0] [] := by
  subst hn
  refine .inr ⟨W.heap.size, 0, #[], [], [], rfl, ?_, Nat.le_refl _, Nat.zero_le _, by simp, by simp, rfl, rfl, rfl, fun i hi => absurd hi (by simp)⟩
  show (W.heap.push _)[W.heap.size]? = _
  simp
theorem own_emptyAt (W : World) (n : Nat) (hn : n = W.heap.size) : OwnL rInt 3 (W.alloc (.cells #[] 3)) n (.slice (some ⟨n, 0, none⟩) 0 0) [] := by
  subst hn
  exact OwnL.empty rInt 3 W
set_option maxRecDepth 100000 in
set_option maxHeartbeats 2000000 in
theorem spec_Settle (v : Value) (ds : List TxD) (cx : List Value) (x : TxD) (ct : List Value) (t : TouchD) (w : World) {e : TypeId} (hs : (vSlice vTx e).rd w [v] ds) (hx : vTx.rd w cx x) (ht : vTouch.rd w ct t) (hlen : ds.length ≤ 1048576) :
    Calls Try.prog 9 #[v, .agg cx.toArray, .agg ct.toArray] w (MadeT (vSlice vInt 3) w (settleIds ds x t) (settleOk ds x t)) := by
  obtain ⟨a0, c0, rfl⟩ := vSlice.form hs
  have HS := Lib.hid hs
  have HXX := Lib.hid hx
  obtain ⟨p0, q0, p1, q1, p2, q2, p3, q3, p4, q4, rfl⟩ := vTx_shape hx
  clear hs hx
  obtain ⟨ts0, ts1, rfl, th0, th1⟩ := ht
  obtain ⟨ta0, tc0, rfl⟩ := vSlice.form th0
  obtain ⟨ta1, tc1, rfl⟩ := vSlice.form th1
  have HT : Hid (vTouch.rd w [_, _] t) := ⟨_, _, rfl, th0, th1⟩
  clear th0 th1
  obtain ⟨ids, hids⟩ : ∃ ids, ids = clashIds t x.id ds := ⟨_, rfl⟩
  have hi : settleIds ds x t = settleIds ds x t := rfl
  conv at hi => rhs; unfold settleIds
  have hok : settleOk ds x t = youngerAll ds ids x := by unfold settleOk; rw [hids]
  rw [hok, ← hids] at hi
  have HIDS := Lib.hid hids
  clear hids
  cases hy : youngerAll ds ids x with
  | true =>
    rw [hy] at hok hi
    have HI : Hid (settleIds ds x t = ids) := hi
    have HOK := Lib.hid hok
    have HY := Lib.hid hy
    clear hi hok hy
    go_enter Try.func9, Try.ntmps9
    go_wp2_with fail
    (go_at_call 34; refine (spec_ClashesOf _ ds _ t x.id _ (by (try simp only [← Array.append_assoc]); (repeat (first | with_reducible exact HS.out | with_reducible apply View.rdMerge | with_reducible apply View.rdExt | with_reducible apply View.rdAlloc | with_reducible apply View.rdDrew | with_reducible apply View.rdDrewN)); all_goals exact (0 : Nat)) (by (try simp only [← Array.append_assoc]); (repeat (first | with_reducible exact HT.out | with_reducible apply View.rdMerge | with_reducible apply View.rdExt | with_reducible apply View.rdAlloc | with_reducible apply View.rdDrew | with_reducible apply View.rdDrewN)); all_goals exact (0 : Nat)) hlen).mono ?_; rintro e w' ⟨u, fp, rfl, hf, hb⟩; obtain ⟨X1, rfl⟩ := hb.ext; clear hb; obtain ⟨a1, c1, rfl⟩ := vSlice.form (View.toRd _ hf.own); rw [← HIDS.out] at hf ⊢; have OI := Lib.hid hf.own; have LO := Lib.hid hf.lo; have ND := Lib.hid hf.nodup; clear hf)
    go_wp2_with fail
    (go_at_call 17; refine (spec_YoungerAll _ ds _ ids _ x _ (by (try simp only [← Array.append_assoc]); (repeat (first | with_reducible exact HS.out | with_reducible apply View.rdMerge | with_reducible apply View.rdExt | with_reducible apply View.rdAlloc | with_reducible apply View.rdDrew | with_reducible apply View.rdDrewN)); all_goals exact (0 : Nat)) (View.toRd _ (by (try simp only [← Array.append_assoc]); (repeat (first | with_reducible exact OI.out | with_reducible apply View.ownMerge | with_reducible apply View.ownExt | with_reducible apply View.ownAlloc)); all_goals exact (0 : Nat))) (by (try simp only [← Array.append_assoc]); (repeat (first | with_reducible exact HXX.out | with_reducible apply View.rdMerge | with_reducible apply View.rdExt | with_reducible apply View.rdAlloc | with_reducible apply View.rdDrew | with_reducible apply View.rdDrewN)); all_goals exact (0 : Nat))).mono ?_; rintro e w' ⟨rfl, hb⟩; obtain ⟨X, rfl⟩ := hb.ext; clear hb)
    rw [HY.out]
    go_wp2
    refine bodyPost_ret (by simp [results, Try.results9, go_sem]; rfl) rfl ?_
    rw [HI.out, HOK.out]
    exact ⟨_, fp, rfl, ⟨(by (try simp only [← Array.append_assoc]); (repeat (first | with_reducible exact OI.out | with_reducible apply View.ownMerge | with_reducible apply View.ownExt | with_reducible apply View.ownAlloc)); all_goals exact (0 : Nat)), ND.out, fun b hb => Nat.le_trans (by simp; omega) (LO.out b hb)⟩, (by repeat (first | with_reducible exact Below.refl _ _ | with_reducible apply Below.ofExt | with_reducible apply Below.ofAlloc | with_reducible apply Below.drew | with_reducible apply Below.ofDrewN | with_reducible assumption | (with_reducible refine Below.setCell ?_ (by first | exact Nat.le_refl _ | (simp [go_sem]; done) | (simp [go_sem]; omega)) _)))⟩
  | false =>
    rw [hy] at hok hi
    have HI : Hid (settleIds ds x t = []) := hi
    have HOK := Lib.hid hok
    have HY := Lib.hid hy
    clear hi hok hy
    go_enter Try.func9, Try.ntmps9
    go_wp2_with fail
    (go_at_call 34; refine (spec_ClashesOf _ ds _ t x.id _ (by (try simp only [← Array.append_assoc]); (repeat (first | with_reducible exact HS.out | with_reducible apply View.rdMerge | with_reducible apply View.rdExt | with_reducible apply View.rdAlloc | with_reducible apply View.rdDrew | with_reducible apply View.rdDrewN)); all_goals exact (0 : Nat)) (by (try simp only [← Array.append_assoc]); (repeat (first | with_reducible exact HT.out | with_reducible apply View.rdMerge | with_reducible apply View.rdExt | with_reducible apply View.rdAlloc | with_reducible apply View.rdDrew | with_reducible apply View.rdDrewN)); all_goals exact (0 : Nat)) hlen).mono ?_; rintro e w' ⟨u, fp, rfl, hf, hb⟩; obtain ⟨X1, rfl⟩ := hb.ext; clear hb; obtain ⟨a1, c1, rfl⟩ := vSlice.form (View.toRd _ hf.own); rw [← HIDS.out] at hf ⊢; have OI := Lib.hid hf.own; clear hf)
    go_wp2_with fail
    (go_at_call 17; refine (spec_YoungerAll _ ds _ ids _ x _ (by (try simp only [← Array.append_assoc]); (repeat (first | with_reducible exact HS.out | with_reducible apply View.rdMerge | with_reducible apply View.rdExt | with_reducible apply View.rdAlloc | with_reducible apply View.rdDrew | with_reducible apply View.rdDrewN)); all_goals exact (0 : Nat)) (View.toRd _ (by (try simp only [← Array.append_assoc]); (repeat (first | with_reducible exact OI.out | with_reducible apply View.ownMerge | with_reducible apply View.ownExt | with_reducible apply View.ownAlloc)); all_goals exact (0 : Nat))) (by (try simp only [← Array.append_assoc]); (repeat (first | with_reducible exact HXX.out | with_reducible apply View.rdMerge | with_reducible apply View.rdExt | with_reducible apply View.rdAlloc | with_reducible apply View.rdDrew | with_reducible apply View.rdDrewN)); all_goals exact (0 : Nat))).mono ?_; rintro e w' ⟨rfl, hb⟩; obtain ⟨X, rfl⟩ := hb.ext; clear hb)
    rw [HY.out]
    go_wp2
    refine bodyPost_ret (by simp [results, Try.results9, go_sem]; rfl) rfl ?_
    rw [HI.out, HOK.out]
    exact ⟨_, [_], rfl, ⟨nilAt _ _ (by simp [World.ext_size]), by simp, fun b hb => by simp at hb; omega⟩, (by repeat (first | with_reducible exact Below.refl _ _ | with_reducible apply Below.ofExt | with_reducible apply Below.ofAlloc | with_reducible apply Below.drew | with_reducible apply Below.ofDrewN | with_reducible assumption | (with_reducible refine Below.setCell ?_ (by first | exact Nat.le_refl _ | (simp [go_sem]; done) | (simp [go_sem]; omega)) _)))⟩
set_option maxRecDepth 100000 in
set_option maxHeartbeats 2000000 in
theorem impl_Settle (v : Value) (ds : List TxD) (cx : List Value) (x : TxD) (ct : List Value) (t : TouchD) (w : World) {e : TypeId} (hs : (vSlice vTx e).rd w [v] ds) (hx : vTx.rd w cx x) (ht : vTouch.rd w ct t) (hlen : ds.length ≤ 1048576) :
    Calls Try.prog 8 #[v, .agg cx.toArray, .agg ct.toArray] w (MadeT (vSlice vInt 3) w (settleIds ds x t) (settleOk ds x t)) := by
  obtain ⟨a0, c0, rfl⟩ := vSlice.form hs
  have HS := Lib.hid hs
  have HXX := Lib.hid hx
  obtain ⟨p0, q0, p1, q1, p2, q2, p3, q3, p4, q4, rfl⟩ := vTx_shape hx
  clear hs hx
  obtain ⟨ts0, ts1, rfl, th0, th1⟩ := ht
  obtain ⟨ta0, tc0, rfl⟩ := vSlice.form th0
  obtain ⟨ta1, tc1, rfl⟩ := vSlice.form th1
  have HT : Hid (vTouch.rd w [_, _] t) := ⟨_, _, rfl, th0, th1⟩
  clear th0 th1
  obtain ⟨ids, hids⟩ : ∃ ids, ids = clashIds t x.id ds := ⟨_, rfl⟩
  have hi : settleIds ds x t = settleIds ds x t := rfl
  conv at hi => rhs; unfold settleIds
  have hok : settleOk ds x t = youngerAll ds ids x := by unfold settleOk; rw [hids]
  rw [hok, ← hids] at hi
  have HIDS := Lib.hid hids
  clear hids
  cases hy : youngerAll ds ids x with
  | true =>
    rw [hy] at hok hi
    have HI : Hid (settleIds ds x t = ids) := hi
    have HOK := Lib.hid hok
    have HY := Lib.hid hy
    clear hi hok hy
    go_enter Try.func8, Try.ntmps8
    go_wp2_with fail
    (go_at_call 33; refine (impl_ClashesOf _ ds _ t x.id _ (by (try simp only [← Array.append_assoc]); (repeat (first | with_reducible exact HS.out | with_reducible apply View.rdMerge | with_reducible apply View.rdExt | with_reducible apply View.rdAlloc | with_reducible apply View.rdDrew | with_reducible apply View.rdDrewN)); all_goals exact (0 : Nat)) (by (try simp only [← Array.append_assoc]); (repeat (first | with_reducible exact HT.out | with_reducible apply View.rdMerge | with_reducible apply View.rdExt | with_reducible apply View.rdAlloc | with_reducible apply View.rdDrew | with_reducible apply View.rdDrewN)); all_goals exact (0 : Nat)) hlen).mono ?_; rintro e w' ⟨u, fp, rfl, hf, hb⟩; obtain ⟨X1, rfl⟩ := hb.ext; clear hb; obtain ⟨a1, c1, rfl⟩ := vSlice.form (View.toRd _ hf.own); rw [← HIDS.out] at hf ⊢; have OI := Lib.hid hf.own; have LO := Lib.hid hf.lo; have ND := Lib.hid hf.nodup; clear hf)
    go_wp2_with fail
    (go_at_call 16; refine (impl_YoungerAll _ ds _ ids _ x _ (by (try simp only [← Array.append_assoc]); (repeat (first | with_reducible exact HS.out | with_reducible apply View.rdMerge | with_reducible apply View.rdExt | with_reducible apply View.rdAlloc | with_reducible apply View.rdDrew | with_reducible apply View.rdDrewN)); all_goals exact (0 : Nat)) (View.toRd _ (by (try simp only [← Array.append_assoc]); (repeat (first | with_reducible exact OI.out | with_reducible apply View.ownMerge | with_reducible apply View.ownExt | with_reducible apply View.ownAlloc)); all_goals exact (0 : Nat))) (by (try simp only [← Array.append_assoc]); (repeat (first | with_reducible exact HXX.out | with_reducible apply View.rdMerge | with_reducible apply View.rdExt | with_reducible apply View.rdAlloc | with_reducible apply View.rdDrew | with_reducible apply View.rdDrewN)); all_goals exact (0 : Nat))).mono ?_; rintro e w' ⟨rfl, hb⟩; obtain ⟨X, rfl⟩ := hb.ext; clear hb)
    rw [HY.out]
    go_wp2
    refine bodyPost_ret (by simp [results, Try.results8, go_sem]; rfl) rfl ?_
    rw [HI.out, HOK.out]
    exact ⟨_, fp, rfl, ⟨(by (try simp only [← Array.append_assoc]); (repeat (first | with_reducible exact OI.out | with_reducible apply View.ownMerge | with_reducible apply View.ownExt | with_reducible apply View.ownAlloc)); all_goals exact (0 : Nat)), ND.out, fun b hb => Nat.le_trans (by simp; omega) (LO.out b hb)⟩, (by repeat (first | with_reducible exact Below.refl _ _ | with_reducible apply Below.ofExt | with_reducible apply Below.ofAlloc | with_reducible apply Below.drew | with_reducible apply Below.ofDrewN | with_reducible assumption | (with_reducible refine Below.setCell ?_ (by first | exact Nat.le_refl _ | (simp [go_sem]; done) | (simp [go_sem]; omega)) _)))⟩
  | false =>
    rw [hy] at hok hi
    have HI : Hid (settleIds ds x t = []) := hi
    have HOK := Lib.hid hok
    have HY := Lib.hid hy
    clear hi hok hy
    go_enter Try.func8, Try.ntmps8
    go_wp2_with fail
    (go_at_call 33; refine (impl_ClashesOf _ ds _ t x.id _ (by (try simp only [← Array.append_assoc]); (repeat (first | with_reducible exact HS.out | with_reducible apply View.rdMerge | with_reducible apply View.rdExt | with_reducible apply View.rdAlloc | with_reducible apply View.rdDrew | with_reducible apply View.rdDrewN)); all_goals exact (0 : Nat)) (by (try simp only [← Array.append_assoc]); (repeat (first | with_reducible exact HT.out | with_reducible apply View.rdMerge | with_reducible apply View.rdExt | with_reducible apply View.rdAlloc | with_reducible apply View.rdDrew | with_reducible apply View.rdDrewN)); all_goals exact (0 : Nat)) hlen).mono ?_; rintro e w' ⟨u, fp, rfl, hf, hb⟩; obtain ⟨X1, rfl⟩ := hb.ext; clear hb; obtain ⟨a1, c1, rfl⟩ := vSlice.form (View.toRd _ hf.own); rw [← HIDS.out] at hf ⊢; have OI := Lib.hid hf.own; clear hf)
    go_wp2_with fail
    (go_at_call 16; refine (impl_YoungerAll _ ds _ ids _ x _ (by (try simp only [← Array.append_assoc]); (repeat (first | with_reducible exact HS.out | with_reducible apply View.rdMerge | with_reducible apply View.rdExt | with_reducible apply View.rdAlloc | with_reducible apply View.rdDrew | with_reducible apply View.rdDrewN)); all_goals exact (0 : Nat)) (View.toRd _ (by (try simp only [← Array.append_assoc]); (repeat (first | with_reducible exact OI.out | with_reducible apply View.ownMerge | with_reducible apply View.ownExt | with_reducible apply View.ownAlloc)); all_goals exact (0 : Nat))) (by (try simp only [← Array.append_assoc]); (repeat (first | with_reducible exact HXX.out | with_reducible apply View.rdMerge | with_reducible apply View.rdExt | with_reducible apply View.rdAlloc | with_reducible apply View.rdDrew | with_reducible apply View.rdDrewN)); all_goals exact (0 : Nat))).mono ?_; rintro e w' ⟨rfl, hb⟩; obtain ⟨X, rfl⟩ := hb.ext; clear hb)
    rw [HY.out]
    go_wp2
    refine bodyPost_ret (by simp [results, Try.results8, go_sem]; rfl) rfl ?_
    rw [HI.out, HOK.out]
    exact ⟨_, [], rfl, ⟨.inl ⟨rfl, rfl, rfl⟩, List.nodup_nil, by simp⟩, (by repeat (first | with_reducible exact Below.refl _ _ | with_reducible apply Below.ofExt | with_reducible apply Below.ofAlloc | with_reducible apply Below.drew | with_reducible apply Below.ofDrewN | with_reducible assumption | (with_reducible refine Below.setCell ?_ (by first | exact Nat.le_refl _ | (simp [go_sem]; done) | (simp [go_sem]; omega)) _)))⟩
end Go.Proofs.Ytmhopglbgaijiaa
