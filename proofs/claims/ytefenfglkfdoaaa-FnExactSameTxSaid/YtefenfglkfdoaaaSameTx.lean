/- Equality of transactions: the program's and the reference's. Each condition stands in its theorem. -/
import Derived.Test.YtefenfglkfdoaaaEqCall
import Derived.Test.YtefenfglkfdoaaaEqAnswer
import Derived.Test.YtefenfglkfdoaaaEqStr
import Derived.Test.YtefenfglkfdoaaaEqInt
import Derived.Test.YtefenfglkfdoaaaCTx
set_option linter.unusedVariables false
set_option linter.unusedSimpArgs false
namespace Go.Proofs.Ytefenfglkfdoaaa
open Go.ChangeShapes Go.WideShapes Go.ChangeAt Go.RowKit

def sameTouch (x y : TouchD) : Bool := sameL eqStr x.reads y.reads && sameL eqStr x.writes y.writes
def sameTx (x y : TxD) : Bool := (x.id == y.id) && ((x.age == y.age) && ((x.proc == y.proc) && ((x.began == y.began) && ((x.state == y.state) && (sameL eqCall x.calls y.calls && (sameL eqAnswer x.answers y.answers && (sameTouch x.touch y.touch && sameL eqInt x.marks y.marks)))))))
theorem impl_SameAnswers (v : Value) (xs : List AnswerD) (v' : Value) (ys : List AnswerD) (w : World) {e e' : TypeId} (hs : (vSlice vAnswer e).rd w [v] xs) (hs' : (vSlice vAnswer e').rd w [v'] ys) :
    Calls Try.prog 92 #[v, v'] w fun e w' => e = .returned (.bool (sameL eqAnswer xs ys)) ∧ Below w.heap.size w w' := by
  obtain ⟨a0, c0, rfl⟩ := vSlice.form hs
  obtain ⟨a1, c1, rfl⟩ := vSlice.form hs'
  go_enter Try.func92, Try.ntmps92
  go_wp2_with fail
  (go_at_call 123; refine (answers_Equal _ xs _ ys _ hs hs').mono ?_; rintro e w' ⟨rfl, hb⟩; obtain ⟨X, rfl⟩ := hb.ext; clear hb)
  go_wp2
  go_ret
  exact ⟨rfl, (by repeat (first | with_reducible exact Below.refl _ _ | with_reducible apply Below.ofExt | with_reducible apply Below.ofAlloc | with_reducible apply Below.drew | with_reducible apply Below.ofDrewN | with_reducible assumption | (with_reducible refine Below.setCell ?_ (by first | exact Nat.le_refl _ | (simp [go_sem]; done) | (simp [go_sem]; omega)) _)))⟩
theorem spec_SameTouch (cs : List Value) (x : TouchD) (cs' : List Value) (y : TouchD) (w : World) (hs : vTouch.rd w cs x) (hs' : vTouch.rd w cs' y) :
    Calls Try.prog 89 #[.agg cs.toArray, .agg cs'.toArray] w fun e w' => e = .returned (.bool (sameTouch x y)) ∧ Below w.heap.size w w' := by
  obtain ⟨s0, s1, rfl, h0, h1⟩ := hs
  obtain ⟨t0, t1, rfl, k0, k1⟩ := hs'
  obtain ⟨a0, c0, rfl⟩ := vSlice.form h0
  obtain ⟨a1, c1, rfl⟩ := vSlice.form h1
  obtain ⟨b0, g0, rfl⟩ := vSlice.form k0
  obtain ⟨b1, g1, rfl⟩ := vSlice.form k1
  have H0 := Lib.hid h0
  have H1 := Lib.hid h1
  have K0 := Lib.hid k0
  have K1 := Lib.hid k1
  clear h0 h1 k0 k1
  have hq : sameTouch x y = sameTouch x y := rfl
  conv at hq => rhs; unfold sameTouch
  cases hc : sameL eqStr x.reads y.reads with
  | false =>
    rw [hc, Bool.false_and] at hq
    rw [hq]
    have HC := Lib.hid hc
    clear hq hc
    go_enter Try.func89, Try.ntmps89
    go_wp2_with fail
    (go_at_call 122; refine (spec_l03Same _ x.reads _ y.reads _ (by (try simp only [← Array.append_assoc]); (repeat (first | with_reducible exact H0.out | with_reducible apply View.rdMerge | with_reducible apply View.rdExt | with_reducible apply View.rdAlloc | with_reducible apply View.rdDrew | with_reducible apply View.rdDrewN)); all_goals exact (0 : Nat)) (by (try simp only [← Array.append_assoc]); (repeat (first | with_reducible exact K0.out | with_reducible apply View.rdMerge | with_reducible apply View.rdExt | with_reducible apply View.rdAlloc | with_reducible apply View.rdDrew | with_reducible apply View.rdDrewN)); all_goals exact (0 : Nat))).mono ?_; rintro e w' ⟨rfl, hb⟩; obtain ⟨X, rfl⟩ := hb.ext; clear hb)
    rw [HC.out]
    go_wp2
    go_ret
    exact ⟨rfl, (by repeat (first | with_reducible exact Below.refl _ _ | with_reducible apply Below.ofExt | with_reducible apply Below.ofAlloc | with_reducible apply Below.drew | with_reducible apply Below.ofDrewN | with_reducible assumption | (with_reducible refine Below.setCell ?_ (by first | exact Nat.le_refl _ | (simp [go_sem]; done) | (simp [go_sem]; omega)) _)))⟩
  | true =>
    rw [hc, Bool.true_and] at hq
    rw [hq]
    have HC := Lib.hid hc
    clear hq hc
    go_enter Try.func89, Try.ntmps89
    go_wp2_with fail
    (go_at_call 122; refine (spec_l03Same _ x.reads _ y.reads _ (by (try simp only [← Array.append_assoc]); (repeat (first | with_reducible exact H0.out | with_reducible apply View.rdMerge | with_reducible apply View.rdExt | with_reducible apply View.rdAlloc | with_reducible apply View.rdDrew | with_reducible apply View.rdDrewN)); all_goals exact (0 : Nat)) (by (try simp only [← Array.append_assoc]); (repeat (first | with_reducible exact K0.out | with_reducible apply View.rdMerge | with_reducible apply View.rdExt | with_reducible apply View.rdAlloc | with_reducible apply View.rdDrew | with_reducible apply View.rdDrewN)); all_goals exact (0 : Nat))).mono ?_; rintro e w' ⟨rfl, hb⟩; obtain ⟨X, rfl⟩ := hb.ext; clear hb)
    rw [HC.out]
    go_wp2_with fail
    (go_at_call 122; refine (spec_l03Same _ x.writes _ y.writes _ (by (try simp only [← Array.append_assoc]); (repeat (first | with_reducible exact H1.out | with_reducible apply View.rdMerge | with_reducible apply View.rdExt | with_reducible apply View.rdAlloc | with_reducible apply View.rdDrew | with_reducible apply View.rdDrewN)); all_goals exact (0 : Nat)) (by (try simp only [← Array.append_assoc]); (repeat (first | with_reducible exact K1.out | with_reducible apply View.rdMerge | with_reducible apply View.rdExt | with_reducible apply View.rdAlloc | with_reducible apply View.rdDrew | with_reducible apply View.rdDrewN)); all_goals exact (0 : Nat))).mono ?_; rintro e w' ⟨rfl, hb⟩; obtain ⟨X, rfl⟩ := hb.ext; clear hb)
    go_wp2
    go_ret
    exact ⟨rfl, (by repeat (first | with_reducible exact Below.refl _ _ | with_reducible apply Below.ofExt | with_reducible apply Below.ofAlloc | with_reducible apply Below.drew | with_reducible apply Below.ofDrewN | with_reducible assumption | (with_reducible refine Below.setCell ?_ (by first | exact Nat.le_refl _ | (simp [go_sem]; done) | (simp [go_sem]; omega)) _)))⟩
theorem impl_SameTouch (cs : List Value) (x : TouchD) (cs' : List Value) (y : TouchD) (w : World) (hs : vTouch.rd w cs x) (hs' : vTouch.rd w cs' y) :
    Calls Try.prog 93 #[.agg cs.toArray, .agg cs'.toArray] w fun e w' => e = .returned (.bool (sameTouch x y)) ∧ Below w.heap.size w w' := by
  obtain ⟨s0, s1, rfl, h0, h1⟩ := hs
  obtain ⟨t0, t1, rfl, k0, k1⟩ := hs'
  obtain ⟨a0, c0, rfl⟩ := vSlice.form h0
  obtain ⟨a1, c1, rfl⟩ := vSlice.form h1
  obtain ⟨b0, g0, rfl⟩ := vSlice.form k0
  obtain ⟨b1, g1, rfl⟩ := vSlice.form k1
  have H0 := Lib.hid h0
  have H1 := Lib.hid h1
  have K0 := Lib.hid k0
  have K1 := Lib.hid k1
  clear h0 h1 k0 k1
  have hq : sameTouch x y = sameTouch x y := rfl
  conv at hq => rhs; unfold sameTouch
  cases hc : sameL eqStr x.reads y.reads with
  | false =>
    rw [hc, Bool.false_and] at hq
    rw [hq]
    have HC := Lib.hid hc
    clear hq hc
    go_enter Try.func93, Try.ntmps93
    go_wp2_with fail
    (go_at_call 124; refine (strs_Equal _ x.reads _ y.reads _ (by (try simp only [← Array.append_assoc]); (repeat (first | with_reducible exact H0.out | with_reducible apply View.rdMerge | with_reducible apply View.rdExt | with_reducible apply View.rdAlloc | with_reducible apply View.rdDrew | with_reducible apply View.rdDrewN)); all_goals exact (0 : Nat)) (by (try simp only [← Array.append_assoc]); (repeat (first | with_reducible exact K0.out | with_reducible apply View.rdMerge | with_reducible apply View.rdExt | with_reducible apply View.rdAlloc | with_reducible apply View.rdDrew | with_reducible apply View.rdDrewN)); all_goals exact (0 : Nat))).mono ?_; rintro e w' ⟨rfl, hb⟩; obtain ⟨X, rfl⟩ := hb.ext; clear hb)
    rw [HC.out]
    go_wp2
    go_ret
    exact ⟨rfl, (by repeat (first | with_reducible exact Below.refl _ _ | with_reducible apply Below.ofExt | with_reducible apply Below.ofAlloc | with_reducible apply Below.drew | with_reducible apply Below.ofDrewN | with_reducible assumption | (with_reducible refine Below.setCell ?_ (by first | exact Nat.le_refl _ | (simp [go_sem]; done) | (simp [go_sem]; omega)) _)))⟩
  | true =>
    rw [hc, Bool.true_and] at hq
    rw [hq]
    have HC := Lib.hid hc
    clear hq hc
    go_enter Try.func93, Try.ntmps93
    go_wp2_with fail
    (go_at_call 124; refine (strs_Equal _ x.reads _ y.reads _ (by (try simp only [← Array.append_assoc]); (repeat (first | with_reducible exact H0.out | with_reducible apply View.rdMerge | with_reducible apply View.rdExt | with_reducible apply View.rdAlloc | with_reducible apply View.rdDrew | with_reducible apply View.rdDrewN)); all_goals exact (0 : Nat)) (by (try simp only [← Array.append_assoc]); (repeat (first | with_reducible exact K0.out | with_reducible apply View.rdMerge | with_reducible apply View.rdExt | with_reducible apply View.rdAlloc | with_reducible apply View.rdDrew | with_reducible apply View.rdDrewN)); all_goals exact (0 : Nat))).mono ?_; rintro e w' ⟨rfl, hb⟩; obtain ⟨X, rfl⟩ := hb.ext; clear hb)
    rw [HC.out]
    go_wp2_with fail
    (go_at_call 124; refine (strs_Equal _ x.writes _ y.writes _ (by (try simp only [← Array.append_assoc]); (repeat (first | with_reducible exact H1.out | with_reducible apply View.rdMerge | with_reducible apply View.rdExt | with_reducible apply View.rdAlloc | with_reducible apply View.rdDrew | with_reducible apply View.rdDrewN)); all_goals exact (0 : Nat)) (by (try simp only [← Array.append_assoc]); (repeat (first | with_reducible exact K1.out | with_reducible apply View.rdMerge | with_reducible apply View.rdExt | with_reducible apply View.rdAlloc | with_reducible apply View.rdDrew | with_reducible apply View.rdDrewN)); all_goals exact (0 : Nat))).mono ?_; rintro e w' ⟨rfl, hb⟩; obtain ⟨X, rfl⟩ := hb.ext; clear hb)
    go_wp2
    go_ret
    exact ⟨rfl, (by repeat (first | with_reducible exact Below.refl _ _ | with_reducible apply Below.ofExt | with_reducible apply Below.ofAlloc | with_reducible apply Below.drew | with_reducible apply Below.ofDrewN | with_reducible assumption | (with_reducible refine Below.setCell ?_ (by first | exact Nat.le_refl _ | (simp [go_sem]; done) | (simp [go_sem]; omega)) _)))⟩
set_option maxRecDepth 100000 in
set_option maxHeartbeats 4000000 in
theorem spec_SameTx (cs : List Value) (x : TxD) (cs' : List Value) (y : TxD) (w : World) (hs : vTx.rd w cs x) (hs' : vTx.rd w cs' y) :
    Calls Try.prog 40 #[.agg cs.toArray, .agg cs'.toArray] w fun e w' => e = .returned (.bool (sameTx x y)) ∧ Below w.heap.size w w' := by
  obtain ⟨s0, s1, s2, s3, s4, rfl, h0, h1, h2, h3, h4⟩ := hs
  obtain ⟨t0, t1, t2, t3, t4, rfl, k0, k1, k2, k3, k4⟩ := hs'
  obtain ⟨a0, c0, rfl⟩ := vSlice.form h0
  obtain ⟨b0, g0, rfl⟩ := vSlice.form k0
  have H0 := Lib.hid h0
  have K0 := Lib.hid k0
  obtain ⟨a1, c1, rfl⟩ := vSlice.form h1
  obtain ⟨b1, g1, rfl⟩ := vSlice.form k1
  have H1 := Lib.hid h1
  have K1 := Lib.hid k1
  obtain ⟨a2, c2, rfl⟩ := vSlice.form h2
  obtain ⟨b2, g2, rfl⟩ := vSlice.form k2
  have H2 := Lib.hid h2
  have K2 := Lib.hid k2
  obtain ⟨a3, c3, rfl⟩ := vSlice.form h3
  obtain ⟨b3, g3, rfl⟩ := vSlice.form k3
  have H3 := Lib.hid h3
  have K3 := Lib.hid k3
  obtain ⟨a4, c4, rfl⟩ := vSlice.form h4
  obtain ⟨b4, g4, rfl⟩ := vSlice.form k4
  have H4 := Lib.hid h4
  have K4 := Lib.hid k4
  clear h0 h1 h2 h3 h4 k0 k1 k2 k3 k4
  have hq : sameTx x y = sameTx x y := rfl
  conv at hq => rhs; unfold sameTx
  by_cases f0 : x.id = y.id
  case neg =>
    have q0 : (x.id == y.id) = false := by simp [f0]
    rw [q0, Bool.false_and] at hq
    rw [hq]
    clear hq
    go_enter Try.func40, Try.ntmps40
    go_wp2
    go_ret
    exact ⟨rfl, (by repeat (first | with_reducible exact Below.refl _ _ | with_reducible apply Below.ofExt | with_reducible apply Below.ofAlloc | with_reducible apply Below.drew | with_reducible apply Below.ofDrewN | with_reducible assumption | (with_reducible refine Below.setCell ?_ (by first | exact Nat.le_refl _ | (simp [go_sem]; done) | (simp [go_sem]; omega)) _)))⟩
  have q0 : (x.id == y.id) = true := by simp [f0]
  rw [q0, Bool.true_and] at hq
  by_cases f1 : x.age = y.age
  case neg =>
    have q1 : (x.age == y.age) = false := by simp [f1]
    rw [q1, Bool.false_and] at hq
    rw [hq]
    clear hq
    go_enter Try.func40, Try.ntmps40
    go_wp2
    go_ret
    exact ⟨rfl, (by repeat (first | with_reducible exact Below.refl _ _ | with_reducible apply Below.ofExt | with_reducible apply Below.ofAlloc | with_reducible apply Below.drew | with_reducible apply Below.ofDrewN | with_reducible assumption | (with_reducible refine Below.setCell ?_ (by first | exact Nat.le_refl _ | (simp [go_sem]; done) | (simp [go_sem]; omega)) _)))⟩
  have q1 : (x.age == y.age) = true := by simp [f1]
  rw [q1, Bool.true_and] at hq
  by_cases f2 : x.proc = y.proc
  case neg =>
    have q2 : (x.proc == y.proc) = false := by simp [f2]
    rw [q2, Bool.false_and] at hq
    rw [hq]
    clear hq
    go_enter Try.func40, Try.ntmps40
    go_wp2
    go_ret
    exact ⟨rfl, (by repeat (first | with_reducible exact Below.refl _ _ | with_reducible apply Below.ofExt | with_reducible apply Below.ofAlloc | with_reducible apply Below.drew | with_reducible apply Below.ofDrewN | with_reducible assumption | (with_reducible refine Below.setCell ?_ (by first | exact Nat.le_refl _ | (simp [go_sem]; done) | (simp [go_sem]; omega)) _)))⟩
  have q2 : (x.proc == y.proc) = true := by simp [f2]
  rw [q2, Bool.true_and] at hq
  by_cases f3 : x.began = y.began
  case neg =>
    have q3 : (x.began == y.began) = false := by simp [f3]
    rw [q3, Bool.false_and] at hq
    rw [hq]
    clear hq
    go_enter Try.func40, Try.ntmps40
    go_wp2
    go_ret
    exact ⟨rfl, (by repeat (first | with_reducible exact Below.refl _ _ | with_reducible apply Below.ofExt | with_reducible apply Below.ofAlloc | with_reducible apply Below.drew | with_reducible apply Below.ofDrewN | with_reducible assumption | (with_reducible refine Below.setCell ?_ (by first | exact Nat.le_refl _ | (simp [go_sem]; done) | (simp [go_sem]; omega)) _)))⟩
  have q3 : (x.began == y.began) = true := by simp [f3]
  rw [q3, Bool.true_and] at hq
  by_cases f4 : x.state = y.state
  case neg =>
    have q4 : (x.state == y.state) = false := by simp [f4]
    rw [q4, Bool.false_and] at hq
    rw [hq]
    clear hq
    go_enter Try.func40, Try.ntmps40
    go_wp2
    go_ret
    exact ⟨rfl, (by repeat (first | with_reducible exact Below.refl _ _ | with_reducible apply Below.ofExt | with_reducible apply Below.ofAlloc | with_reducible apply Below.drew | with_reducible apply Below.ofDrewN | with_reducible assumption | (with_reducible refine Below.setCell ?_ (by first | exact Nat.le_refl _ | (simp [go_sem]; done) | (simp [go_sem]; omega)) _)))⟩
  have q4 : (x.state == y.state) = true := by simp [f4]
  rw [q4, Bool.true_and] at hq
  cases hc0 : sameL eqCall x.calls y.calls with
  | false =>
    rw [hc0, Bool.false_and] at hq
    rw [hq]
    have HC0 := Lib.hid hc0
    clear hq hc0
    go_enter Try.func40, Try.ntmps40
    go_wp2_with fail
    (go_at_call 87; refine (spec_l17Calls _ x.calls _ y.calls _ (by (try simp only [← Array.append_assoc]); (repeat (first | with_reducible exact H0.out | with_reducible apply View.rdMerge | with_reducible apply View.rdExt | with_reducible apply View.rdAlloc | with_reducible apply View.rdDrew | with_reducible apply View.rdDrewN)); all_goals exact (0 : Nat)) (by (try simp only [← Array.append_assoc]); (repeat (first | with_reducible exact K0.out | with_reducible apply View.rdMerge | with_reducible apply View.rdExt | with_reducible apply View.rdAlloc | with_reducible apply View.rdDrew | with_reducible apply View.rdDrewN)); all_goals exact (0 : Nat))).mono ?_; rintro e w' ⟨rfl, hb⟩; obtain ⟨X, rfl⟩ := hb.ext; clear hb)
    rw [HC0.out]
    go_wp2
    go_ret
    exact ⟨rfl, (by repeat (first | with_reducible exact Below.refl _ _ | with_reducible apply Below.ofExt | with_reducible apply Below.ofAlloc | with_reducible apply Below.drew | with_reducible apply Below.ofDrewN | with_reducible assumption | (with_reducible refine Below.setCell ?_ (by first | exact Nat.le_refl _ | (simp [go_sem]; done) | (simp [go_sem]; omega)) _)))⟩
  | true =>
  rw [hc0, Bool.true_and] at hq
  have HC0 := Lib.hid hc0
  clear hc0
  cases hc1 : sameL eqAnswer x.answers y.answers with
  | false =>
    rw [hc1, Bool.false_and] at hq
    rw [hq]
    have HC1 := Lib.hid hc1
    clear hq hc1
    go_enter Try.func40, Try.ntmps40
    go_wp2_with fail
    (go_at_call 87; refine (spec_l17Calls _ x.calls _ y.calls _ (by (try simp only [← Array.append_assoc]); (repeat (first | with_reducible exact H0.out | with_reducible apply View.rdMerge | with_reducible apply View.rdExt | with_reducible apply View.rdAlloc | with_reducible apply View.rdDrew | with_reducible apply View.rdDrewN)); all_goals exact (0 : Nat)) (by (try simp only [← Array.append_assoc]); (repeat (first | with_reducible exact K0.out | with_reducible apply View.rdMerge | with_reducible apply View.rdExt | with_reducible apply View.rdAlloc | with_reducible apply View.rdDrew | with_reducible apply View.rdDrewN)); all_goals exact (0 : Nat))).mono ?_; rintro e w' ⟨rfl, hb⟩; obtain ⟨X, rfl⟩ := hb.ext; clear hb)
    rw [HC0.out]
    go_wp2_with fail
    (go_at_call 88; refine (spec_SameAnswers _ x.answers _ y.answers _ (by (try simp only [← Array.append_assoc]); (repeat (first | with_reducible exact H1.out | with_reducible apply View.rdMerge | with_reducible apply View.rdExt | with_reducible apply View.rdAlloc | with_reducible apply View.rdDrew | with_reducible apply View.rdDrewN)); all_goals exact (0 : Nat)) (by (try simp only [← Array.append_assoc]); (repeat (first | with_reducible exact K1.out | with_reducible apply View.rdMerge | with_reducible apply View.rdExt | with_reducible apply View.rdAlloc | with_reducible apply View.rdDrew | with_reducible apply View.rdDrewN)); all_goals exact (0 : Nat))).mono ?_; rintro e w' ⟨rfl, hb⟩; obtain ⟨X, rfl⟩ := hb.ext; clear hb)
    rw [HC1.out]
    go_wp2
    go_ret
    exact ⟨rfl, (by repeat (first | with_reducible exact Below.refl _ _ | with_reducible apply Below.ofExt | with_reducible apply Below.ofAlloc | with_reducible apply Below.drew | with_reducible apply Below.ofDrewN | with_reducible assumption | (with_reducible refine Below.setCell ?_ (by first | exact Nat.le_refl _ | (simp [go_sem]; done) | (simp [go_sem]; omega)) _)))⟩
  | true =>
  rw [hc1, Bool.true_and] at hq
  have HC1 := Lib.hid hc1
  clear hc1
  cases hc2 : sameTouch x.touch y.touch with
  | false =>
    rw [hc2, Bool.false_and] at hq
    rw [hq]
    have HC2 := Lib.hid hc2
    clear hq hc2
    go_enter Try.func40, Try.ntmps40
    go_wp2_with fail
    (go_at_call 87; refine (spec_l17Calls _ x.calls _ y.calls _ (by (try simp only [← Array.append_assoc]); (repeat (first | with_reducible exact H0.out | with_reducible apply View.rdMerge | with_reducible apply View.rdExt | with_reducible apply View.rdAlloc | with_reducible apply View.rdDrew | with_reducible apply View.rdDrewN)); all_goals exact (0 : Nat)) (by (try simp only [← Array.append_assoc]); (repeat (first | with_reducible exact K0.out | with_reducible apply View.rdMerge | with_reducible apply View.rdExt | with_reducible apply View.rdAlloc | with_reducible apply View.rdDrew | with_reducible apply View.rdDrewN)); all_goals exact (0 : Nat))).mono ?_; rintro e w' ⟨rfl, hb⟩; obtain ⟨X, rfl⟩ := hb.ext; clear hb)
    rw [HC0.out]
    go_wp2_with fail
    (go_at_call 88; refine (spec_SameAnswers _ x.answers _ y.answers _ (by (try simp only [← Array.append_assoc]); (repeat (first | with_reducible exact H1.out | with_reducible apply View.rdMerge | with_reducible apply View.rdExt | with_reducible apply View.rdAlloc | with_reducible apply View.rdDrew | with_reducible apply View.rdDrewN)); all_goals exact (0 : Nat)) (by (try simp only [← Array.append_assoc]); (repeat (first | with_reducible exact K1.out | with_reducible apply View.rdMerge | with_reducible apply View.rdExt | with_reducible apply View.rdAlloc | with_reducible apply View.rdDrew | with_reducible apply View.rdDrewN)); all_goals exact (0 : Nat))).mono ?_; rintro e w' ⟨rfl, hb⟩; obtain ⟨X, rfl⟩ := hb.ext; clear hb)
    rw [HC1.out]
    go_wp2_with fail
    (go_at_call 89; refine (spec_SameTouch _ x.touch _ y.touch _ ⟨_, _, rfl, (by (try simp only [← Array.append_assoc]); (repeat (first | with_reducible exact H2.out | with_reducible apply View.rdMerge | with_reducible apply View.rdExt | with_reducible apply View.rdAlloc | with_reducible apply View.rdDrew | with_reducible apply View.rdDrewN)); all_goals exact (0 : Nat)), (by (try simp only [← Array.append_assoc]); (repeat (first | with_reducible exact H3.out | with_reducible apply View.rdMerge | with_reducible apply View.rdExt | with_reducible apply View.rdAlloc | with_reducible apply View.rdDrew | with_reducible apply View.rdDrewN)); all_goals exact (0 : Nat))⟩ ⟨_, _, rfl, (by (try simp only [← Array.append_assoc]); (repeat (first | with_reducible exact K2.out | with_reducible apply View.rdMerge | with_reducible apply View.rdExt | with_reducible apply View.rdAlloc | with_reducible apply View.rdDrew | with_reducible apply View.rdDrewN)); all_goals exact (0 : Nat)), (by (try simp only [← Array.append_assoc]); (repeat (first | with_reducible exact K3.out | with_reducible apply View.rdMerge | with_reducible apply View.rdExt | with_reducible apply View.rdAlloc | with_reducible apply View.rdDrew | with_reducible apply View.rdDrewN)); all_goals exact (0 : Nat))⟩).mono ?_; rintro e w' ⟨rfl, hb⟩; obtain ⟨X, rfl⟩ := hb.ext; clear hb)
    rw [HC2.out]
    go_wp2
    go_ret
    exact ⟨rfl, (by repeat (first | with_reducible exact Below.refl _ _ | with_reducible apply Below.ofExt | with_reducible apply Below.ofAlloc | with_reducible apply Below.drew | with_reducible apply Below.ofDrewN | with_reducible assumption | (with_reducible refine Below.setCell ?_ (by first | exact Nat.le_refl _ | (simp [go_sem]; done) | (simp [go_sem]; omega)) _)))⟩
  | true =>
  rw [hc2, Bool.true_and] at hq
  have HC2 := Lib.hid hc2
  clear hc2
  rw [hq]
  clear hq
  go_enter Try.func40, Try.ntmps40
  go_wp2_with fail
  (go_at_call 87; refine (spec_l17Calls _ x.calls _ y.calls _ (by (try simp only [← Array.append_assoc]); (repeat (first | with_reducible exact H0.out | with_reducible apply View.rdMerge | with_reducible apply View.rdExt | with_reducible apply View.rdAlloc | with_reducible apply View.rdDrew | with_reducible apply View.rdDrewN)); all_goals exact (0 : Nat)) (by (try simp only [← Array.append_assoc]); (repeat (first | with_reducible exact K0.out | with_reducible apply View.rdMerge | with_reducible apply View.rdExt | with_reducible apply View.rdAlloc | with_reducible apply View.rdDrew | with_reducible apply View.rdDrewN)); all_goals exact (0 : Nat))).mono ?_; rintro e w' ⟨rfl, hb⟩; obtain ⟨X, rfl⟩ := hb.ext; clear hb)
  rw [HC0.out]
  go_wp2_with fail
  (go_at_call 88; refine (spec_SameAnswers _ x.answers _ y.answers _ (by (try simp only [← Array.append_assoc]); (repeat (first | with_reducible exact H1.out | with_reducible apply View.rdMerge | with_reducible apply View.rdExt | with_reducible apply View.rdAlloc | with_reducible apply View.rdDrew | with_reducible apply View.rdDrewN)); all_goals exact (0 : Nat)) (by (try simp only [← Array.append_assoc]); (repeat (first | with_reducible exact K1.out | with_reducible apply View.rdMerge | with_reducible apply View.rdExt | with_reducible apply View.rdAlloc | with_reducible apply View.rdDrew | with_reducible apply View.rdDrewN)); all_goals exact (0 : Nat))).mono ?_; rintro e w' ⟨rfl, hb⟩; obtain ⟨X, rfl⟩ := hb.ext; clear hb)
  rw [HC1.out]
  go_wp2_with fail
  (go_at_call 89; refine (spec_SameTouch _ x.touch _ y.touch _ ⟨_, _, rfl, (by (try simp only [← Array.append_assoc]); (repeat (first | with_reducible exact H2.out | with_reducible apply View.rdMerge | with_reducible apply View.rdExt | with_reducible apply View.rdAlloc | with_reducible apply View.rdDrew | with_reducible apply View.rdDrewN)); all_goals exact (0 : Nat)), (by (try simp only [← Array.append_assoc]); (repeat (first | with_reducible exact H3.out | with_reducible apply View.rdMerge | with_reducible apply View.rdExt | with_reducible apply View.rdAlloc | with_reducible apply View.rdDrew | with_reducible apply View.rdDrewN)); all_goals exact (0 : Nat))⟩ ⟨_, _, rfl, (by (try simp only [← Array.append_assoc]); (repeat (first | with_reducible exact K2.out | with_reducible apply View.rdMerge | with_reducible apply View.rdExt | with_reducible apply View.rdAlloc | with_reducible apply View.rdDrew | with_reducible apply View.rdDrewN)); all_goals exact (0 : Nat)), (by (try simp only [← Array.append_assoc]); (repeat (first | with_reducible exact K3.out | with_reducible apply View.rdMerge | with_reducible apply View.rdExt | with_reducible apply View.rdAlloc | with_reducible apply View.rdDrew | with_reducible apply View.rdDrewN)); all_goals exact (0 : Nat))⟩).mono ?_; rintro e w' ⟨rfl, hb⟩; obtain ⟨X, rfl⟩ := hb.ext; clear hb)
  rw [HC2.out]
  go_wp2_with fail
  (go_at_call 90; refine (spec_l17Ints _ x.marks _ y.marks _ (by (try simp only [← Array.append_assoc]); (repeat (first | with_reducible exact H4.out | with_reducible apply View.rdMerge | with_reducible apply View.rdExt | with_reducible apply View.rdAlloc | with_reducible apply View.rdDrew | with_reducible apply View.rdDrewN)); all_goals exact (0 : Nat)) (by (try simp only [← Array.append_assoc]); (repeat (first | with_reducible exact K4.out | with_reducible apply View.rdMerge | with_reducible apply View.rdExt | with_reducible apply View.rdAlloc | with_reducible apply View.rdDrew | with_reducible apply View.rdDrewN)); all_goals exact (0 : Nat))).mono ?_; rintro e w' ⟨rfl, hb⟩; obtain ⟨X, rfl⟩ := hb.ext; clear hb)
  go_wp2
  go_ret
  exact ⟨rfl, (by repeat (first | with_reducible exact Below.refl _ _ | with_reducible apply Below.ofExt | with_reducible apply Below.ofAlloc | with_reducible apply Below.drew | with_reducible apply Below.ofDrewN | with_reducible assumption | (with_reducible refine Below.setCell ?_ (by first | exact Nat.le_refl _ | (simp [go_sem]; done) | (simp [go_sem]; omega)) _)))⟩
set_option maxRecDepth 100000 in
set_option maxHeartbeats 4000000 in
theorem impl_SameTx (cs : List Value) (x : TxD) (cs' : List Value) (y : TxD) (w : World) (hs : vTx.rd w cs x) (hs' : vTx.rd w cs' y) :
    Calls Try.prog 41 #[.agg cs.toArray, .agg cs'.toArray] w fun e w' => e = .returned (.bool (sameTx x y)) ∧ Below w.heap.size w w' := by
  obtain ⟨s0, s1, s2, s3, s4, rfl, h0, h1, h2, h3, h4⟩ := hs
  obtain ⟨t0, t1, t2, t3, t4, rfl, k0, k1, k2, k3, k4⟩ := hs'
  obtain ⟨a0, c0, rfl⟩ := vSlice.form h0
  obtain ⟨b0, g0, rfl⟩ := vSlice.form k0
  have H0 := Lib.hid h0
  have K0 := Lib.hid k0
  obtain ⟨a1, c1, rfl⟩ := vSlice.form h1
  obtain ⟨b1, g1, rfl⟩ := vSlice.form k1
  have H1 := Lib.hid h1
  have K1 := Lib.hid k1
  obtain ⟨a2, c2, rfl⟩ := vSlice.form h2
  obtain ⟨b2, g2, rfl⟩ := vSlice.form k2
  have H2 := Lib.hid h2
  have K2 := Lib.hid k2
  obtain ⟨a3, c3, rfl⟩ := vSlice.form h3
  obtain ⟨b3, g3, rfl⟩ := vSlice.form k3
  have H3 := Lib.hid h3
  have K3 := Lib.hid k3
  obtain ⟨a4, c4, rfl⟩ := vSlice.form h4
  obtain ⟨b4, g4, rfl⟩ := vSlice.form k4
  have H4 := Lib.hid h4
  have K4 := Lib.hid k4
  clear h0 h1 h2 h3 h4 k0 k1 k2 k3 k4
  have hq : sameTx x y = sameTx x y := rfl
  conv at hq => rhs; unfold sameTx
  by_cases f0 : x.id = y.id
  case neg =>
    have q0 : (x.id == y.id) = false := by simp [f0]
    rw [q0, Bool.false_and] at hq
    rw [hq]
    clear hq
    go_enter Try.func41, Try.ntmps41
    go_wp2
    go_ret
    exact ⟨rfl, (by repeat (first | with_reducible exact Below.refl _ _ | with_reducible apply Below.ofExt | with_reducible apply Below.ofAlloc | with_reducible apply Below.drew | with_reducible apply Below.ofDrewN | with_reducible assumption | (with_reducible refine Below.setCell ?_ (by first | exact Nat.le_refl _ | (simp [go_sem]; done) | (simp [go_sem]; omega)) _)))⟩
  have q0 : (x.id == y.id) = true := by simp [f0]
  rw [q0, Bool.true_and] at hq
  by_cases f1 : x.age = y.age
  case neg =>
    have q1 : (x.age == y.age) = false := by simp [f1]
    rw [q1, Bool.false_and] at hq
    rw [hq]
    clear hq
    go_enter Try.func41, Try.ntmps41
    go_wp2
    go_ret
    exact ⟨rfl, (by repeat (first | with_reducible exact Below.refl _ _ | with_reducible apply Below.ofExt | with_reducible apply Below.ofAlloc | with_reducible apply Below.drew | with_reducible apply Below.ofDrewN | with_reducible assumption | (with_reducible refine Below.setCell ?_ (by first | exact Nat.le_refl _ | (simp [go_sem]; done) | (simp [go_sem]; omega)) _)))⟩
  have q1 : (x.age == y.age) = true := by simp [f1]
  rw [q1, Bool.true_and] at hq
  by_cases f2 : x.proc = y.proc
  case neg =>
    have q2 : (x.proc == y.proc) = false := by simp [f2]
    rw [q2, Bool.false_and] at hq
    rw [hq]
    clear hq
    go_enter Try.func41, Try.ntmps41
    go_wp2
    go_ret
    exact ⟨rfl, (by repeat (first | with_reducible exact Below.refl _ _ | with_reducible apply Below.ofExt | with_reducible apply Below.ofAlloc | with_reducible apply Below.drew | with_reducible apply Below.ofDrewN | with_reducible assumption | (with_reducible refine Below.setCell ?_ (by first | exact Nat.le_refl _ | (simp [go_sem]; done) | (simp [go_sem]; omega)) _)))⟩
  have q2 : (x.proc == y.proc) = true := by simp [f2]
  rw [q2, Bool.true_and] at hq
  by_cases f3 : x.began = y.began
  case neg =>
    have q3 : (x.began == y.began) = false := by simp [f3]
    rw [q3, Bool.false_and] at hq
    rw [hq]
    clear hq
    go_enter Try.func41, Try.ntmps41
    go_wp2
    go_ret
    exact ⟨rfl, (by repeat (first | with_reducible exact Below.refl _ _ | with_reducible apply Below.ofExt | with_reducible apply Below.ofAlloc | with_reducible apply Below.drew | with_reducible apply Below.ofDrewN | with_reducible assumption | (with_reducible refine Below.setCell ?_ (by first | exact Nat.le_refl _ | (simp [go_sem]; done) | (simp [go_sem]; omega)) _)))⟩
  have q3 : (x.began == y.began) = true := by simp [f3]
  rw [q3, Bool.true_and] at hq
  by_cases f4 : x.state = y.state
  case neg =>
    have q4 : (x.state == y.state) = false := by simp [f4]
    rw [q4, Bool.false_and] at hq
    rw [hq]
    clear hq
    go_enter Try.func41, Try.ntmps41
    go_wp2
    go_ret
    exact ⟨rfl, (by repeat (first | with_reducible exact Below.refl _ _ | with_reducible apply Below.ofExt | with_reducible apply Below.ofAlloc | with_reducible apply Below.drew | with_reducible apply Below.ofDrewN | with_reducible assumption | (with_reducible refine Below.setCell ?_ (by first | exact Nat.le_refl _ | (simp [go_sem]; done) | (simp [go_sem]; omega)) _)))⟩
  have q4 : (x.state == y.state) = true := by simp [f4]
  rw [q4, Bool.true_and] at hq
  cases hc0 : sameL eqCall x.calls y.calls with
  | false =>
    rw [hc0, Bool.false_and] at hq
    rw [hq]
    have HC0 := Lib.hid hc0
    clear hq hc0
    go_enter Try.func41, Try.ntmps41
    go_wp2_with fail
    (go_at_call 91; refine (calls_Equal _ x.calls _ y.calls _ (by (try simp only [← Array.append_assoc]); (repeat (first | with_reducible exact H0.out | with_reducible apply View.rdMerge | with_reducible apply View.rdExt | with_reducible apply View.rdAlloc | with_reducible apply View.rdDrew | with_reducible apply View.rdDrewN)); all_goals exact (0 : Nat)) (by (try simp only [← Array.append_assoc]); (repeat (first | with_reducible exact K0.out | with_reducible apply View.rdMerge | with_reducible apply View.rdExt | with_reducible apply View.rdAlloc | with_reducible apply View.rdDrew | with_reducible apply View.rdDrewN)); all_goals exact (0 : Nat))).mono ?_; rintro e w' ⟨rfl, hb⟩; obtain ⟨X, rfl⟩ := hb.ext; clear hb)
    rw [HC0.out]
    go_wp2
    go_ret
    exact ⟨rfl, (by repeat (first | with_reducible exact Below.refl _ _ | with_reducible apply Below.ofExt | with_reducible apply Below.ofAlloc | with_reducible apply Below.drew | with_reducible apply Below.ofDrewN | with_reducible assumption | (with_reducible refine Below.setCell ?_ (by first | exact Nat.le_refl _ | (simp [go_sem]; done) | (simp [go_sem]; omega)) _)))⟩
  | true =>
  rw [hc0, Bool.true_and] at hq
  have HC0 := Lib.hid hc0
  clear hc0
  cases hc1 : sameL eqAnswer x.answers y.answers with
  | false =>
    rw [hc1, Bool.false_and] at hq
    rw [hq]
    have HC1 := Lib.hid hc1
    clear hq hc1
    go_enter Try.func41, Try.ntmps41
    go_wp2_with fail
    (go_at_call 91; refine (calls_Equal _ x.calls _ y.calls _ (by (try simp only [← Array.append_assoc]); (repeat (first | with_reducible exact H0.out | with_reducible apply View.rdMerge | with_reducible apply View.rdExt | with_reducible apply View.rdAlloc | with_reducible apply View.rdDrew | with_reducible apply View.rdDrewN)); all_goals exact (0 : Nat)) (by (try simp only [← Array.append_assoc]); (repeat (first | with_reducible exact K0.out | with_reducible apply View.rdMerge | with_reducible apply View.rdExt | with_reducible apply View.rdAlloc | with_reducible apply View.rdDrew | with_reducible apply View.rdDrewN)); all_goals exact (0 : Nat))).mono ?_; rintro e w' ⟨rfl, hb⟩; obtain ⟨X, rfl⟩ := hb.ext; clear hb)
    rw [HC0.out]
    go_wp2_with fail
    (go_at_call 92; refine (impl_SameAnswers _ x.answers _ y.answers _ (by (try simp only [← Array.append_assoc]); (repeat (first | with_reducible exact H1.out | with_reducible apply View.rdMerge | with_reducible apply View.rdExt | with_reducible apply View.rdAlloc | with_reducible apply View.rdDrew | with_reducible apply View.rdDrewN)); all_goals exact (0 : Nat)) (by (try simp only [← Array.append_assoc]); (repeat (first | with_reducible exact K1.out | with_reducible apply View.rdMerge | with_reducible apply View.rdExt | with_reducible apply View.rdAlloc | with_reducible apply View.rdDrew | with_reducible apply View.rdDrewN)); all_goals exact (0 : Nat))).mono ?_; rintro e w' ⟨rfl, hb⟩; obtain ⟨X, rfl⟩ := hb.ext; clear hb)
    rw [HC1.out]
    go_wp2
    go_ret
    exact ⟨rfl, (by repeat (first | with_reducible exact Below.refl _ _ | with_reducible apply Below.ofExt | with_reducible apply Below.ofAlloc | with_reducible apply Below.drew | with_reducible apply Below.ofDrewN | with_reducible assumption | (with_reducible refine Below.setCell ?_ (by first | exact Nat.le_refl _ | (simp [go_sem]; done) | (simp [go_sem]; omega)) _)))⟩
  | true =>
  rw [hc1, Bool.true_and] at hq
  have HC1 := Lib.hid hc1
  clear hc1
  cases hc2 : sameTouch x.touch y.touch with
  | false =>
    rw [hc2, Bool.false_and] at hq
    rw [hq]
    have HC2 := Lib.hid hc2
    clear hq hc2
    go_enter Try.func41, Try.ntmps41
    go_wp2_with fail
    (go_at_call 91; refine (calls_Equal _ x.calls _ y.calls _ (by (try simp only [← Array.append_assoc]); (repeat (first | with_reducible exact H0.out | with_reducible apply View.rdMerge | with_reducible apply View.rdExt | with_reducible apply View.rdAlloc | with_reducible apply View.rdDrew | with_reducible apply View.rdDrewN)); all_goals exact (0 : Nat)) (by (try simp only [← Array.append_assoc]); (repeat (first | with_reducible exact K0.out | with_reducible apply View.rdMerge | with_reducible apply View.rdExt | with_reducible apply View.rdAlloc | with_reducible apply View.rdDrew | with_reducible apply View.rdDrewN)); all_goals exact (0 : Nat))).mono ?_; rintro e w' ⟨rfl, hb⟩; obtain ⟨X, rfl⟩ := hb.ext; clear hb)
    rw [HC0.out]
    go_wp2_with fail
    (go_at_call 92; refine (impl_SameAnswers _ x.answers _ y.answers _ (by (try simp only [← Array.append_assoc]); (repeat (first | with_reducible exact H1.out | with_reducible apply View.rdMerge | with_reducible apply View.rdExt | with_reducible apply View.rdAlloc | with_reducible apply View.rdDrew | with_reducible apply View.rdDrewN)); all_goals exact (0 : Nat)) (by (try simp only [← Array.append_assoc]); (repeat (first | with_reducible exact K1.out | with_reducible apply View.rdMerge | with_reducible apply View.rdExt | with_reducible apply View.rdAlloc | with_reducible apply View.rdDrew | with_reducible apply View.rdDrewN)); all_goals exact (0 : Nat))).mono ?_; rintro e w' ⟨rfl, hb⟩; obtain ⟨X, rfl⟩ := hb.ext; clear hb)
    rw [HC1.out]
    go_wp2_with fail
    (go_at_call 93; refine (impl_SameTouch _ x.touch _ y.touch _ ⟨_, _, rfl, (by (try simp only [← Array.append_assoc]); (repeat (first | with_reducible exact H2.out | with_reducible apply View.rdMerge | with_reducible apply View.rdExt | with_reducible apply View.rdAlloc | with_reducible apply View.rdDrew | with_reducible apply View.rdDrewN)); all_goals exact (0 : Nat)), (by (try simp only [← Array.append_assoc]); (repeat (first | with_reducible exact H3.out | with_reducible apply View.rdMerge | with_reducible apply View.rdExt | with_reducible apply View.rdAlloc | with_reducible apply View.rdDrew | with_reducible apply View.rdDrewN)); all_goals exact (0 : Nat))⟩ ⟨_, _, rfl, (by (try simp only [← Array.append_assoc]); (repeat (first | with_reducible exact K2.out | with_reducible apply View.rdMerge | with_reducible apply View.rdExt | with_reducible apply View.rdAlloc | with_reducible apply View.rdDrew | with_reducible apply View.rdDrewN)); all_goals exact (0 : Nat)), (by (try simp only [← Array.append_assoc]); (repeat (first | with_reducible exact K3.out | with_reducible apply View.rdMerge | with_reducible apply View.rdExt | with_reducible apply View.rdAlloc | with_reducible apply View.rdDrew | with_reducible apply View.rdDrewN)); all_goals exact (0 : Nat))⟩).mono ?_; rintro e w' ⟨rfl, hb⟩; obtain ⟨X, rfl⟩ := hb.ext; clear hb)
    rw [HC2.out]
    go_wp2
    go_ret
    exact ⟨rfl, (by repeat (first | with_reducible exact Below.refl _ _ | with_reducible apply Below.ofExt | with_reducible apply Below.ofAlloc | with_reducible apply Below.drew | with_reducible apply Below.ofDrewN | with_reducible assumption | (with_reducible refine Below.setCell ?_ (by first | exact Nat.le_refl _ | (simp [go_sem]; done) | (simp [go_sem]; omega)) _)))⟩
  | true =>
  rw [hc2, Bool.true_and] at hq
  have HC2 := Lib.hid hc2
  clear hc2
  rw [hq]
  clear hq
  go_enter Try.func41, Try.ntmps41
  go_wp2_with fail
  (go_at_call 91; refine (calls_Equal _ x.calls _ y.calls _ (by (try simp only [← Array.append_assoc]); (repeat (first | with_reducible exact H0.out | with_reducible apply View.rdMerge | with_reducible apply View.rdExt | with_reducible apply View.rdAlloc | with_reducible apply View.rdDrew | with_reducible apply View.rdDrewN)); all_goals exact (0 : Nat)) (by (try simp only [← Array.append_assoc]); (repeat (first | with_reducible exact K0.out | with_reducible apply View.rdMerge | with_reducible apply View.rdExt | with_reducible apply View.rdAlloc | with_reducible apply View.rdDrew | with_reducible apply View.rdDrewN)); all_goals exact (0 : Nat))).mono ?_; rintro e w' ⟨rfl, hb⟩; obtain ⟨X, rfl⟩ := hb.ext; clear hb)
  rw [HC0.out]
  go_wp2_with fail
  (go_at_call 92; refine (impl_SameAnswers _ x.answers _ y.answers _ (by (try simp only [← Array.append_assoc]); (repeat (first | with_reducible exact H1.out | with_reducible apply View.rdMerge | with_reducible apply View.rdExt | with_reducible apply View.rdAlloc | with_reducible apply View.rdDrew | with_reducible apply View.rdDrewN)); all_goals exact (0 : Nat)) (by (try simp only [← Array.append_assoc]); (repeat (first | with_reducible exact K1.out | with_reducible apply View.rdMerge | with_reducible apply View.rdExt | with_reducible apply View.rdAlloc | with_reducible apply View.rdDrew | with_reducible apply View.rdDrewN)); all_goals exact (0 : Nat))).mono ?_; rintro e w' ⟨rfl, hb⟩; obtain ⟨X, rfl⟩ := hb.ext; clear hb)
  rw [HC1.out]
  go_wp2_with fail
  (go_at_call 93; refine (impl_SameTouch _ x.touch _ y.touch _ ⟨_, _, rfl, (by (try simp only [← Array.append_assoc]); (repeat (first | with_reducible exact H2.out | with_reducible apply View.rdMerge | with_reducible apply View.rdExt | with_reducible apply View.rdAlloc | with_reducible apply View.rdDrew | with_reducible apply View.rdDrewN)); all_goals exact (0 : Nat)), (by (try simp only [← Array.append_assoc]); (repeat (first | with_reducible exact H3.out | with_reducible apply View.rdMerge | with_reducible apply View.rdExt | with_reducible apply View.rdAlloc | with_reducible apply View.rdDrew | with_reducible apply View.rdDrewN)); all_goals exact (0 : Nat))⟩ ⟨_, _, rfl, (by (try simp only [← Array.append_assoc]); (repeat (first | with_reducible exact K2.out | with_reducible apply View.rdMerge | with_reducible apply View.rdExt | with_reducible apply View.rdAlloc | with_reducible apply View.rdDrew | with_reducible apply View.rdDrewN)); all_goals exact (0 : Nat)), (by (try simp only [← Array.append_assoc]); (repeat (first | with_reducible exact K3.out | with_reducible apply View.rdMerge | with_reducible apply View.rdExt | with_reducible apply View.rdAlloc | with_reducible apply View.rdDrew | with_reducible apply View.rdDrewN)); all_goals exact (0 : Nat))⟩).mono ?_; rintro e w' ⟨rfl, hb⟩; obtain ⟨X, rfl⟩ := hb.ext; clear hb)
  rw [HC2.out]
  go_wp2_with fail
  (go_at_call 94; refine (ints_Equal _ x.marks _ y.marks _ (by (try simp only [← Array.append_assoc]); (repeat (first | with_reducible exact H4.out | with_reducible apply View.rdMerge | with_reducible apply View.rdExt | with_reducible apply View.rdAlloc | with_reducible apply View.rdDrew | with_reducible apply View.rdDrewN)); all_goals exact (0 : Nat)) (by (try simp only [← Array.append_assoc]); (repeat (first | with_reducible exact K4.out | with_reducible apply View.rdMerge | with_reducible apply View.rdExt | with_reducible apply View.rdAlloc | with_reducible apply View.rdDrew | with_reducible apply View.rdDrewN)); all_goals exact (0 : Nat))).mono ?_; rintro e w' ⟨rfl, hb⟩; obtain ⟨X, rfl⟩ := hb.ext; clear hb)
  go_wp2
  go_ret
  exact ⟨rfl, (by repeat (first | with_reducible exact Below.refl _ _ | with_reducible apply Below.ofExt | with_reducible apply Below.ofAlloc | with_reducible apply Below.drew | with_reducible apply Below.ofDrewN | with_reducible assumption | (with_reducible refine Below.setCell ?_ (by first | exact Nat.le_refl _ | (simp [go_sem]; done) | (simp [go_sem]; omega)) _)))⟩
end Go.Proofs.Ytefenfglkfdoaaa
