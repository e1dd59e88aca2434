/- Whether the marks of a transaction are in order, the reference: the program's and the reference's. Each condition stands in its theorem. -/
import Derived.Test.YtefenfglkfdoaaaMarksC
set_option linter.unusedVariables false
set_option linter.unusedSimpArgs false
namespace Go.Proofs.Ytefenfglkfdoaaa
open Go.ChangeShapes Go.WideShapes Go.ChangeAt Go.RowKit

set_option maxRecDepth 100000 in
set_option maxHeartbeats 2000000 in
theorem spec_MarksOk (cs : List Value) (d : TxD) (w : World) (hs : vTx.rd w cs d) :
    Calls Try.prog 29 #[.agg cs.toArray] w fun e w' => e = .returned (.bool (marksOk d)) ∧ Below w.heap.size w w' := by
  obtain ⟨s0, s1, s2, s3, s4, rfl, h0, h1, h2, h3, h4⟩ := hs
  obtain ⟨a0, c0, rfl⟩ := vSlice.form h0
  obtain ⟨a1, c1, rfl⟩ := vSlice.form h1
  obtain ⟨a2, c2, rfl⟩ := vSlice.form h2
  obtain ⟨a3, c3, rfl⟩ := vSlice.form h3
  obtain ⟨a4, c4, rfl, hc1, hc2, hnil, hcell, _⟩ := vInt_shape h4
  have HX := Lib.hid hcell
  clear hcell hnil h0 h1 h2 h3 h4
  unfold maxLen at hc2
  go_enter Try.func29, Try.ntmps29
  go_wp2
  go_loopw [3] (fun k wr => ∃ (n : Nat), k = .int .i64 n ∧ n ≤ d.marks.length ∧ Below (w.alloc (.cells #[.int .i64 d.id, .int .i64 d.age, .int .i64 d.proc, .int .i64 d.began, .slice a0 d.calls.length c0, .slice a1 d.answers.length c1, .slice a2 d.touch.reads.length c2, .slice a3 d.touch.writes.length c3, .slice a4 d.marks.length c4, .int .i64 d.state] 29)).heap.size (w.alloc (.cells #[.int .i64 d.id, .int .i64 d.age, .int .i64 d.proc, .int .i64 d.began, .slice a0 d.calls.length c0, .slice a1 d.answers.length c1, .slice a2 d.touch.reads.length c2, .slice a3 d.touch.writes.length c3, .slice a4 d.marks.length c4, .int .i64 d.state] 29)) wr ∧ mUp d.marks d.calls.length n = true) (fun k _ => d.marks.length - (intOf k).toNat)
  case atStart => exact ⟨0, rfl, by omega, Below.refl _ _, rfl⟩
  case round =>
    obtain ⟨n, rfl, hn, hbel, hall⟩ := hrel
    obtain ⟨X, rfl⟩ := hbel.ext
    have HA := Lib.hid hall
    clear hall
    by_cases hlt : (n : Int) < d.marks.length
    case pos =>
      have hk : n < d.marks.length := by omega
      obtain ⟨b, off, rfl, hbl, hcell⟩ := HX.out (by intro e; simp [e] at hk)
      have q1 : b < w.heap.size + 1 := by omega
      have y0 := hcell n hk
      have hst := mUp_step d.marks d.calls.length n hk
      cases hi : inB d.marks[n] 0 d.calls.length with
      | false =>
        rw [hi, Bool.false_and, Bool.and_false] at hst
        have HS := Lib.hid hst
        clear hst hcell
        generalize d.marks[n] = x at y0 hi
        have CI : Hid (∀ W : World, Calls Try.prog 80 #[.int .i64 x, .int .i64 0, .int .i64 (d.calls.length : Int)] W fun e w' => e = .returned (.bool false) ∧ w' = W) := fun W => (spec_l01In _ _ _ W).mono fun e w' h => ⟨by rw [h.1, hi], h.2⟩
        clear hi
        go_wp2
        go_quiet ((go_at_call 80; (first | exact Calls.quiet_of_same (CI.out _) | exact quietE (CI.out _))))
        go_wp2
        go_ret
        exact ⟨by rw [marksOk_no d (n + 1) (by omega) HS.out]; rfl, (by repeat (first | with_reducible exact Below.refl _ _ | with_reducible apply Below.ofExt | with_reducible apply Below.ofAlloc | with_reducible apply Below.drew | with_reducible apply Below.ofDrewN | with_reducible assumption | (with_reducible refine Below.setCell ?_ (by first | exact Nat.le_refl _ | (simp [go_sem]; done) | (simp [go_sem]; omega)) _)))⟩
      | true =>
        rw [hi, Bool.true_and, HA.out, Bool.true_and] at hst
        by_cases hn0 : 0 < (n : Int)
        case neg =>
          have hp : pairOk d.marks n = true := by rw [show n = 0 by omega]; rfl
          rw [hp] at hst
          have HS := Lib.hid hst
          clear hst hcell hp
          generalize d.marks[n] = x at y0 hi
          have CI : Hid (∀ W : World, Calls Try.prog 80 #[.int .i64 x, .int .i64 0, .int .i64 (d.calls.length : Int)] W fun e w' => e = .returned (.bool true) ∧ w' = W) := fun W => (spec_l01In _ _ _ W).mono fun e w' h => ⟨by rw [h.1, hi], h.2⟩
          have hd1 : decide (0 < (n : Int)) = false := decide_eq_false hn0
          have hd2 : decide (0 < n) = false := decide_eq_false (by omega)
          clear hi
          go_wp2
          go_quiet ((go_at_call 80; (first | exact Calls.quiet_of_same (CI.out _) | exact quietE (CI.out _))))
          go_wp2
          go_roundw
          case rel => exact ⟨n + 1, by go_num, by omega, (by repeat (first | with_reducible exact Below.refl _ _ | with_reducible apply Below.ofExt | with_reducible apply Below.ofAlloc | with_reducible apply Below.drew | with_reducible apply Below.ofDrewN | with_reducible assumption | (with_reducible refine Below.setCell ?_ (by first | exact Nat.le_refl _ | (simp [go_sem]; done) | (simp [go_sem]; omega)) _))), HS.out⟩
          case measure => simp [intOf]; omega
        case pos =>
          obtain ⟨j, rfl⟩ : ∃ j, n = j + 1 := ⟨n - 1, by omega⟩
          have hj : j < d.marks.length := by omega
          have z0 := hcell j hj
          rw [pairOk_at d.marks j hk] at hst
          clear hcell
          generalize d.marks[j + 1] = x at y0 hi hst
          generalize d.marks[j] = p at z0 hst
          have CI : Hid (∀ W : World, Calls Try.prog 80 #[.int .i64 x, .int .i64 0, .int .i64 (d.calls.length : Int)] W fun e w' => e = .returned (.bool true) ∧ w' = W) := fun W => (spec_l01In _ _ _ W).mono fun e w' h => ⟨by rw [h.1, hi], h.2⟩
          clear hi
          by_cases hl : x < p
          case pos =>
            rw [decide_eq_false (by omega)] at hst
            have HS := Lib.hid hst
            clear hst
            go_wp2
            go_quiet ((go_at_call 80; (first | exact Calls.quiet_of_same (CI.out _) | exact quietE (CI.out _))))
            go_wp2
            go_ret
            exact ⟨by rw [marksOk_no d (j + 1 + 1) (by omega) HS.out]; rfl, (by repeat (first | with_reducible exact Below.refl _ _ | with_reducible apply Below.ofExt | with_reducible apply Below.ofAlloc | with_reducible apply Below.drew | with_reducible apply Below.ofDrewN | with_reducible assumption | (with_reducible refine Below.setCell ?_ (by first | exact Nat.le_refl _ | (simp [go_sem]; done) | (simp [go_sem]; omega)) _)))⟩
          case neg =>
            rw [decide_eq_true (by omega)] at hst
            have HS := Lib.hid hst
            clear hst
            have hd3 : decide (x < p) = false := decide_eq_false hl
            go_wp2
            go_quiet ((go_at_call 80; (first | exact Calls.quiet_of_same (CI.out _) | exact quietE (CI.out _))))
            go_wp2
            go_roundw
            case rel => exact ⟨j + 1 + 1, by go_num, by omega, (by repeat (first | with_reducible exact Below.refl _ _ | with_reducible apply Below.ofExt | with_reducible apply Below.ofAlloc | with_reducible apply Below.drew | with_reducible apply Below.ofDrewN | with_reducible assumption | (with_reducible refine Below.setCell ?_ (by first | exact Nat.le_refl _ | (simp [go_sem]; done) | (simp [go_sem]; omega)) _))), HS.out⟩
            case measure => simp [intOf]; omega
    case neg =>
      have e : n = d.marks.length := by omega
      have HF : Hid (marksOk d = decide ((d.marks.length : Int) ≤ 4)) := by
        show _ = _
        have := HA.out
        rw [e] at this
        rw [marksOk_up, this, Bool.and_true]
      go_wp2
      go_ret
      exact ⟨by rw [HF.out]; rfl, (by repeat (first | with_reducible exact Below.refl _ _ | with_reducible apply Below.ofExt | with_reducible apply Below.ofAlloc | with_reducible apply Below.drew | with_reducible apply Below.ofDrewN | with_reducible assumption | (with_reducible refine Below.setCell ?_ (by first | exact Nat.le_refl _ | (simp [go_sem]; done) | (simp [go_sem]; omega)) _)))⟩
end Go.Proofs.Ytefenfglkfdoaaa
