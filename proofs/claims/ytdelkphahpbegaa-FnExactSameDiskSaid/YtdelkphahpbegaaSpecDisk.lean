/- Equality of disks, the reference: the program's and the reference's. Each condition stands in its theorem. -/
import Derived.Test.YtdelkphahpbegaaSameDisk
set_option linter.unusedVariables false
set_option linter.unusedSimpArgs false
namespace Go.Proofs.Ytdelkphahpbegaa
open Go.ChangeShapes Go.WideShapes Go.ChangeAt Go.RowKit

set_option maxRecDepth 100000 in
set_option maxHeartbeats 2000000 in
theorem spec_SameDisk (cs : List Value) (x : DiskD) (cs' : List Value) (y : DiskD) (w : World) (hs : vDisk.rd w cs x) (hs' : vDisk.rd w cs' y) :
    Calls Try.prog 20 #[.agg cs.toArray, .agg cs'.toArray] w fun e w' => e = .returned (.bool (sameDisk x y)) ∧ Below w.heap.size w w' := by
  obtain ⟨xl, xt, xu⟩ := x
  obtain ⟨yl, yt, yu⟩ := y
  obtain ⟨s0, rfl, h0, _⟩ := hs
  obtain ⟨t0, rfl, k0, _⟩ := hs'
  obtain ⟨ao, cap, rfl, hc1, hc2, hnil, hcell⟩ := vSlice.shape h0
  obtain ⟨ao1, cap1, rfl, hc1', hc2', hnil', hcell'⟩ := vSlice.shape k0
  have HX := Lib.hid hcell
  have HX' := Lib.hid hcell'
  clear hcell h0 hnil hcell' k0 hnil'
  unfold maxLen at hc2 hc2'
  have hq : sameDisk ⟨xl, xt, xu⟩ ⟨yl, yt, yu⟩ = sameDisk ⟨xl, xt, xu⟩ ⟨yl, yt, yu⟩ := rfl
  conv at hq => rhs; unfold sameDisk eqJour
  simp only at hq
  by_cases f0 : xt = yt
  case neg =>
    have g0 : (xt.toList == yt.toList) = false := by rw [beq_str]; simp [f0]
    rw [g0, Bool.false_and, Bool.false_and] at hq
    rw [hq]
    clear hq
    go_enter Try.func20, Try.ntmps20
    go_wp2
    go_ret
    exact ⟨rfl, (by repeat (first | with_reducible exact Below.refl _ _ | with_reducible apply Below.ofExt | with_reducible apply Below.ofAlloc | with_reducible apply Below.drew | with_reducible apply Below.ofDrewN | with_reducible assumption | (with_reducible refine Below.setCell ?_ (by first | exact Nat.le_refl _ | (simp [go_sem]; done) | (simp [go_sem]; omega)) _)))⟩
  subst f0
  have g0 : (xt.toList == xt.toList) = true := by simp
  rw [g0, Bool.true_and] at hq
  by_cases f1 : xu = yu
  case neg =>
    have g1 : (xu == yu) = false := by simp [f1]
    rw [g1, Bool.false_and] at hq
    rw [hq]
    clear hq
    go_enter Try.func20, Try.ntmps20
    go_wp2
    go_ret
    exact ⟨rfl, (by repeat (first | with_reducible exact Below.refl _ _ | with_reducible apply Below.ofExt | with_reducible apply Below.ofAlloc | with_reducible apply Below.drew | with_reducible apply Below.ofDrewN | with_reducible assumption | (with_reducible refine Below.setCell ?_ (by first | exact Nat.le_refl _ | (simp [go_sem]; done) | (simp [go_sem]; omega)) _)))⟩
  subst f1
  have g1 : (xu == xu) = true := by simp
  rw [g1, Bool.true_and] at hq
  have HQQ := Lib.hid hq
  clear hq
  by_cases hlen : xl.length = yl.length
  case neg =>
    rw [HQQ.out, sameL_len hlen]
    have hne : ¬ (xl.length : Int) = yl.length := by omega
    have hnb : ((xl.length : Int) == yl.length) = false := by simp; omega
    go_enter Try.func20, Try.ntmps20
    go_wp2
    go_ret
    exact ⟨rfl, (by repeat (first | with_reducible exact Below.refl _ _ | with_reducible apply Below.ofExt | with_reducible apply Below.ofAlloc | with_reducible apply Below.drew | with_reducible apply Below.ofDrewN | with_reducible assumption | (with_reducible refine Below.setCell ?_ (by first | exact Nat.le_refl _ | (simp [go_sem]; done) | (simp [go_sem]; omega)) _)))⟩
  have HL := Lib.hid hlen
  have hle : yl.length ≤ xl.length := by omega
  have hlb : ((xl.length : Int) == yl.length) = true := by simp; omega
  have hlc : ((xl.length : Int) != yl.length) = false := by simp; omega
  clear hlen
  go_enter Try.func20, Try.ntmps20
  go_wp2
  go_loopw [5, 6, 7] (fun k _ _ wr => ∃ (n : Nat), k = .int .i64 n ∧ n ≤ xl.length ∧ Below ((w.alloc (.cells #[.slice ao xl.length cap, .string xt, .int .i64 xu] 32)).alloc (.cells #[.slice ao1 yl.length cap1, .string xt, .int .i64 xu] 32)).heap.size ((w.alloc (.cells #[.slice ao xl.length cap, .string xt, .int .i64 xu] 32)).alloc (.cells #[.slice ao1 yl.length cap1, .string xt, .int .i64 xu] 32)) wr ∧ ((xl.zip yl).take n).all (fun z => eqSlot z.1 z.2) = true) (fun k _ _ _ => xl.length - (intOf k).toNat)
  case atStart => exact ⟨0, rfl, by omega, Below.refl _ _, rfl⟩
  case round =>
    obtain ⟨n, rfl, hn, hbel, hall⟩ := hrel
    obtain ⟨X, rfl⟩ := hbel.ext
    have HA := Lib.hid hall
    clear hall
    by_cases hlt : (n : Int) < xl.length
    case pos =>
      have hk : n < xl.length := by omega
      have hk' : n < yl.length := by rw [← HL.out]; exact hk
      obtain ⟨b, off, csx, rfl, hblx, hrdx, hcellx⟩ := HX.out n hk
      obtain ⟨b', off', csy, rfl, hbly, hrdy, hcelly⟩ := HX'.out n hk'
      have hst := zip_step eqSlot xl yl n hk hk'
      generalize xl[n] = p at hrdx hst
      generalize yl[n] = q at hrdy hst
      have HDX := Lib.hid hrdx
      have HDY := Lib.hid hrdy
      obtain ⟨xa, xc, rfl⟩ := vSlot_shape hrdx
      obtain ⟨ya, yc, rfl⟩ := vSlot_shape hrdy
      clear hrdx hrdy
      have HST := Lib.hid hst
      clear hst
      have q1 : b < w.heap.size + 1 + 1 + X.bs.size := by omega
      have q2 : b' < w.heap.size + 1 + 1 + X.bs.size := by omega
      have q3 : ¬ b' = w.heap.size + 1 + 1 + X.bs.size := by omega
      have q4 : b < w.heap.size + 1 := by omega
      have q5 : b < w.heap.size + 1 + 1 := by omega
      have q6 : b' < w.heap.size + 1 := by omega
      have q7 : b' < w.heap.size + 1 + 1 := by omega
      have c0 := hcellx 0 _ rfl
      have c1 := hcellx 1 _ rfl
      have c2 := hcellx 2 _ rfl
      have e0 := hcelly 0 _ rfl
      have e1 := hcelly 1 _ rfl
      have e2 := hcelly 2 _ rfl
      clear hcellx hcelly
      simp only [show vSlot.k = 3 from rfl, Nat.add_zero] at c0 e0 c1 e1 c2 e2
      have hq : eqSlot p q = eqSlot p q := rfl
      conv at hq => rhs; unfold eqSlot
      by_cases f2 : p.seq = q.seq
      case neg =>
        have g2 : (p.seq == q.seq) = false := by simp [f2]
        rw [g2, Bool.false_and] at hq
        have HQ := Lib.hid hq
        clear hq
        go_wp2
        go_ret
        exact ⟨by rw [HQQ.out, sameL_all HL.out, all_take_false _ (xl.zip yl) (n + 1) (by rw [HST.out, HQ.out, Bool.and_false])]; rfl, (by repeat (first | with_reducible exact Below.refl _ _ | with_reducible apply Below.ofExt | with_reducible apply Below.ofAlloc | with_reducible apply Below.drew | with_reducible apply Below.ofDrewN | with_reducible assumption | (with_reducible refine Below.setCell ?_ (by first | exact Nat.le_refl _ | (simp [go_sem]; done) | (simp [go_sem]; omega)) _)))⟩
      have g2 : (p.seq == q.seq) = true := by simp [f2]
      rw [g2, Bool.true_and] at hq
      by_cases f3 : p.whole = q.whole
      case neg =>
        have g3 : (p.whole == q.whole) = false := by simp [f3]
        rw [g3, Bool.false_and] at hq
        have HQ := Lib.hid hq
        clear hq
        go_wp2
        go_ret
        exact ⟨by rw [HQQ.out, sameL_all HL.out, all_take_false _ (xl.zip yl) (n + 1) (by rw [HST.out, HQ.out, Bool.and_false])]; rfl, (by repeat (first | with_reducible exact Below.refl _ _ | with_reducible apply Below.ofExt | with_reducible apply Below.ofAlloc | with_reducible apply Below.drew | with_reducible apply Below.ofDrewN | with_reducible assumption | (with_reducible refine Below.setCell ?_ (by first | exact Nat.le_refl _ | (simp [go_sem]; done) | (simp [go_sem]; omega)) _)))⟩
      have g3 : (p.whole == q.whole) = true := by simp [f3]
      rw [g3, Bool.true_and] at hq
      obtain ⟨s1, hs1, hp0⟩ := HDX.out
      obtain ⟨s2, hs2, hp1⟩ := HDY.out
      simp only [List.cons.injEq, and_true, true_and] at hs1 hs2
      subst hs1 hs2
      have HP0 := Lib.hid hp0
      have HP1 := Lib.hid hp1
      clear hp0 hp1
      cases hc : sameL eqCell p.cells q.cells with
      | false =>
        rw [hc] at hq
        have HQ := Lib.hid hq
        have HC := Lib.hid hc
        clear hq hc
        go_wp2_with fail
        (go_at_call 37; refine (spec_SameStore _ p.cells _ q.cells _ (by (try simp only [← Array.append_assoc]); (repeat (first | with_reducible exact HP0.out | with_reducible apply View.rdMerge | with_reducible apply View.rdExt | with_reducible apply View.rdAlloc | with_reducible apply View.rdDrew | with_reducible apply View.rdDrewN)); all_goals exact (0 : Nat)) (by (try simp only [← Array.append_assoc]); (repeat (first | with_reducible exact HP1.out | with_reducible apply View.rdMerge | with_reducible apply View.rdExt | with_reducible apply View.rdAlloc | with_reducible apply View.rdDrew | with_reducible apply View.rdDrewN)); all_goals exact (0 : Nat))).mono ?_; rintro e w' ⟨rfl, hb⟩; obtain ⟨X, rfl⟩ := hb.ext; clear hb)
        rw [HC.out]
        go_wp2
        go_ret
        exact ⟨by rw [HQQ.out, sameL_all HL.out, all_take_false _ (xl.zip yl) (n + 1) (by rw [HST.out, HQ.out, Bool.and_false])]; rfl, (by repeat (first | with_reducible exact Below.refl _ _ | with_reducible apply Below.ofExt | with_reducible apply Below.ofAlloc | with_reducible apply Below.drew | with_reducible apply Below.ofDrewN | with_reducible assumption | (with_reducible refine Below.setCell ?_ (by first | exact Nat.le_refl _ | (simp [go_sem]; done) | (simp [go_sem]; omega)) _)))⟩
      | true =>
        rw [hc] at hq
        have HQ := Lib.hid hq
        have HC := Lib.hid hc
        clear hq hc
        go_wp2_with fail
        (go_at_call 37; refine (spec_SameStore _ p.cells _ q.cells _ (by (try simp only [← Array.append_assoc]); (repeat (first | with_reducible exact HP0.out | with_reducible apply View.rdMerge | with_reducible apply View.rdExt | with_reducible apply View.rdAlloc | with_reducible apply View.rdDrew | with_reducible apply View.rdDrewN)); all_goals exact (0 : Nat)) (by (try simp only [← Array.append_assoc]); (repeat (first | with_reducible exact HP1.out | with_reducible apply View.rdMerge | with_reducible apply View.rdExt | with_reducible apply View.rdAlloc | with_reducible apply View.rdDrew | with_reducible apply View.rdDrewN)); all_goals exact (0 : Nat))).mono ?_; rintro e w' ⟨rfl, hb⟩; obtain ⟨X, rfl⟩ := hb.ext; clear hb)
        rw [HC.out]
        go_wp2
        go_roundw
        case rel => exact ⟨n + 1, by go_num, by omega, (by repeat (first | with_reducible exact Below.refl _ _ | with_reducible apply Below.ofExt | with_reducible apply Below.ofAlloc | with_reducible apply Below.drew | with_reducible apply Below.ofDrewN | with_reducible assumption | (with_reducible refine Below.setCell ?_ (by first | exact Nat.le_refl _ | (simp [go_sem]; done) | (simp [go_sem]; omega)) _))), by rw [HST.out, HA.out, HQ.out]; rfl⟩
        case measure => simp [intOf]; omega
    case neg =>
      go_wp2
      go_ret
      have e : n = xl.length := by omega
      subst e
      have ha := HA.out
      rw [List.take_of_length_le (by rw [List.length_zip]; omega)] at ha
      exact ⟨by rw [HQQ.out, sameL_all HL.out, ha]; rfl, (by repeat (first | with_reducible exact Below.refl _ _ | with_reducible apply Below.ofExt | with_reducible apply Below.ofAlloc | with_reducible apply Below.drew | with_reducible apply Below.ofDrewN | with_reducible assumption | (with_reducible refine Below.setCell ?_ (by first | exact Nat.le_refl _ | (simp [go_sem]; done) | (simp [go_sem]; omega)) _)))⟩
end Go.Proofs.Ytdelkphahpbegaa
