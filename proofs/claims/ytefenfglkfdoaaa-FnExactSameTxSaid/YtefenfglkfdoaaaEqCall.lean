/- Equality of slices of Call: the program's and the reference's. Each condition stands in its theorem. -/
import Derived.Test.YtefenfglkfdoaaaTCall
import Derived.Test.YtefenfglkfdoaaaPairs
set_option linter.unusedVariables false
set_option linter.unusedSimpArgs false
namespace Go.Proofs.Ytefenfglkfdoaaa
open Go.ChangeShapes Go.WideShapes Go.ChangeAt Go.RowKit


def eqCall (a b : CallD) : Bool := (a.kind == b.kind) && (a.name.toList == b.name.toList) && (a.to.toList == b.to.toList) && (a.a == b.a) && (a.b == b.b) && (a.text.toList == b.text.toList)

set_option maxRecDepth 100000 in
set_option maxHeartbeats 1000000 in
theorem spec_l17Calls (v : Value) (xs : List CallD) (v' : Value) (ys : List CallD) (w : World) {e e' : TypeId} (hs : (vSlice vCall e).rd w [v] xs) (hs' : (vSlice vCall e').rd w [v'] ys) :
    Calls Try.prog 87 #[v, v'] w fun e w' => e = .returned (.bool (sameL eqCall xs ys)) ∧ Below w.heap.size w w' := by
  obtain ⟨ao, cap, rfl, hc1, hc2, hnil, hcell⟩ := vSlice.shape hs
  obtain ⟨ao', cap', rfl, hc1', hc2', hnil', hcell'⟩ := vSlice.shape hs'
  have HX := Lib.hid hcell
  have HX' := Lib.hid hcell'
  clear hcell hs hnil hcell' hs' hnil'
  unfold maxLen at hc2 hc2'
  by_cases hlen : xs.length = ys.length
  case neg =>
    rw [sameL_len hlen]
    have hne : ¬ (xs.length : Int) = ys.length := by omega
    have hnb : ((xs.length : Int) == ys.length) = false := by simp; omega
    go_enter Try.func87, Try.ntmps87
    go_wp2
    go_ret
    exact ⟨rfl, (by repeat (first | with_reducible exact Below.refl _ _ | with_reducible apply Below.ofExt | with_reducible apply Below.ofAlloc | with_reducible apply Below.drew | with_reducible apply Below.ofDrewN | with_reducible assumption | (with_reducible refine Below.setCell ?_ (by first | exact Nat.le_refl _ | (simp [go_sem]; done) | (simp [go_sem]; omega)) _)))⟩
  have HL := Lib.hid hlen
  have hle : ys.length ≤ xs.length := by omega
  have hlb : ((xs.length : Int) == ys.length) = true := by simp; omega
  have hlc : ((xs.length : Int) != ys.length) = false := by simp; omega
  clear hlen
  go_enter Try.func87, Try.ntmps87
  go_wp2
  go_loopw [5] (fun k wr => ∃ (n : Nat), k = .int .i64 n ∧ n ≤ xs.length ∧ Below w.heap.size w wr ∧ ((xs.zip ys).take n).all (fun z => eqCall z.1 z.2) = true) (fun k _ => xs.length - (intOf k).toNat)
  case atStart => exact ⟨0, rfl, by omega, (by repeat (first | with_reducible exact Below.refl _ _ | with_reducible apply Below.ofExt | with_reducible apply Below.ofAlloc | with_reducible apply Below.drew | with_reducible apply Below.ofDrewN | with_reducible assumption | (with_reducible refine Below.setCell ?_ (by first | exact Nat.le_refl _ | (simp [go_sem]; done) | (simp [go_sem]; omega)) _))), rfl⟩
  case round =>
    obtain ⟨n, rfl, hn, hbel, hall⟩ := hrel
    obtain ⟨X, rfl⟩ := hbel.ext
    have HA := Lib.hid hall
    clear hall
    by_cases hlt : (n : Int) < xs.length
    case pos =>
      have hk : n < xs.length := by omega
      have hk' : n < ys.length := by rw [← HL.out]; exact hk
      obtain ⟨b, off, csc, rfl, hblc, hrdc, hcellc⟩ := HX.out n hk
      obtain ⟨b', off', cse, rfl, hble, hrde, hcelle⟩ := HX'.out n hk'
      have hst := zip_step eqCall xs ys n hk hk'
      generalize xs[n] = x at hrdc hst
      generalize ys[n] = y at hrde hst
      obtain ⟨rfl, _⟩ := hrdc
      obtain ⟨rfl, _⟩ := hrde
      have hq : eqCall x y = eqCall x y := rfl
      conv at hq => rhs; unfold eqCall
      obtain ⟨x0, x1, x2, x3, x4, x5⟩ := x
      obtain ⟨y0, y1, y2, y3, y4, y5⟩ := y
      simp only at hq
      have c0 := hcellc 0 _ rfl
      have c1 := hcellc 1 _ rfl
      have c2 := hcellc 2 _ rfl
      have c3 := hcellc 3 _ rfl
      have c4 := hcellc 4 _ rfl
      have c5 := hcellc 5 _ rfl
      have e0 := hcelle 0 _ rfl
      have e1 := hcelle 1 _ rfl
      have e2 := hcelle 2 _ rfl
      have e3 := hcelle 3 _ rfl
      have e4 := hcelle 4 _ rfl
      have e5 := hcelle 5 _ rfl
      clear hcellc hcelle
      simp only [show vCall.k = 6 from rfl, Nat.add_zero] at c0 e0 c1 e1 c2 e2 c3 e3 c4 e4 c5 e5
      have HST := Lib.hid hst
      clear hst
      by_cases f0 : x0 = y0
      case neg =>
        have HQ : Hid (eqCall ⟨x0, x1, x2, x3, x4, x5⟩ ⟨y0, y1, y2, y3, y4, y5⟩ = false) := by show _ = false; rw [hq]; simp [f0]
        clear hq
        have g0 : (x0 == y0) = false := by simp [f0]
        go_wp2
        go_quiet (fail)
        go_wp2
        go_ret
        exact ⟨by rw [sameL_all HL.out, all_take_false _ (xs.zip ys) (n + 1) (by rw [HST.out, HQ.out, Bool.and_false])]; rfl, (by repeat (first | with_reducible exact Below.refl _ _ | with_reducible apply Below.ofExt | with_reducible apply Below.ofAlloc | with_reducible apply Below.drew | with_reducible apply Below.ofDrewN | with_reducible assumption | (with_reducible refine Below.setCell ?_ (by first | exact Nat.le_refl _ | (simp [go_sem]; done) | (simp [go_sem]; omega)) _)))⟩
      have g0 : (x0 == y0) = true := by simp [f0]
      by_cases f1 : x1.toList = y1.toList
      case neg =>
        have HQ : Hid (eqCall ⟨x0, x1, x2, x3, x4, x5⟩ ⟨y0, y1, y2, y3, y4, y5⟩ = false) := by show _ = false; rw [hq]; simp [f0, f1]
        clear hq
        have g1 : (x1.toList == y1.toList) = false := by simp [f1]
        go_wp2
        go_quiet (fail)
        go_wp2
        go_ret
        exact ⟨by rw [sameL_all HL.out, all_take_false _ (xs.zip ys) (n + 1) (by rw [HST.out, HQ.out, Bool.and_false])]; rfl, (by repeat (first | with_reducible exact Below.refl _ _ | with_reducible apply Below.ofExt | with_reducible apply Below.ofAlloc | with_reducible apply Below.drew | with_reducible apply Below.ofDrewN | with_reducible assumption | (with_reducible refine Below.setCell ?_ (by first | exact Nat.le_refl _ | (simp [go_sem]; done) | (simp [go_sem]; omega)) _)))⟩
      have g1 : (x1.toList == y1.toList) = true := by simp [f1]
      by_cases f2 : x2.toList = y2.toList
      case neg =>
        have HQ : Hid (eqCall ⟨x0, x1, x2, x3, x4, x5⟩ ⟨y0, y1, y2, y3, y4, y5⟩ = false) := by show _ = false; rw [hq]; simp [f0, f1, f2]
        clear hq
        have g2 : (x2.toList == y2.toList) = false := by simp [f2]
        go_wp2
        go_quiet (fail)
        go_wp2
        go_ret
        exact ⟨by rw [sameL_all HL.out, all_take_false _ (xs.zip ys) (n + 1) (by rw [HST.out, HQ.out, Bool.and_false])]; rfl, (by repeat (first | with_reducible exact Below.refl _ _ | with_reducible apply Below.ofExt | with_reducible apply Below.ofAlloc | with_reducible apply Below.drew | with_reducible apply Below.ofDrewN | with_reducible assumption | (with_reducible refine Below.setCell ?_ (by first | exact Nat.le_refl _ | (simp [go_sem]; done) | (simp [go_sem]; omega)) _)))⟩
      have g2 : (x2.toList == y2.toList) = true := by simp [f2]
      by_cases f3 : x3 = y3
      case neg =>
        have HQ : Hid (eqCall ⟨x0, x1, x2, x3, x4, x5⟩ ⟨y0, y1, y2, y3, y4, y5⟩ = false) := by show _ = false; rw [hq]; simp [f0, f1, f2, f3]
        clear hq
        have g3 : (x3 == y3) = false := by simp [f3]
        go_wp2
        go_quiet (fail)
        go_wp2
        go_ret
        exact ⟨by rw [sameL_all HL.out, all_take_false _ (xs.zip ys) (n + 1) (by rw [HST.out, HQ.out, Bool.and_false])]; rfl, (by repeat (first | with_reducible exact Below.refl _ _ | with_reducible apply Below.ofExt | with_reducible apply Below.ofAlloc | with_reducible apply Below.drew | with_reducible apply Below.ofDrewN | with_reducible assumption | (with_reducible refine Below.setCell ?_ (by first | exact Nat.le_refl _ | (simp [go_sem]; done) | (simp [go_sem]; omega)) _)))⟩
      have g3 : (x3 == y3) = true := by simp [f3]
      by_cases f4 : x4 = y4
      case neg =>
        have HQ : Hid (eqCall ⟨x0, x1, x2, x3, x4, x5⟩ ⟨y0, y1, y2, y3, y4, y5⟩ = false) := by show _ = false; rw [hq]; simp [f0, f1, f2, f3, f4]
        clear hq
        have g4 : (x4 == y4) = false := by simp [f4]
        go_wp2
        go_quiet (fail)
        go_wp2
        go_ret
        exact ⟨by rw [sameL_all HL.out, all_take_false _ (xs.zip ys) (n + 1) (by rw [HST.out, HQ.out, Bool.and_false])]; rfl, (by repeat (first | with_reducible exact Below.refl _ _ | with_reducible apply Below.ofExt | with_reducible apply Below.ofAlloc | with_reducible apply Below.drew | with_reducible apply Below.ofDrewN | with_reducible assumption | (with_reducible refine Below.setCell ?_ (by first | exact Nat.le_refl _ | (simp [go_sem]; done) | (simp [go_sem]; omega)) _)))⟩
      have g4 : (x4 == y4) = true := by simp [f4]
      by_cases f5 : x5.toList = y5.toList
      case neg =>
        have HQ : Hid (eqCall ⟨x0, x1, x2, x3, x4, x5⟩ ⟨y0, y1, y2, y3, y4, y5⟩ = false) := by show _ = false; rw [hq]; simp [f0, f1, f2, f3, f4, f5]
        clear hq
        have g5 : (x5.toList == y5.toList) = false := by simp [f5]
        go_wp2
        go_quiet (fail)
        go_wp2
        go_ret
        exact ⟨by rw [sameL_all HL.out, all_take_false _ (xs.zip ys) (n + 1) (by rw [HST.out, HQ.out, Bool.and_false])]; rfl, (by repeat (first | with_reducible exact Below.refl _ _ | with_reducible apply Below.ofExt | with_reducible apply Below.ofAlloc | with_reducible apply Below.drew | with_reducible apply Below.ofDrewN | with_reducible assumption | (with_reducible refine Below.setCell ?_ (by first | exact Nat.le_refl _ | (simp [go_sem]; done) | (simp [go_sem]; omega)) _)))⟩
      have g5 : (x5.toList == y5.toList) = true := by simp [f5]
      have HQ : Hid (eqCall ⟨x0, x1, x2, x3, x4, x5⟩ ⟨y0, y1, y2, y3, y4, y5⟩ = true) := by show _ = true; rw [hq]; simp [f0, f1, f2, f3, f4, f5]
      clear hq
      go_wp2
      go_quiet (fail)
      go_wp2
      go_roundw
      case rel => exact ⟨n + 1, by go_num, by omega, (by repeat (first | with_reducible exact Below.refl _ _ | with_reducible apply Below.ofExt | with_reducible apply Below.ofAlloc | with_reducible apply Below.drew | with_reducible apply Below.ofDrewN | with_reducible assumption | (with_reducible refine Below.setCell ?_ (by first | exact Nat.le_refl _ | (simp [go_sem]; done) | (simp [go_sem]; omega)) _))), by rw [HST.out, HA.out, HQ.out]; rfl⟩
      case measure => simp [intOf]; omega
    case neg =>
      go_wp2
      go_ret
      have e : n = xs.length := by omega
      subst e
      have ha := HA.out
      rw [List.take_of_length_le (by rw [List.length_zip]; omega)] at ha
      exact ⟨by rw [sameL_all HL.out, ha]; rfl, (by repeat (first | with_reducible exact Below.refl _ _ | with_reducible apply Below.ofExt | with_reducible apply Below.ofAlloc | with_reducible apply Below.drew | with_reducible apply Below.ofDrewN | with_reducible assumption | (with_reducible refine Below.setCell ?_ (by first | exact Nat.le_refl _ | (simp [go_sem]; done) | (simp [go_sem]; omega)) _)))⟩
set_option maxRecDepth 100000 in
set_option maxHeartbeats 1000000 in
theorem calls_Equal (v : Value) (xs : List CallD) (v' : Value) (ys : List CallD) (w : World) {e e' : TypeId} (hs : (vSlice vCall e).rd w [v] xs) (hs' : (vSlice vCall e').rd w [v'] ys) :
    Calls Try.prog 91 #[v, v'] w fun e w' => e = .returned (.bool (sameL eqCall xs ys)) ∧ Below w.heap.size w w' := by
  obtain ⟨ao, cap, rfl, hc1, hc2, hnil, hcell⟩ := vSlice.shape hs
  obtain ⟨ao', cap', rfl, hc1', hc2', hnil', hcell'⟩ := vSlice.shape hs'
  have HX := Lib.hid hcell
  have HX' := Lib.hid hcell'
  clear hcell hs hnil hcell' hs' hnil'
  unfold maxLen at hc2 hc2'
  by_cases hlen : xs.length = ys.length
  case neg =>
    rw [sameL_len hlen]
    have hne : ¬ (xs.length : Int) = ys.length := by omega
    have hnb : ((xs.length : Int) == ys.length) = false := by simp; omega
    go_enter Try.func91, Try.ntmps91
    go_wp2
    go_ret
    exact ⟨rfl, (by repeat (first | with_reducible exact Below.refl _ _ | with_reducible apply Below.ofExt | with_reducible apply Below.ofAlloc | with_reducible apply Below.drew | with_reducible apply Below.ofDrewN | with_reducible assumption | (with_reducible refine Below.setCell ?_ (by first | exact Nat.le_refl _ | (simp [go_sem]; done) | (simp [go_sem]; omega)) _)))⟩
  have HL := Lib.hid hlen
  have hle : ys.length ≤ xs.length := by omega
  have hlb : ((xs.length : Int) == ys.length) = true := by simp; omega
  have hlc : ((xs.length : Int) != ys.length) = false := by simp; omega
  clear hlen
  go_enter Try.func91, Try.ntmps91
  go_wp2
  go_loopw [13] (fun k wr => ∃ (n : Nat), k = .int .i64 n ∧ n ≤ xs.length ∧ Below w.heap.size w wr ∧ ((xs.zip ys).take n).all (fun z => eqCall z.1 z.2) = true) (fun k _ => xs.length - (intOf k).toNat)
  case atStart => exact ⟨0, rfl, by omega, (by repeat (first | with_reducible exact Below.refl _ _ | with_reducible apply Below.ofExt | with_reducible apply Below.ofAlloc | with_reducible apply Below.drew | with_reducible apply Below.ofDrewN | with_reducible assumption | (with_reducible refine Below.setCell ?_ (by first | exact Nat.le_refl _ | (simp [go_sem]; done) | (simp [go_sem]; omega)) _))), rfl⟩
  case round =>
    obtain ⟨n, rfl, hn, hbel, hall⟩ := hrel
    obtain ⟨X, rfl⟩ := hbel.ext
    have HA := Lib.hid hall
    clear hall
    by_cases hlt : (n : Int) < xs.length
    case pos =>
      have hk : n < xs.length := by omega
      have hk' : n < ys.length := by rw [← HL.out]; exact hk
      obtain ⟨b, off, csc, rfl, hblc, hrdc, hcellc⟩ := HX.out n hk
      obtain ⟨b', off', cse, rfl, hble, hrde, hcelle⟩ := HX'.out n hk'
      have hst := zip_step eqCall xs ys n hk hk'
      generalize xs[n] = x at hrdc hst
      generalize ys[n] = y at hrde hst
      obtain ⟨rfl, _⟩ := hrdc
      obtain ⟨rfl, _⟩ := hrde
      have hq : eqCall x y = eqCall x y := rfl
      conv at hq => rhs; unfold eqCall
      obtain ⟨x0, x1, x2, x3, x4, x5⟩ := x
      obtain ⟨y0, y1, y2, y3, y4, y5⟩ := y
      simp only at hq
      have c0 := hcellc 0 _ rfl
      have c1 := hcellc 1 _ rfl
      have c2 := hcellc 2 _ rfl
      have c3 := hcellc 3 _ rfl
      have c4 := hcellc 4 _ rfl
      have c5 := hcellc 5 _ rfl
      have e0 := hcelle 0 _ rfl
      have e1 := hcelle 1 _ rfl
      have e2 := hcelle 2 _ rfl
      have e3 := hcelle 3 _ rfl
      have e4 := hcelle 4 _ rfl
      have e5 := hcelle 5 _ rfl
      clear hcellc hcelle
      simp only [show vCall.k = 6 from rfl, Nat.add_zero] at c0 e0 c1 e1 c2 e2 c3 e3 c4 e4 c5 e5
      have HST := Lib.hid hst
      clear hst
      by_cases f0 : x0 = y0
      case neg =>
        have HQ : Hid (eqCall ⟨x0, x1, x2, x3, x4, x5⟩ ⟨y0, y1, y2, y3, y4, y5⟩ = false) := by show _ = false; rw [hq]; simp [f0]
        clear hq
        have g0 : (x0 == y0) = false := by simp [f0]
        go_wp2
        go_quiet (fail)
        go_wp2
        go_ret
        exact ⟨by rw [sameL_all HL.out, all_take_false _ (xs.zip ys) (n + 1) (by rw [HST.out, HQ.out, Bool.and_false])]; rfl, (by repeat (first | with_reducible exact Below.refl _ _ | with_reducible apply Below.ofExt | with_reducible apply Below.ofAlloc | with_reducible apply Below.drew | with_reducible apply Below.ofDrewN | with_reducible assumption | (with_reducible refine Below.setCell ?_ (by first | exact Nat.le_refl _ | (simp [go_sem]; done) | (simp [go_sem]; omega)) _)))⟩
      have g0 : (x0 == y0) = true := by simp [f0]
      by_cases f1 : x1.toList = y1.toList
      case neg =>
        have HQ : Hid (eqCall ⟨x0, x1, x2, x3, x4, x5⟩ ⟨y0, y1, y2, y3, y4, y5⟩ = false) := by show _ = false; rw [hq]; simp [f0, f1]
        clear hq
        have g1 : (x1.toList == y1.toList) = false := by simp [f1]
        go_wp2
        go_quiet (fail)
        go_wp2
        go_ret
        exact ⟨by rw [sameL_all HL.out, all_take_false _ (xs.zip ys) (n + 1) (by rw [HST.out, HQ.out, Bool.and_false])]; rfl, (by repeat (first | with_reducible exact Below.refl _ _ | with_reducible apply Below.ofExt | with_reducible apply Below.ofAlloc | with_reducible apply Below.drew | with_reducible apply Below.ofDrewN | with_reducible assumption | (with_reducible refine Below.setCell ?_ (by first | exact Nat.le_refl _ | (simp [go_sem]; done) | (simp [go_sem]; omega)) _)))⟩
      have g1 : (x1.toList == y1.toList) = true := by simp [f1]
      by_cases f2 : x2.toList = y2.toList
      case neg =>
        have HQ : Hid (eqCall ⟨x0, x1, x2, x3, x4, x5⟩ ⟨y0, y1, y2, y3, y4, y5⟩ = false) := by show _ = false; rw [hq]; simp [f0, f1, f2]
        clear hq
        have g2 : (x2.toList == y2.toList) = false := by simp [f2]
        go_wp2
        go_quiet (fail)
        go_wp2
        go_ret
        exact ⟨by rw [sameL_all HL.out, all_take_false _ (xs.zip ys) (n + 1) (by rw [HST.out, HQ.out, Bool.and_false])]; rfl, (by repeat (first | with_reducible exact Below.refl _ _ | with_reducible apply Below.ofExt | with_reducible apply Below.ofAlloc | with_reducible apply Below.drew | with_reducible apply Below.ofDrewN | with_reducible assumption | (with_reducible refine Below.setCell ?_ (by first | exact Nat.le_refl _ | (simp [go_sem]; done) | (simp [go_sem]; omega)) _)))⟩
      have g2 : (x2.toList == y2.toList) = true := by simp [f2]
      by_cases f3 : x3 = y3
      case neg =>
        have HQ : Hid (eqCall ⟨x0, x1, x2, x3, x4, x5⟩ ⟨y0, y1, y2, y3, y4, y5⟩ = false) := by show _ = false; rw [hq]; simp [f0, f1, f2, f3]
        clear hq
        have g3 : (x3 == y3) = false := by simp [f3]
        go_wp2
        go_quiet (fail)
        go_wp2
        go_ret
        exact ⟨by rw [sameL_all HL.out, all_take_false _ (xs.zip ys) (n + 1) (by rw [HST.out, HQ.out, Bool.and_false])]; rfl, (by repeat (first | with_reducible exact Below.refl _ _ | with_reducible apply Below.ofExt | with_reducible apply Below.ofAlloc | with_reducible apply Below.drew | with_reducible apply Below.ofDrewN | with_reducible assumption | (with_reducible refine Below.setCell ?_ (by first | exact Nat.le_refl _ | (simp [go_sem]; done) | (simp [go_sem]; omega)) _)))⟩
      have g3 : (x3 == y3) = true := by simp [f3]
      by_cases f4 : x4 = y4
      case neg =>
        have HQ : Hid (eqCall ⟨x0, x1, x2, x3, x4, x5⟩ ⟨y0, y1, y2, y3, y4, y5⟩ = false) := by show _ = false; rw [hq]; simp [f0, f1, f2, f3, f4]
        clear hq
        have g4 : (x4 == y4) = false := by simp [f4]
        go_wp2
        go_quiet (fail)
        go_wp2
        go_ret
        exact ⟨by rw [sameL_all HL.out, all_take_false _ (xs.zip ys) (n + 1) (by rw [HST.out, HQ.out, Bool.and_false])]; rfl, (by repeat (first | with_reducible exact Below.refl _ _ | with_reducible apply Below.ofExt | with_reducible apply Below.ofAlloc | with_reducible apply Below.drew | with_reducible apply Below.ofDrewN | with_reducible assumption | (with_reducible refine Below.setCell ?_ (by first | exact Nat.le_refl _ | (simp [go_sem]; done) | (simp [go_sem]; omega)) _)))⟩
      have g4 : (x4 == y4) = true := by simp [f4]
      by_cases f5 : x5.toList = y5.toList
      case neg =>
        have HQ : Hid (eqCall ⟨x0, x1, x2, x3, x4, x5⟩ ⟨y0, y1, y2, y3, y4, y5⟩ = false) := by show _ = false; rw [hq]; simp [f0, f1, f2, f3, f4, f5]
        clear hq
        have g5 : (x5.toList == y5.toList) = false := by simp [f5]
        go_wp2
        go_quiet (fail)
        go_wp2
        go_ret
        exact ⟨by rw [sameL_all HL.out, all_take_false _ (xs.zip ys) (n + 1) (by rw [HST.out, HQ.out, Bool.and_false])]; rfl, (by repeat (first | with_reducible exact Below.refl _ _ | with_reducible apply Below.ofExt | with_reducible apply Below.ofAlloc | with_reducible apply Below.drew | with_reducible apply Below.ofDrewN | with_reducible assumption | (with_reducible refine Below.setCell ?_ (by first | exact Nat.le_refl _ | (simp [go_sem]; done) | (simp [go_sem]; omega)) _)))⟩
      have g5 : (x5.toList == y5.toList) = true := by simp [f5]
      have HQ : Hid (eqCall ⟨x0, x1, x2, x3, x4, x5⟩ ⟨y0, y1, y2, y3, y4, y5⟩ = true) := by show _ = true; rw [hq]; simp [f0, f1, f2, f3, f4, f5]
      clear hq
      go_wp2
      go_quiet (fail)
      go_wp2
      go_roundw
      case rel => exact ⟨n + 1, by go_num, by omega, (by repeat (first | with_reducible exact Below.refl _ _ | with_reducible apply Below.ofExt | with_reducible apply Below.ofAlloc | with_reducible apply Below.drew | with_reducible apply Below.ofDrewN | with_reducible assumption | (with_reducible refine Below.setCell ?_ (by first | exact Nat.le_refl _ | (simp [go_sem]; done) | (simp [go_sem]; omega)) _))), by rw [HST.out, HA.out, HQ.out]; rfl⟩
      case measure => simp [intOf]; omega
    case neg =>
      go_wp2
      go_ret
      have e : n = xs.length := by omega
      subst e
      have ha := HA.out
      rw [List.take_of_length_le (by rw [List.length_zip]; omega)] at ha
      exact ⟨by rw [sameL_all HL.out, ha]; rfl, (by repeat (first | with_reducible exact Below.refl _ _ | with_reducible apply Below.ofExt | with_reducible apply Below.ofAlloc | with_reducible apply Below.drew | with_reducible apply Below.ofDrewN | with_reducible assumption | (with_reducible refine Below.setCell ?_ (by first | exact Nat.le_refl _ | (simp [go_sem]; done) | (simp [go_sem]; omega)) _)))⟩
end Go.Proofs.Ytefenfglkfdoaaa
