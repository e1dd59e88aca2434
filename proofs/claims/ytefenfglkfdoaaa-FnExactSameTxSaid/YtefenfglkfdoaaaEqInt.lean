/- Equality of slices of Int: the program's and the reference's. Each condition stands in its theorem. -/
import Derived.Test.YtefenfglkfdoaaaTInt
import Derived.Test.YtefenfglkfdoaaaPairs
set_option linter.unusedVariables false
set_option linter.unusedSimpArgs false
namespace Go.Proofs.Ytefenfglkfdoaaa
open Go.ChangeShapes Go.WideShapes Go.ChangeAt Go.RowKit


def eqInt (a b : Int) : Bool := a == b

set_option maxRecDepth 100000 in
set_option maxHeartbeats 1000000 in
theorem spec_l17Ints (v : Value) (xs : List Int) (v' : Value) (ys : List Int) (w : World) {e e' : TypeId} (hs : (vSlice vInt e).rd w [v] xs) (hs' : (vSlice vInt e').rd w [v'] ys) :
    Calls Try.prog 90 #[v, v'] w fun e w' => e = .returned (.bool (sameL eqInt xs ys)) ∧ Below w.heap.size w w' := by
  obtain ⟨ao, cap, rfl, hc1, hc2, hnil, hcell, _⟩ := vInt_shape hs
  obtain ⟨ao', cap', rfl, hc1', hc2', hnil', hcell', _⟩ := vInt_shape hs'
  have HX := Lib.hid hcell
  have HX' := Lib.hid hcell'
  clear hcell hs hnil hcell' hs' hnil'
  unfold maxLen at hc2 hc2'
  by_cases hlen : xs.length = ys.length
  case neg =>
    rw [sameL_len hlen]
    have hne : ¬ (xs.length : Int) = ys.length := by omega
    have hnb : ((xs.length : Int) == ys.length) = false := by simp; omega
    go_enter Try.func90, Try.ntmps90
    go_wp2
    go_ret
    exact ⟨rfl, (by repeat (first | with_reducible exact Below.refl _ _ | with_reducible apply Below.ofExt | with_reducible apply Below.ofAlloc | with_reducible apply Below.drew | with_reducible apply Below.ofDrewN | with_reducible assumption | (with_reducible refine Below.setCell ?_ (by first | exact Nat.le_refl _ | (simp [go_sem]; done) | (simp [go_sem]; omega)) _)))⟩
  have HL := Lib.hid hlen
  have hle : ys.length ≤ xs.length := by omega
  have hlb : ((xs.length : Int) == ys.length) = true := by simp; omega
  have hlc : ((xs.length : Int) != ys.length) = false := by simp; omega
  clear hlen
  go_enter Try.func90, Try.ntmps90
  go_wp2
  go_loopw [5] (fun k wr => ∃ (n : Nat), k = .int .i64 n ∧ n ≤ xs.length ∧ Below w.heap.size w wr ∧ ((xs.zip ys).take n).all (fun z => eqInt z.1 z.2) = true) (fun k _ => xs.length - (intOf k).toNat)
  case atStart => exact ⟨0, rfl, by omega, (by repeat (first | with_reducible exact Below.refl _ _ | with_reducible apply Below.ofExt | with_reducible apply Below.ofAlloc | with_reducible apply Below.drew | with_reducible apply Below.ofDrewN | with_reducible assumption | (with_reducible refine Below.setCell ?_ (by first | exact Nat.le_refl _ | (simp [go_sem]; done) | (simp [go_sem]; omega)) _))), rfl⟩
  case round =>
    obtain ⟨n, rfl, hn, hbel, hall⟩ := hrel
    obtain ⟨X, rfl⟩ := hbel.ext
    have HA := Lib.hid hall
    clear hall
    by_cases hlt : (n : Int) < xs.length
    case pos =>
      have hk : n < xs.length := by omega
      have hk' : n < ys.length := by rw [← HL.out]; exact hk
      obtain ⟨b, off, rfl, hblc, hcellc⟩ := HX.out (by intro e; simp [e] at hk)
      have c0 := hcellc n hk
      obtain ⟨b', off', rfl, hble, hcelle⟩ := HX'.out (by intro e; simp [e] at hk')
      have e0 := hcelle n hk'
      have hst := zip_step eqInt xs ys n hk hk'
      clear hcellc hcelle
      generalize xs[n] = x at c0 hst
      generalize ys[n] = y at e0 hst
      have hq : eqInt x y = eqInt x y := rfl
      conv at hq => rhs; unfold eqInt
      have HST := Lib.hid hst
      clear hst
      by_cases f0 : x = y
      case neg =>
        have HQ : Hid (eqInt x y = false) := by show _ = false; rw [hq]; simp [f0]
        clear hq
        have g0 : (x == y) = false := by simp [f0]
        go_wp2
        go_quiet (fail)
        go_wp2
        go_ret
        exact ⟨by rw [sameL_all HL.out, all_take_false _ (xs.zip ys) (n + 1) (by rw [HST.out, HQ.out, Bool.and_false])]; rfl, (by repeat (first | with_reducible exact Below.refl _ _ | with_reducible apply Below.ofExt | with_reducible apply Below.ofAlloc | with_reducible apply Below.drew | with_reducible apply Below.ofDrewN | with_reducible assumption | (with_reducible refine Below.setCell ?_ (by first | exact Nat.le_refl _ | (simp [go_sem]; done) | (simp [go_sem]; omega)) _)))⟩
      have g0 : (x == y) = true := by simp [f0]
      have HQ : Hid (eqInt x y = true) := by show _ = true; rw [hq]; simp [f0]
      clear hq
      go_wp2
      go_quiet (fail)
      go_wp2
      go_roundw
      case rel => exact ⟨n + 1, by go_num, by omega, (by repeat (first | with_reducible exact Below.refl _ _ | with_reducible apply Below.ofExt | with_reducible apply Below.ofAlloc | with_reducible apply Below.drew | with_reducible apply Below.ofDrewN | with_reducible assumption | (with_reducible refine Below.setCell ?_ (by first | exact Nat.le_refl _ | (simp [go_sem]; done) | (simp [go_sem]; omega)) _))), by rw [HST.out, HA.out, HQ.out]; rfl⟩
      case measure => simp [intOf]; omega
    case neg =>
      go_wp2
      go_ret
      have e : n = xs.length := by omega
      subst e
      have ha := HA.out
      rw [List.take_of_length_le (by rw [List.length_zip]; omega)] at ha
      exact ⟨by rw [sameL_all HL.out, ha]; rfl, (by repeat (first | with_reducible exact Below.refl _ _ | with_reducible apply Below.ofExt | with_reducible apply Below.ofAlloc | with_reducible apply Below.drew | with_reducible apply Below.ofDrewN | with_reducible assumption | (with_reducible refine Below.setCell ?_ (by first | exact Nat.le_refl _ | (simp [go_sem]; done) | (simp [go_sem]; omega)) _)))⟩
set_option maxRecDepth 100000 in
set_option maxHeartbeats 1000000 in
theorem ints_Equal (v : Value) (xs : List Int) (v' : Value) (ys : List Int) (w : World) {e e' : TypeId} (hs : (vSlice vInt e).rd w [v] xs) (hs' : (vSlice vInt e').rd w [v'] ys) :
    Calls Try.prog 94 #[v, v'] w fun e w' => e = .returned (.bool (sameL eqInt xs ys)) ∧ Below w.heap.size w w' := by
  obtain ⟨ao, cap, rfl, hc1, hc2, hnil, hcell, _⟩ := vInt_shape hs
  obtain ⟨ao', cap', rfl, hc1', hc2', hnil', hcell', _⟩ := vInt_shape hs'
  have HX := Lib.hid hcell
  have HX' := Lib.hid hcell'
  clear hcell hs hnil hcell' hs' hnil'
  unfold maxLen at hc2 hc2'
  by_cases hlen : xs.length = ys.length
  case neg =>
    rw [sameL_len hlen]
    have hne : ¬ (xs.length : Int) = ys.length := by omega
    have hnb : ((xs.length : Int) == ys.length) = false := by simp; omega
    go_enter Try.func94, Try.ntmps94
    go_wp2
    go_ret
    exact ⟨rfl, (by repeat (first | with_reducible exact Below.refl _ _ | with_reducible apply Below.ofExt | with_reducible apply Below.ofAlloc | with_reducible apply Below.drew | with_reducible apply Below.ofDrewN | with_reducible assumption | (with_reducible refine Below.setCell ?_ (by first | exact Nat.le_refl _ | (simp [go_sem]; done) | (simp [go_sem]; omega)) _)))⟩
  have HL := Lib.hid hlen
  have hle : ys.length ≤ xs.length := by omega
  have hlb : ((xs.length : Int) == ys.length) = true := by simp; omega
  have hlc : ((xs.length : Int) != ys.length) = false := by simp; omega
  clear hlen
  go_enter Try.func94, Try.ntmps94
  go_wp2
  go_loopw [13] (fun k wr => ∃ (n : Nat), k = .int .i64 n ∧ n ≤ xs.length ∧ Below w.heap.size w wr ∧ ((xs.zip ys).take n).all (fun z => eqInt z.1 z.2) = true) (fun k _ => xs.length - (intOf k).toNat)
  case atStart => exact ⟨0, rfl, by omega, (by repeat (first | with_reducible exact Below.refl _ _ | with_reducible apply Below.ofExt | with_reducible apply Below.ofAlloc | with_reducible apply Below.drew | with_reducible apply Below.ofDrewN | with_reducible assumption | (with_reducible refine Below.setCell ?_ (by first | exact Nat.le_refl _ | (simp [go_sem]; done) | (simp [go_sem]; omega)) _))), rfl⟩
  case round =>
    obtain ⟨n, rfl, hn, hbel, hall⟩ := hrel
    obtain ⟨X, rfl⟩ := hbel.ext
    have HA := Lib.hid hall
    clear hall
    by_cases hlt : (n : Int) < xs.length
    case pos =>
      have hk : n < xs.length := by omega
      have hk' : n < ys.length := by rw [← HL.out]; exact hk
      obtain ⟨b, off, rfl, hblc, hcellc⟩ := HX.out (by intro e; simp [e] at hk)
      have c0 := hcellc n hk
      obtain ⟨b', off', rfl, hble, hcelle⟩ := HX'.out (by intro e; simp [e] at hk')
      have e0 := hcelle n hk'
      have hst := zip_step eqInt xs ys n hk hk'
      clear hcellc hcelle
      generalize xs[n] = x at c0 hst
      generalize ys[n] = y at e0 hst
      have hq : eqInt x y = eqInt x y := rfl
      conv at hq => rhs; unfold eqInt
      have HST := Lib.hid hst
      clear hst
      by_cases f0 : x = y
      case neg =>
        have HQ : Hid (eqInt x y = false) := by show _ = false; rw [hq]; simp [f0]
        clear hq
        have g0 : (x == y) = false := by simp [f0]
        go_wp2
        go_quiet (fail)
        go_wp2
        go_ret
        exact ⟨by rw [sameL_all HL.out, all_take_false _ (xs.zip ys) (n + 1) (by rw [HST.out, HQ.out, Bool.and_false])]; rfl, (by repeat (first | with_reducible exact Below.refl _ _ | with_reducible apply Below.ofExt | with_reducible apply Below.ofAlloc | with_reducible apply Below.drew | with_reducible apply Below.ofDrewN | with_reducible assumption | (with_reducible refine Below.setCell ?_ (by first | exact Nat.le_refl _ | (simp [go_sem]; done) | (simp [go_sem]; omega)) _)))⟩
      have g0 : (x == y) = true := by simp [f0]
      have HQ : Hid (eqInt x y = true) := by show _ = true; rw [hq]; simp [f0]
      clear hq
      go_wp2
      go_quiet (fail)
      go_wp2
      go_roundw
      case rel => exact ⟨n + 1, by go_num, by omega, (by repeat (first | with_reducible exact Below.refl _ _ | with_reducible apply Below.ofExt | with_reducible apply Below.ofAlloc | with_reducible apply Below.drew | with_reducible apply Below.ofDrewN | with_reducible assumption | (with_reducible refine Below.setCell ?_ (by first | exact Nat.le_refl _ | (simp [go_sem]; done) | (simp [go_sem]; omega)) _))), by rw [HST.out, HA.out, HQ.out]; rfl⟩
      case measure => simp [intOf]; omega
    case neg =>
      go_wp2
      go_ret
      have e : n = xs.length := by omega
      subst e
      have ha := HA.out
      rw [List.take_of_length_le (by rw [List.length_zip]; omega)] at ha
      exact ⟨by rw [sameL_all HL.out, ha]; rfl, (by repeat (first | with_reducible exact Below.refl _ _ | with_reducible apply Below.ofExt | with_reducible apply Below.ofAlloc | with_reducible apply Below.drew | with_reducible apply Below.ofDrewN | with_reducible assumption | (with_reducible refine Below.setCell ?_ (by first | exact Nat.le_refl _ | (simp [go_sem]; done) | (simp [go_sem]; omega)) _)))⟩
end Go.Proofs.Ytefenfglkfdoaaa
