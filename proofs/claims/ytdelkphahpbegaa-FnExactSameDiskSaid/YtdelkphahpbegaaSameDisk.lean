/- Equality of disks: the program's and the reference's. Each condition stands in its theorem. -/
import Derived.Test.YtdelkphahpbegaaSameStore
import Derived.Test.YtdelkphahpbegaaCDisk
set_option linter.unusedVariables false
set_option linter.unusedSimpArgs false
namespace Go.Proofs.Ytdelkphahpbegaa
open Go.ChangeShapes Go.WideShapes Go.ChangeAt Go.RowKit

def eqSlot (a b : SlotD) : Bool := (a.seq == b.seq) && ((a.whole == b.whole) && sameL eqCell a.cells b.cells)
def eqJour (a b : JournalD) : Bool := (a.text.toList == b.text.toList) && (a.sure == b.sure)
def sameDisk (a b : DiskD) : Bool := eqJour a.journal b.journal && sameL eqSlot a.slots b.slots
theorem impl_SameDisk1 (cs : List Value) (x : SlotD) (cs' : List Value) (y : SlotD) (w : World) (hs : vSlot.rd w cs x) (hs' : vSlot.rd w cs' y) :
    Calls Try.prog 38 #[.agg cs.toArray, .agg cs'.toArray] w fun e w' => e = .returned (.bool (eqSlot x y)) ∧ Below w.heap.size w w' := by
  obtain ⟨s0, rfl, h0⟩ := hs
  obtain ⟨t0, rfl, k0⟩ := hs'
  obtain ⟨a0, c0, rfl⟩ := vSlice.form h0
  obtain ⟨b0, g0, rfl⟩ := vSlice.form k0
  have H0 := Lib.hid h0
  have K0 := Lib.hid k0
  clear h0 k0
  have hq : eqSlot x y = eqSlot x y := rfl
  conv at hq => rhs; unfold eqSlot
  by_cases f0 : x.seq = y.seq
  case neg =>
    have g0 : (x.seq == y.seq) = false := by simp [f0]
    rw [g0, Bool.false_and] at hq
    rw [hq]
    clear hq
    go_enter Try.func38, Try.ntmps38
    go_wp2
    go_ret
    exact ⟨rfl, (by repeat (first | with_reducible exact Below.refl _ _ | with_reducible apply Below.ofExt | with_reducible apply Below.ofAlloc | with_reducible apply Below.drew | with_reducible apply Below.ofDrewN | with_reducible assumption | (with_reducible refine Below.setCell ?_ (by first | exact Nat.le_refl _ | (simp [go_sem]; done) | (simp [go_sem]; omega)) _)))⟩
  have g0 : (x.seq == y.seq) = true := by simp [f0]
  rw [g0, Bool.true_and] at hq
  by_cases f1 : x.whole = y.whole
  case neg =>
    have g1 : (x.whole == y.whole) = false := by simp [f1]
    rw [g1, Bool.false_and] at hq
    rw [hq]
    clear hq
    go_enter Try.func38, Try.ntmps38
    go_wp2
    go_ret
    exact ⟨rfl, (by repeat (first | with_reducible exact Below.refl _ _ | with_reducible apply Below.ofExt | with_reducible apply Below.ofAlloc | with_reducible apply Below.drew | with_reducible apply Below.ofDrewN | with_reducible assumption | (with_reducible refine Below.setCell ?_ (by first | exact Nat.le_refl _ | (simp [go_sem]; done) | (simp [go_sem]; omega)) _)))⟩
  have g1 : (x.whole == y.whole) = true := by simp [f1]
  rw [g1, Bool.true_and] at hq
  rw [hq]
  clear hq
  go_enter Try.func38, Try.ntmps38
  go_wp2_with fail
  (go_at_call 39; refine (impl_SameStore _ x.cells _ y.cells _ (by (try simp only [← Array.append_assoc]); (repeat (first | with_reducible exact H0.out | with_reducible apply View.rdMerge | with_reducible apply View.rdExt | with_reducible apply View.rdAlloc | with_reducible apply View.rdDrew | with_reducible apply View.rdDrewN)); all_goals exact (0 : Nat)) (by (try simp only [← Array.append_assoc]); (repeat (first | with_reducible exact K0.out | with_reducible apply View.rdMerge | with_reducible apply View.rdExt | with_reducible apply View.rdAlloc | with_reducible apply View.rdDrew | with_reducible apply View.rdDrewN)); all_goals exact (0 : Nat))).mono ?_; rintro e w' ⟨rfl, hb⟩; obtain ⟨X, rfl⟩ := hb.ext; clear hb)
  go_wp2
  go_ret
  exact ⟨rfl, (by repeat (first | with_reducible exact Below.refl _ _ | with_reducible apply Below.ofExt | with_reducible apply Below.ofAlloc | with_reducible apply Below.drew | with_reducible apply Below.ofDrewN | with_reducible assumption | (with_reducible refine Below.setCell ?_ (by first | exact Nat.le_refl _ | (simp [go_sem]; done) | (simp [go_sem]; omega)) _)))⟩
set_option maxRecDepth 100000 in
set_option maxHeartbeats 1000000 in
theorem slots_EqualFunc (v : Value) (xs : List SlotD) (v' : Value) (ys : List SlotD) (w : World) {e e' : TypeId} (hs : (vSlice vSlot e).rd w [v] xs) (hs' : (vSlice vSlot e').rd w [v'] ys) :
    Calls Try.prog 40 #[v, v', .func (Fn.func 38) #[] #[]] w fun e w' => e = .returned (.bool (sameL eqSlot xs ys)) ∧ Below w.heap.size w w' := by
  obtain ⟨ao, cap, rfl, hc1, hc2, hnil, hcell⟩ := vSlice.shape hs
  obtain ⟨ao', cap', rfl, hc1', hc2', hnil', hcell'⟩ := vSlice.shape hs'
  have HX := Lib.hid hcell
  have HX' := Lib.hid hcell'
  clear hcell hs hnil hcell' hs' hnil'
  unfold maxLen at hc2 hc2'
  by_cases hlen : xs.length = ys.length
  case neg =>
    rw [sameL_len hlen]
    have hne : ¬ (xs.length : Int) = ys.length := by omega
    have hnb : ((xs.length : Int) == ys.length) = false := by simp; omega
    go_enter Try.func40, Try.ntmps40
    go_wp2
    go_ret
    exact ⟨rfl, (by repeat (first | with_reducible exact Below.refl _ _ | with_reducible apply Below.ofExt | with_reducible apply Below.ofAlloc | with_reducible apply Below.drew | with_reducible apply Below.ofDrewN | with_reducible assumption | (with_reducible refine Below.setCell ?_ (by first | exact Nat.le_refl _ | (simp [go_sem]; done) | (simp [go_sem]; omega)) _)))⟩
  have HL := Lib.hid hlen
  have hle : ys.length ≤ xs.length := by omega
  have hlb : ((xs.length : Int) == ys.length) = true := by simp; omega
  have hlc : ((xs.length : Int) != ys.length) = false := by simp; omega
  clear hlen
  go_enter Try.func40, Try.ntmps40
  go_wp2
  go_loopw [17] (fun k wr => ∃ (n : Nat), k = .int .i64 n ∧ n ≤ xs.length ∧ Below w.heap.size w wr ∧ ((xs.zip ys).take n).all (fun z => eqSlot z.1 z.2) = true) (fun k _ => xs.length - (intOf k).toNat)
  case atStart => exact ⟨0, rfl, by omega, (by repeat (first | with_reducible exact Below.refl _ _ | with_reducible apply Below.ofExt | with_reducible apply Below.ofAlloc | with_reducible apply Below.drew | with_reducible apply Below.ofDrewN | with_reducible assumption | (with_reducible refine Below.setCell ?_ (by first | exact Nat.le_refl _ | (simp [go_sem]; done) | (simp [go_sem]; omega)) _))), rfl⟩
  case round =>
    obtain ⟨n, rfl, hn, hbel, hall⟩ := hrel
    obtain ⟨X, rfl⟩ := hbel.ext
    have HA := Lib.hid hall
    clear hall
    by_cases hlt : (n : Int) < xs.length
    case pos =>
      have hk : n < xs.length := by omega
      have hk' : n < ys.length := by rw [← HL.out]; exact hk
      obtain ⟨b, off, csx, rfl, hblx, hrdx, hcellx⟩ := HX.out n hk
      obtain ⟨b', off', csy, rfl, hbly, hrdy, hcelly⟩ := HX'.out n hk'
      have hst := zip_step eqSlot xs ys n hk hk'
      generalize xs[n] = x at hrdx hst
      generalize ys[n] = y at hrdy hst
      have HDX := Lib.hid hrdx
      have HDY := Lib.hid hrdy
      obtain ⟨xa, xc, rfl⟩ := vSlot_shape hrdx
      obtain ⟨ya, yc, rfl⟩ := vSlot_shape hrdy
      clear hrdx hrdy
      have HST := Lib.hid hst
      clear hst
      have q1 : b < w.heap.size + X.bs.size := by omega
      have q2 : b' < w.heap.size + X.bs.size := by omega
      have q3 : ¬ b' = w.heap.size + X.bs.size := by omega
      have c0 := hcellx 0 _ rfl
      have c1 := hcellx 1 _ rfl
      have c2 := hcellx 2 _ rfl
      have e0 := hcelly 0 _ rfl
      have e1 := hcelly 1 _ rfl
      have e2 := hcelly 2 _ rfl
      clear hcellx hcelly
      simp only [show vSlot.k = 3 from rfl, Nat.add_zero] at c0 e0 c1 e1 c2 e2
      cases hq : eqSlot x y with
      | true =>
        have HQ := Lib.hid hq
        clear hq
        go_wp2_with fail
        (go_at_call 38; refine (impl_SameDisk1 _ x _ y _ (by (try simp only [← Array.append_assoc]); (repeat (first | with_reducible exact HDX.out | with_reducible apply View.rdMerge | with_reducible apply View.rdExt | with_reducible apply View.rdAlloc | with_reducible apply View.rdDrew | with_reducible apply View.rdDrewN)); all_goals exact (0 : Nat)) (by (try simp only [← Array.append_assoc]); (repeat (first | with_reducible exact HDY.out | with_reducible apply View.rdMerge | with_reducible apply View.rdExt | with_reducible apply View.rdAlloc | with_reducible apply View.rdDrew | with_reducible apply View.rdDrewN)); all_goals exact (0 : Nat))).mono ?_; rintro e w' ⟨rfl, hb⟩; obtain ⟨X, rfl⟩ := hb.ext; clear hb)
        rw [HQ.out]
        go_wp2
        go_roundw
        case rel => exact ⟨n + 1, by go_num, by omega, (by repeat (first | with_reducible exact Below.refl _ _ | with_reducible apply Below.ofExt | with_reducible apply Below.ofAlloc | with_reducible apply Below.drew | with_reducible apply Below.ofDrewN | with_reducible assumption | (with_reducible refine Below.setCell ?_ (by first | exact Nat.le_refl _ | (simp [go_sem]; done) | (simp [go_sem]; omega)) _))), by rw [HST.out, HA.out, HQ.out]; rfl⟩
        case measure => simp [intOf]; omega
      | false =>
        have HQ := Lib.hid hq
        clear hq
        go_wp2_with fail
        (go_at_call 38; refine (impl_SameDisk1 _ x _ y _ (by (try simp only [← Array.append_assoc]); (repeat (first | with_reducible exact HDX.out | with_reducible apply View.rdMerge | with_reducible apply View.rdExt | with_reducible apply View.rdAlloc | with_reducible apply View.rdDrew | with_reducible apply View.rdDrewN)); all_goals exact (0 : Nat)) (by (try simp only [← Array.append_assoc]); (repeat (first | with_reducible exact HDY.out | with_reducible apply View.rdMerge | with_reducible apply View.rdExt | with_reducible apply View.rdAlloc | with_reducible apply View.rdDrew | with_reducible apply View.rdDrewN)); all_goals exact (0 : Nat))).mono ?_; rintro e w' ⟨rfl, hb⟩; obtain ⟨X, rfl⟩ := hb.ext; clear hb)
        rw [HQ.out]
        go_wp2
        go_ret
        exact ⟨by rw [sameL_all HL.out, all_take_false _ (xs.zip ys) (n + 1) (by rw [HST.out, HQ.out, Bool.and_false])]; rfl, (by repeat (first | with_reducible exact Below.refl _ _ | with_reducible apply Below.ofExt | with_reducible apply Below.ofAlloc | with_reducible apply Below.drew | with_reducible apply Below.ofDrewN | with_reducible assumption | (with_reducible refine Below.setCell ?_ (by first | exact Nat.le_refl _ | (simp [go_sem]; done) | (simp [go_sem]; omega)) _)))⟩
    case neg =>
      go_wp2
      go_ret
      have e : n = xs.length := by omega
      subst e
      have ha := HA.out
      rw [List.take_of_length_le (by rw [List.length_zip]; omega)] at ha
      exact ⟨by rw [sameL_all HL.out, ha]; rfl, (by repeat (first | with_reducible exact Below.refl _ _ | with_reducible apply Below.ofExt | with_reducible apply Below.ofAlloc | with_reducible apply Below.drew | with_reducible apply Below.ofDrewN | with_reducible assumption | (with_reducible refine Below.setCell ?_ (by first | exact Nat.le_refl _ | (simp [go_sem]; done) | (simp [go_sem]; omega)) _)))⟩
set_option maxHeartbeats 1000000 in
theorem impl_SameDisk (cs : List Value) (x : DiskD) (cs' : List Value) (y : DiskD) (w : World) (hs : vDisk.rd w cs x) (hs' : vDisk.rd w cs' y) :
    Calls Try.prog 21 #[.agg cs.toArray, .agg cs'.toArray] w fun e w' => e = .returned (.bool (sameDisk x y)) ∧ Below w.heap.size w w' := by
  obtain ⟨s0, rfl, h0, _⟩ := hs
  obtain ⟨t0, rfl, k0, _⟩ := hs'
  obtain ⟨a0, c0, rfl⟩ := vSlice.form h0
  obtain ⟨b0, g0, rfl⟩ := vSlice.form k0
  have H0 := Lib.hid h0
  have K0 := Lib.hid k0
  clear h0 k0
  have hq : sameDisk x y = sameDisk x y := rfl
  conv at hq => rhs; unfold sameDisk eqJour
  by_cases f0 : x.journal.text.toList = y.journal.text.toList
  case neg =>
    have g0 : (x.journal.text.toList == y.journal.text.toList) = false := by simp [f0]
    rw [g0, Bool.false_and, Bool.false_and] at hq
    rw [hq]
    clear hq
    go_enter Try.func21, Try.ntmps21
    go_wp2
    go_ret
    exact ⟨rfl, (by repeat (first | with_reducible exact Below.refl _ _ | with_reducible apply Below.ofExt | with_reducible apply Below.ofAlloc | with_reducible apply Below.drew | with_reducible apply Below.ofDrewN | with_reducible assumption | (with_reducible refine Below.setCell ?_ (by first | exact Nat.le_refl _ | (simp [go_sem]; done) | (simp [go_sem]; omega)) _)))⟩
  have g0 : (x.journal.text.toList == y.journal.text.toList) = true := by simp [f0]
  rw [g0, Bool.true_and] at hq
  by_cases f1 : x.journal.sure = y.journal.sure
  case neg =>
    have g1 : (x.journal.sure == y.journal.sure) = false := by simp [f1]
    rw [g1, Bool.false_and] at hq
    rw [hq]
    clear hq
    go_enter Try.func21, Try.ntmps21
    go_wp2
    go_ret
    exact ⟨rfl, (by repeat (first | with_reducible exact Below.refl _ _ | with_reducible apply Below.ofExt | with_reducible apply Below.ofAlloc | with_reducible apply Below.drew | with_reducible apply Below.ofDrewN | with_reducible assumption | (with_reducible refine Below.setCell ?_ (by first | exact Nat.le_refl _ | (simp [go_sem]; done) | (simp [go_sem]; omega)) _)))⟩
  have g1 : (x.journal.sure == y.journal.sure) = true := by simp [f1]
  rw [g1, Bool.true_and] at hq
  rw [hq]
  clear hq
  go_enter Try.func21, Try.ntmps21
  go_wp2_with fail
  (go_at_call 40; refine (slots_EqualFunc _ x.slots _ y.slots _ (by (try simp only [← Array.append_assoc]); (repeat (first | with_reducible exact H0.out | with_reducible apply View.rdMerge | with_reducible apply View.rdExt | with_reducible apply View.rdAlloc | with_reducible apply View.rdDrew | with_reducible apply View.rdDrewN)); all_goals exact (0 : Nat)) (by (try simp only [← Array.append_assoc]); (repeat (first | with_reducible exact K0.out | with_reducible apply View.rdMerge | with_reducible apply View.rdExt | with_reducible apply View.rdAlloc | with_reducible apply View.rdDrew | with_reducible apply View.rdDrewN)); all_goals exact (0 : Nat))).mono ?_; rintro e w' ⟨rfl, hb⟩; obtain ⟨X, rfl⟩ := hb.ext; clear hb)
  go_wp2
  go_ret
  exact ⟨rfl, (by repeat (first | with_reducible exact Below.refl _ _ | with_reducible apply Below.ofExt | with_reducible apply Below.ofAlloc | with_reducible apply Below.drew | with_reducible apply Below.ofDrewN | with_reducible assumption | (with_reducible refine Below.setCell ?_ (by first | exact Nat.le_refl _ | (simp [go_sem]; done) | (simp [go_sem]; omega)) _)))⟩
end Go.Proofs.Ytdelkphahpbegaa
