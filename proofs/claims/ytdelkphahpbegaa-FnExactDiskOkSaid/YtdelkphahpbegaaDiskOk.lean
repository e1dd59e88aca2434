/- Whether a disk is one: the program's and the reference's. Each condition stands in its theorem. -/
import Derived.Test.YtdelkphahpbegaaStoreOk
import Derived.Test.YtdelkphahpbegaaJourOk
import Derived.Test.YtdelkphahpbegaaBest
import Derived.Test.YtdelkphahpbegaaPairs
set_option linter.unusedVariables false
set_option linter.unusedSimpArgs false
namespace Go.Proofs.Ytdelkphahpbegaa
open Go.ChangeShapes Go.WideShapes Go.ChangeAt Go.RowKit

def slotOk (x : SlotD) : Bool := !x.whole || (inB x.seq 0 99999 && storeOk x.cells)
def diskOk (d : DiskD) : Bool := d.slots.all slotOk && (decide ((d.slots.length : Int) = 2) && (d.slots.any SlotD.whole && journalOk d.journal))
theorem bestUp_any' (ds : List SlotD) : ∀ n, n ≤ ds.length → decide (0 ≤ bestUp ds n) = (ds.take n).any SlotD.whole
  | 0, _ => by rw [bestUp]; rfl
  | n + 1, h => by
    have ih := bestUp_any' ds n (by omega)
    have hn : n < ds.length := by omega
    rw [bestUp_step ds n hn, List.take_succ_eq_append_getElem hn, List.any_append, ← ih]
    simp only [List.any_cons, List.any_nil, Bool.or_false]
    cases hw : ds[n].whole with
    | false => simp
    | true =>
      simp only [Bool.true_and, Bool.or_true]
      split
      · simp
      · next h =>
        simp only [Bool.or_eq_true, decide_eq_true_eq, not_or] at h
        simp
        omega
theorem bestUp_any (ds : List SlotD) : ds.any SlotD.whole = decide (0 ≤ bestUp ds ds.length) := by
  rw [bestUp_any' ds ds.length (Nat.le_refl _), List.take_length]
theorem diskOk_no (d : DiskD) (h : d.slots.all slotOk = false) : diskOk d = false := by unfold diskOk; rw [h]; rfl
set_option maxRecDepth 100000 in
set_option maxHeartbeats 2000000 in
theorem spec_DiskOk (cs : List Value) (d : DiskD) (w : World) (hs : vDisk.rd w cs d) :
    Calls Try.prog 22 #[.agg cs.toArray] w fun e w' => e = .returned (.bool (diskOk d)) ∧ Below w.heap.size w w' := by
  have HD := Lib.hid hs
  obtain ⟨s0, rfl, h0, z0⟩ := hs
  obtain ⟨ao, cap, rfl, hc1, hc2, hnil, hcell⟩ := vSlice.shape h0
  have HX := Lib.hid hcell
  clear hcell hnil h0
  unfold maxLen at hc2
  go_enter Try.func22, Try.ntmps22
  go_wp2
  go_loopw [3] (fun k wr => ∃ (n : Nat), k = .int .i64 n ∧ n ≤ d.slots.length ∧ Below (w.alloc (.cells #[.slice ao d.slots.length cap, .string d.journal.text, .int .i64 d.journal.sure] 32)).heap.size (w.alloc (.cells #[.slice ao d.slots.length cap, .string d.journal.text, .int .i64 d.journal.sure] 32)) wr ∧ (d.slots.take n).all slotOk = true) (fun k _ => d.slots.length - (intOf k).toNat)
  case atStart => exact ⟨0, rfl, by omega, Below.refl _ _, rfl⟩
  case round =>
    obtain ⟨n, rfl, hn, hbel, hall⟩ := hrel
    obtain ⟨X, rfl⟩ := hbel.ext
    have HA := Lib.hid hall
    clear hall
    by_cases hlt : (n : Int) < d.slots.length
    case pos =>
      have hk : n < d.slots.length := by omega
      obtain ⟨b, off, csx, rfl, hblx, hrdx, hcellx⟩ := HX.out n hk
      have hst := all_take_step slotOk d.slots n hk
      generalize d.slots[n] = x at hrdx hst
      have HST := Lib.hid hst
      clear hst
      obtain ⟨s1, rfl, hcl⟩ := hrdx
      obtain ⟨xa, xc, rfl⟩ := vSlice.form hcl
      have HC := Lib.hid hcl
      clear hcl
      have c0 := hcellx 0 _ rfl
      have c1 := hcellx 1 _ rfl
      have c2 := hcellx 2 _ rfl
      clear hcellx
      simp only [show vSlot.k = 3 from rfl, Nat.add_zero] at c0 c1 c2
      have q1 : b < w.heap.size + 1 := by omega
      have hq : slotOk x = slotOk x := rfl
      conv at hq => rhs; unfold slotOk
      cases hw : x.whole with
      | false =>
        rw [hw] at hq c2
        have HQ : Hid (slotOk x = true) := by show _ = _; rw [hq]; rfl
        clear hq hw
        go_wp2
        go_roundw
        case rel => exact ⟨n + 1, by go_num, by omega, (by repeat (first | with_reducible exact Below.refl _ _ | with_reducible apply Below.ofExt | with_reducible apply Below.ofAlloc | with_reducible apply Below.drew | with_reducible apply Below.ofDrewN | with_reducible assumption | (with_reducible refine Below.setCell ?_ (by first | exact Nat.le_refl _ | (simp [go_sem]; done) | (simp [go_sem]; omega)) _))), by rw [HST.out, HA.out, HQ.out]; rfl⟩
        case measure => simp [intOf]; omega
      | true =>
        rw [hw] at hq c2
        clear hw
        cases hi : inB x.seq 0 99999 with
        | false =>
          have HQ : Hid (slotOk x = false) := by show _ = _; rw [hq, hi]; rfl
          have HI := Lib.hid hi
          clear hq hi
          go_wp2_with fail
          (go_at_call 41; refine (spec_l01In _ _ _ _).mono ?_; rintro e w' ⟨rfl, rfl⟩)
          rw [HI.out]
          go_wp2
          go_ret
          exact ⟨by rw [diskOk_no _ (all_take_false _ d.slots (n + 1) (by rw [HST.out, HQ.out, Bool.and_false]))]; rfl, (by repeat (first | with_reducible exact Below.refl _ _ | with_reducible apply Below.ofExt | with_reducible apply Below.ofAlloc | with_reducible apply Below.drew | with_reducible apply Below.ofDrewN | with_reducible assumption | (with_reducible refine Below.setCell ?_ (by first | exact Nat.le_refl _ | (simp [go_sem]; done) | (simp [go_sem]; omega)) _)))⟩
        | true =>
          have HI := Lib.hid hi
          cases hs2 : storeOk x.cells with
          | false =>
            have HQ : Hid (slotOk x = false) := by show _ = _; rw [hq, hi, hs2]; rfl
            have HS := Lib.hid hs2
            clear hq hi hs2
            go_wp2_with fail
            (go_at_call 41; refine (spec_l01In _ _ _ _).mono ?_; rintro e w' ⟨rfl, rfl⟩)
            rw [HI.out]
            go_wp2_with fail
            (go_at_call 42; refine (spec_StoreOk _ x.cells _ (by (try simp only [← Array.append_assoc]); (repeat (first | with_reducible exact HC.out | with_reducible apply View.rdMerge | with_reducible apply View.rdExt | with_reducible apply View.rdAlloc | with_reducible apply View.rdDrew | with_reducible apply View.rdDrewN)); all_goals exact (0 : Nat))).mono ?_; rintro e w' ⟨rfl, hb⟩; obtain ⟨X, rfl⟩ := hb.ext; clear hb)
            rw [HS.out]
            go_wp2
            go_ret
            exact ⟨by rw [diskOk_no _ (all_take_false _ d.slots (n + 1) (by rw [HST.out, HQ.out, Bool.and_false]))]; rfl, (by repeat (first | with_reducible exact Below.refl _ _ | with_reducible apply Below.ofExt | with_reducible apply Below.ofAlloc | with_reducible apply Below.drew | with_reducible apply Below.ofDrewN | with_reducible assumption | (with_reducible refine Below.setCell ?_ (by first | exact Nat.le_refl _ | (simp [go_sem]; done) | (simp [go_sem]; omega)) _)))⟩
          | true =>
            have HQ : Hid (slotOk x = true) := by show _ = _; rw [hq, hi, hs2]; rfl
            have HS := Lib.hid hs2
            clear hq hi hs2
            go_wp2_with fail
            (go_at_call 41; refine (spec_l01In _ _ _ _).mono ?_; rintro e w' ⟨rfl, rfl⟩)
            rw [HI.out]
            go_wp2_with fail
            (go_at_call 42; refine (spec_StoreOk _ x.cells _ (by (try simp only [← Array.append_assoc]); (repeat (first | with_reducible exact HC.out | with_reducible apply View.rdMerge | with_reducible apply View.rdExt | with_reducible apply View.rdAlloc | with_reducible apply View.rdDrew | with_reducible apply View.rdDrewN)); all_goals exact (0 : Nat))).mono ?_; rintro e w' ⟨rfl, hb⟩; obtain ⟨X, rfl⟩ := hb.ext; clear hb)
            rw [HS.out]
            go_wp2
            go_roundw
            case rel => exact ⟨n + 1, by go_num, by omega, (by repeat (first | with_reducible exact Below.refl _ _ | with_reducible apply Below.ofExt | with_reducible apply Below.ofAlloc | with_reducible apply Below.drew | with_reducible apply Below.ofDrewN | with_reducible assumption | (with_reducible refine Below.setCell ?_ (by first | exact Nat.le_refl _ | (simp [go_sem]; done) | (simp [go_sem]; omega)) _))), by rw [HST.out, HA.out, HQ.out]; rfl⟩
            case measure => simp [intOf]; omega
    case neg =>
      have e : n = d.slots.length := by omega
      have ha := HA.out
      rw [e, List.take_length] at ha
      have hq : diskOk d = (decide ((d.slots.length : Int) = 2) && (decide (0 ≤ bestUp d.slots d.slots.length) && journalOk d.journal)) := by unfold diskOk; rw [ha, bestUp_any]; rfl
      clear ha
      by_cases h2 : (d.slots.length : Int) = 2
      case neg =>
        have HQ : Hid (diskOk d = false) := by show _ = _; rw [hq, decide_eq_false h2]; rfl
        clear hq
        have g2 : ((d.slots.length : Int) == 2) = false := by simp [h2]
        go_wp2
        go_ret
        exact ⟨by rw [HQ.out]; rfl, (by repeat (first | with_reducible exact Below.refl _ _ | with_reducible apply Below.ofExt | with_reducible apply Below.ofAlloc | with_reducible apply Below.drew | with_reducible apply Below.ofDrewN | with_reducible assumption | (with_reducible refine Below.setCell ?_ (by first | exact Nat.le_refl _ | (simp [go_sem]; done) | (simp [go_sem]; omega)) _)))⟩
      rw [decide_eq_true h2, Bool.true_and] at hq
      have g2 : ((d.slots.length : Int) == 2) = true := by simp [h2]
      clear h2
      by_cases h3 : 0 ≤ bestUp d.slots d.slots.length
      case neg =>
        have HQ : Hid (diskOk d = false) := by show _ = _; rw [hq, decide_eq_false h3]; rfl
        clear hq
        go_wp2_with fail
        (go_at_call 8; refine (spec_BestSlot _ d _ (by (try simp only [← Array.append_assoc]); (repeat (first | with_reducible exact HD.out | with_reducible apply View.rdMerge | with_reducible apply View.rdExt | with_reducible apply View.rdAlloc | with_reducible apply View.rdDrew | with_reducible apply View.rdDrewN)); all_goals exact (0 : Nat))).mono ?_; rintro e w' ⟨rfl, hb⟩; obtain ⟨X, rfl⟩ := hb.ext; clear hb)
        go_wp2
        go_ret
        exact ⟨by rw [HQ.out]; rfl, (by repeat (first | with_reducible exact Below.refl _ _ | with_reducible apply Below.ofExt | with_reducible apply Below.ofAlloc | with_reducible apply Below.drew | with_reducible apply Below.ofDrewN | with_reducible assumption | (with_reducible refine Below.setCell ?_ (by first | exact Nat.le_refl _ | (simp [go_sem]; done) | (simp [go_sem]; omega)) _)))⟩
      rw [decide_eq_true h3, Bool.true_and] at hq
      have HQ := Lib.hid hq
      clear hq
      go_wp2_with fail
      (go_at_call 8; refine (spec_BestSlot _ d _ (by (try simp only [← Array.append_assoc]); (repeat (first | with_reducible exact HD.out | with_reducible apply View.rdMerge | with_reducible apply View.rdExt | with_reducible apply View.rdAlloc | with_reducible apply View.rdDrew | with_reducible apply View.rdDrewN)); all_goals exact (0 : Nat))).mono ?_; rintro e w' ⟨rfl, hb⟩; obtain ⟨X, rfl⟩ := hb.ext; clear hb)
      go_wp2_with fail
      (go_at_call 43; refine (spec_JournalOk d.journal.text d.journal.sure _ z0).mono ?_; rintro e w' ⟨rfl, hb⟩; obtain ⟨X, rfl⟩ := hb.ext; clear hb)
      go_wp2
      go_ret
      exact ⟨by rw [HQ.out]; rfl, (by repeat (first | with_reducible exact Below.refl _ _ | with_reducible apply Below.ofExt | with_reducible apply Below.ofAlloc | with_reducible apply Below.drew | with_reducible apply Below.ofDrewN | with_reducible assumption | (with_reducible refine Below.setCell ?_ (by first | exact Nat.le_refl _ | (simp [go_sem]; done) | (simp [go_sem]; omega)) _)))⟩
set_option maxRecDepth 100000 in
set_option maxHeartbeats 2000000 in
theorem impl_DiskOk (cs : List Value) (d : DiskD) (w : World) (hs : vDisk.rd w cs d) :
    Calls Try.prog 23 #[.agg cs.toArray] w fun e w' => e = .returned (.bool (diskOk d)) ∧ Below w.heap.size w w' := by
  obtain ⟨s0, rfl, h0, z0⟩ := hs
  obtain ⟨ao, cap, rfl, hc1, hc2, hnil, hcell⟩ := vSlice.shape h0
  have HX := Lib.hid hcell
  clear hcell hnil h0
  unfold maxLen at hc2
  by_cases hl : d.slots.length = 2
  case neg =>
    have hq : diskOk d = false := by
      unfold diskOk
      rw [decide_eq_false (by omega)]
      simp
    rw [hq]
    clear hq
    have g1 : ((d.slots.length : Int) == 2) = false := by simp; omega
    have g2 : ((d.slots.length : Int) != 2) = true := by simp; omega
    have g3 : ¬ (d.slots.length : Int) = 2 := by omega
    go_enter Try.func23, Try.ntmps23
    go_wp2
    go_ret
    exact ⟨rfl, (by repeat (first | with_reducible exact Below.refl _ _ | with_reducible apply Below.ofExt | with_reducible apply Below.ofAlloc | with_reducible apply Below.drew | with_reducible apply Below.ofDrewN | with_reducible assumption | (with_reducible refine Below.setCell ?_ (by first | exact Nat.le_refl _ | (simp [go_sem]; done) | (simp [go_sem]; omega)) _)))⟩
  have hd2 : decide ((d.slots.length : Int) = 2) = true := decide_eq_true (by omega)
  have HD2 := Lib.hid hd2
  clear hd2
  have g1 : ((d.slots.length : Int) == 2) = true := by simp; omega
  have g2 : ((d.slots.length : Int) != 2) = false := by simp; omega
  have l0 : 0 < d.slots.length := by omega
  have l1 : 1 < d.slots.length := by omega
  have l2 : (1 : Int) < d.slots.length := by omega
  have l3 : (0 : Int) < d.slots.length := by omega
  obtain ⟨b, off, csx, rfl, hblx, hrdx, hcellx⟩ := HX.out 0 l0
  obtain ⟨b2, off2, csy, eb, hbly, hrdy, hcelly⟩ := HX.out 1 l1
  simp only [Option.some.injEq, Addr.mk.injEq, and_true] at eb
  obtain ⟨rfl, rfl⟩ := eb
  have hany : d.slots.any SlotD.whole = (d.slots[0].whole || d.slots[1].whole) := by
    have : d.slots = [d.slots[0], d.slots[1]] := by
      apply List.ext_getElem
      · simp [hl]
      · intro i h1 h2
        have : i = 0 ∨ i = 1 := by omega
        rcases this with rfl | rfl <;> rfl
    conv => lhs; rw [this]
    simp
  generalize d.slots[0] = x at hrdx hany
  generalize d.slots[1] = y at hrdy hany
  have HY := Lib.hid hany
  clear hany hl
  obtain ⟨xa, xc, rfl⟩ := vSlot_shape hrdx
  obtain ⟨ya, yc, rfl⟩ := vSlot_shape hrdy
  have c2 := hcellx 2 _ rfl
  have e2 := hcelly 2 _ rfl
  clear hcellx hcelly hrdx hrdy
  simp only [show vSlot.k = 3 from rfl, Nat.add_zero, Nat.zero_mul, Nat.one_mul] at c2 e2
  by_cases hw : x.whole = false ∧ y.whole = false
  case pos =>
    have hq : diskOk d = false := by
      unfold diskOk
      rw [HY.out, hw.1, hw.2]
      simp
    rw [hq]
    clear hq
    rw [hw.1] at c2
    rw [hw.2] at e2
    go_enter Try.func23, Try.ntmps23
    go_wp2
    go_ret
    exact ⟨rfl, (by repeat (first | with_reducible exact Below.refl _ _ | with_reducible apply Below.ofExt | with_reducible apply Below.ofAlloc | with_reducible apply Below.drew | with_reducible apply Below.ofDrewN | with_reducible assumption | (with_reducible refine Below.setCell ?_ (by first | exact Nat.le_refl _ | (simp [go_sem]; done) | (simp [go_sem]; omega)) _)))⟩
  have hq : diskOk d = (d.slots.all slotOk && journalOk d.journal) := by
    unfold diskOk
    have : (x.whole || y.whole) = true := by
      cases h1 : x.whole <;> cases h2 : y.whole <;> simp_all
    rw [HY.out, this, HD2.out]
    rfl
  have HQQ := Lib.hid hq
  clear hq HY
  have hc3 : (x.whole = true ∧ y.whole = true) ∨ (x.whole = true ∧ y.whole = false) ∨ (x.whole = false ∧ y.whole = true) := by
    cases h1 : x.whole <;> cases h2 : y.whole <;> simp_all
  rcases hc3 with ⟨hw1, hw2⟩ | ⟨hw1, hw2⟩ | ⟨hw1, hw2⟩
  all_goals
    rw [hw1] at c2
    rw [hw2] at e2
    clear hw hw1 hw2
    go_enter Try.func23, Try.ntmps23
    go_wp2
    go_loopw [28] (fun k wr => ∃ (n : Nat), k = .int .i64 n ∧ n ≤ d.slots.length ∧ Below (w.alloc (.cells #[.slice (some ⟨b, off, none⟩) d.slots.length cap, .string d.journal.text, .int .i64 d.journal.sure] 32)).heap.size (w.alloc (.cells #[.slice (some ⟨b, off, none⟩) d.slots.length cap, .string d.journal.text, .int .i64 d.journal.sure] 32)) wr ∧ (d.slots.take n).all slotOk = true) (fun k _ => d.slots.length - (intOf k).toNat)
    case atStart => exact ⟨0, rfl, by omega, Below.refl _ _, rfl⟩
    case round =>
      obtain ⟨n, rfl, hn, hbel, hall⟩ := hrel
      obtain ⟨X, rfl⟩ := hbel.ext
      have HA := Lib.hid hall
      clear hall
      by_cases hlt : (n : Int) < d.slots.length
      case pos =>
        have hk : n < d.slots.length := by omega
        obtain ⟨b3, off3, csx, eb, hblx, hrdx, hcellx⟩ := HX.out n hk
        simp only [Option.some.injEq, Addr.mk.injEq, and_true] at eb
        obtain ⟨rfl, rfl⟩ := eb
        have hst := all_take_step slotOk d.slots n hk
        generalize d.slots[n] = x at hrdx hst
        have HST := Lib.hid hst
        clear hst
        obtain ⟨s1, rfl, hcl⟩ := hrdx
        obtain ⟨xa, xc, rfl⟩ := vSlice.form hcl
        have HC := Lib.hid hcl
        clear hcl
        have c0 := hcellx 0 _ rfl
        have c1 := hcellx 1 _ rfl
        have c2 := hcellx 2 _ rfl
        clear hcellx
        simp only [show vSlot.k = 3 from rfl, Nat.add_zero] at c0 c1 c2
        have q1 : b < w.heap.size + 1 := by omega
        have hq : slotOk x = slotOk x := rfl
        conv at hq => rhs; unfold slotOk
        cases hw : x.whole with
        | false =>
          rw [hw] at hq c2
          have HQ : Hid (slotOk x = true) := by show _ = _; rw [hq]; rfl
          clear hq hw
          go_wp2
          go_roundw
          case rel => exact ⟨n + 1, by go_num, by omega, (by repeat (first | with_reducible exact Below.refl _ _ | with_reducible apply Below.ofExt | with_reducible apply Below.ofAlloc | with_reducible apply Below.drew | with_reducible apply Below.ofDrewN | with_reducible assumption | (with_reducible refine Below.setCell ?_ (by first | exact Nat.le_refl _ | (simp [go_sem]; done) | (simp [go_sem]; omega)) _))), by rw [HST.out, HA.out, HQ.out]; rfl⟩
          case measure => simp [intOf]; omega
        | true =>
          rw [hw] at hq c2
          clear hw
          cases hi : inB x.seq 0 99999 with
          | false =>
            have HQ : Hid (slotOk x = false) := by show _ = _; rw [hq, hi]; rfl
            have HI := Lib.hid hi
            clear hq hi
            go_wp2_with fail
            (go_at_call 44; refine (impl_within _ _ _ _).mono ?_; rintro e w' ⟨rfl, rfl⟩)
            rw [HI.out]
            go_wp2
            go_ret
            exact ⟨by rw [diskOk_no _ (all_take_false _ d.slots (n + 1) (by rw [HST.out, HQ.out, Bool.and_false]))]; rfl, (by repeat (first | with_reducible exact Below.refl _ _ | with_reducible apply Below.ofExt | with_reducible apply Below.ofAlloc | with_reducible apply Below.drew | with_reducible apply Below.ofDrewN | with_reducible assumption | (with_reducible refine Below.setCell ?_ (by first | exact Nat.le_refl _ | (simp [go_sem]; done) | (simp [go_sem]; omega)) _)))⟩
          | true =>
            have HI := Lib.hid hi
            cases hs2 : storeOk x.cells with
            | false =>
              have HQ : Hid (slotOk x = false) := by show _ = _; rw [hq, hi, hs2]; rfl
              have HS := Lib.hid hs2
              clear hq hi hs2
              go_wp2_with fail
              (go_at_call 44; refine (impl_within _ _ _ _).mono ?_; rintro e w' ⟨rfl, rfl⟩)
              rw [HI.out]
              go_wp2_with fail
              (go_at_call 45; refine (impl_StoreOk _ x.cells _ (by (try simp only [← Array.append_assoc]); (repeat (first | with_reducible exact HC.out | with_reducible apply View.rdMerge | with_reducible apply View.rdExt | with_reducible apply View.rdAlloc | with_reducible apply View.rdDrew | with_reducible apply View.rdDrewN)); all_goals exact (0 : Nat))).mono ?_; rintro e w' ⟨rfl, hb⟩; obtain ⟨X, rfl⟩ := hb.ext; clear hb)
              rw [HS.out]
              go_wp2
              go_ret
              exact ⟨by rw [diskOk_no _ (all_take_false _ d.slots (n + 1) (by rw [HST.out, HQ.out, Bool.and_false]))]; rfl, (by repeat (first | with_reducible exact Below.refl _ _ | with_reducible apply Below.ofExt | with_reducible apply Below.ofAlloc | with_reducible apply Below.drew | with_reducible apply Below.ofDrewN | with_reducible assumption | (with_reducible refine Below.setCell ?_ (by first | exact Nat.le_refl _ | (simp [go_sem]; done) | (simp [go_sem]; omega)) _)))⟩
            | true =>
              have HQ : Hid (slotOk x = true) := by show _ = _; rw [hq, hi, hs2]; rfl
              have HS := Lib.hid hs2
              clear hq hi hs2
              go_wp2_with fail
              (go_at_call 44; refine (impl_within _ _ _ _).mono ?_; rintro e w' ⟨rfl, rfl⟩)
              rw [HI.out]
              go_wp2_with fail
              (go_at_call 45; refine (impl_StoreOk _ x.cells _ (by (try simp only [← Array.append_assoc]); (repeat (first | with_reducible exact HC.out | with_reducible apply View.rdMerge | with_reducible apply View.rdExt | with_reducible apply View.rdAlloc | with_reducible apply View.rdDrew | with_reducible apply View.rdDrewN)); all_goals exact (0 : Nat))).mono ?_; rintro e w' ⟨rfl, hb⟩; obtain ⟨X, rfl⟩ := hb.ext; clear hb)
              rw [HS.out]
              go_wp2
              go_roundw
              case rel => exact ⟨n + 1, by go_num, by omega, (by repeat (first | with_reducible exact Below.refl _ _ | with_reducible apply Below.ofExt | with_reducible apply Below.ofAlloc | with_reducible apply Below.drew | with_reducible apply Below.ofDrewN | with_reducible assumption | (with_reducible refine Below.setCell ?_ (by first | exact Nat.le_refl _ | (simp [go_sem]; done) | (simp [go_sem]; omega)) _))), by rw [HST.out, HA.out, HQ.out]; rfl⟩
              case measure => simp [intOf]; omega
      case neg =>
        have e : n = d.slots.length := by omega
        have ha := HA.out
        rw [e, List.take_length] at ha
        have HQ : Hid (diskOk d = journalOk d.journal) := by show _ = _; rw [HQQ.out, ha]; rfl
        clear ha
        go_wp2_with fail
        (go_at_call 46; refine (impl_JournalOk d.journal.text d.journal.sure _ z0).mono ?_; rintro e w' ⟨rfl, hb⟩; obtain ⟨X, rfl⟩ := hb.ext; clear hb)
        go_wp2
        go_ret
        exact ⟨by rw [HQ.out]; rfl, (by repeat (first | with_reducible exact Below.refl _ _ | with_reducible apply Below.ofExt | with_reducible apply Below.ofAlloc | with_reducible apply Below.drew | with_reducible apply Below.ofDrewN | with_reducible assumption | (with_reducible refine Below.setCell ?_ (by first | exact Nat.le_refl _ | (simp [go_sem]; done) | (simp [go_sem]; omega)) _)))⟩
end Go.Proofs.Ytdelkphahpbegaa
