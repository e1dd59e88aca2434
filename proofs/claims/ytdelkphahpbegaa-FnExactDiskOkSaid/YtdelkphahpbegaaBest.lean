/- The best slot of a disk: the program's and the reference's. Each condition stands in its theorem. -/
import Derived.Test.YtdelkphahpbegaaCDisk
set_option linter.unusedVariables false
set_option linter.unusedSimpArgs false
namespace Go.Proofs.Ytdelkphahpbegaa
open Go.ChangeShapes Go.WideShapes Go.ChangeAt Go.RowKit

def seqAt (ds : List SlotD) (i : Int) : Int := ((ds[i.toNat]?).map SlotD.seq).getD 0
theorem seqAt_get (ds : List SlotD) (j : Nat) (h : j < ds.length) : seqAt ds (j : Int) = ds[j].seq := by
  unfold seqAt
  rw [Int.toNat_natCast, List.getElem?_eq_getElem h]
  rfl
def bestUp (ds : List SlotD) : Nat → Int
  | 0 => -1
  | n + 1 => match ds[n]? with
    | none => bestUp ds n
    | some d => if d.whole && (decide (bestUp ds n < 0) || decide (seqAt ds (bestUp ds n) < d.seq)) then n else bestUp ds n
theorem bestUp_step (ds : List SlotD) (n : Nat) (h : n < ds.length) : bestUp ds (n + 1) = if ds[n].whole && (decide (bestUp ds n < 0) || decide (seqAt ds (bestUp ds n) < ds[n].seq)) then (n : Int) else bestUp ds n := by
  conv => lhs; unfold bestUp
  rw [List.getElem?_eq_getElem h]
theorem bestUp_lo (ds : List SlotD) : ∀ n, -1 ≤ bestUp ds n
  | 0 => by unfold bestUp; omega
  | n + 1 => by
    have := bestUp_lo ds n
    unfold bestUp
    split
    · exact this
    · split <;> omega
theorem bestUp_hi (ds : List SlotD) : ∀ n, bestUp ds n < n
  | 0 => by unfold bestUp; omega
  | n + 1 => by
    have := bestUp_hi ds n
    unfold bestUp
    split
    · omega
    · split <;> omega
set_option maxRecDepth 100000 in
set_option maxHeartbeats 2000000 in
theorem spec_BestSlot (cs : List Value) (d : DiskD) (w : World) (hs : vDisk.rd w cs d) :
    Calls Try.prog 8 #[.agg cs.toArray] w fun e w' => e = .returned (.int .i64 (bestUp d.slots d.slots.length)) ∧ Below w.heap.size w w' := by
  obtain ⟨s0, rfl, h0, z0⟩ := hs
  obtain ⟨ao, cap, rfl, hc1, hc2, hnil, hcell⟩ := vSlice.shape h0
  have HX := Lib.hid hcell
  clear hcell hnil h0
  unfold maxLen at hc2
  go_enter Try.func8, Try.ntmps8
  go_wp2
  go_loopw [3, 4] (fun g k wr => ∃ (n : Nat) (m : Int), k = .int .i64 n ∧ n ≤ d.slots.length ∧ Below (w.alloc (.cells #[.slice ao d.slots.length cap, .string d.journal.text, .int .i64 d.journal.sure] 32)).heap.size (w.alloc (.cells #[.slice ao d.slots.length cap, .string d.journal.text, .int .i64 d.journal.sure] 32)) wr ∧ g = .int .i64 m ∧ m = bestUp d.slots n) (fun _ k _ => d.slots.length - (intOf k).toNat)
  case atStart => exact ⟨0, -1, rfl, by omega, Below.refl _ _, rfl, rfl⟩
  case round =>
    obtain ⟨n, m, rfl, hn, hbel, rfl, hmx⟩ := hrel
    obtain ⟨X, rfl⟩ := hbel.ext
    have hlo := bestUp_lo d.slots n
    have hhi := bestUp_hi d.slots n
    rw [← hmx] at hlo hhi
    have HM := Lib.hid hmx
    clear hmx
    by_cases hlt : (n : Int) < d.slots.length
    · have hk : n < d.slots.length := by omega
      obtain ⟨b, off, csx, rfl, hbly, hrd, hcell⟩ := HX.out n hk
      have hst := bestUp_step d.slots n hk
      generalize d.slots[n] = e at hrd hst
      have HD := Lib.hid hrd
      obtain ⟨sa, sc, rfl⟩ := vSlot_shape hrd
      clear hrd
      have y0 := hcell 0 _ rfl
      have y1 := hcell 1 _ rfl
      have y2 := hcell 2 _ rfl
      clear hcell
      simp only [show vSlot.k = 3 from rfl, Nat.add_zero] at y0 y1 y2
      rw [← HM.out] at hst
      have HS := Lib.hid hst
      clear hst
      cases hw : e.whole with
      | false =>
        have HW := Lib.hid hw
        rw [hw] at y2
        clear hw
        go_wp2
        go_quiet (fail)
        go_wp2
        go_roundw
        case rel => exact ⟨n + 1, _, by go_num, by omega, (by repeat (first | with_reducible exact Below.refl _ _ | with_reducible apply Below.ofExt | with_reducible apply Below.ofAlloc | with_reducible apply Below.drew | with_reducible apply Below.ofDrewN | with_reducible assumption | (with_reducible refine Below.setCell ?_ (by first | exact Nat.le_refl _ | (simp [go_sem]; done) | (simp [go_sem]; omega)) _))), rfl, by rw [HS.out]; rw [HW.out]; rfl⟩
        case measure => simp [intOf]; omega
      | true =>
        have HW := Lib.hid hw
        rw [hw] at y2
        clear hw
        by_cases hb : m < 0
        · have hm1 : m = -1 := by omega
          have HB : Hid (decide (m < 0) = true) := by show decide (m < 0) = true; simp [hb]
          clear hlo hhi hb
          subst hm1
          go_wp2
          go_quiet (fail)
          go_wp2
          go_roundw
          case rel => exact ⟨n + 1, _, by go_num, by omega, (by repeat (first | with_reducible exact Below.refl _ _ | with_reducible apply Below.ofExt | with_reducible apply Below.ofAlloc | with_reducible apply Below.drew | with_reducible apply Below.ofDrewN | with_reducible assumption | (with_reducible refine Below.setCell ?_ (by first | exact Nat.le_refl _ | (simp [go_sem]; done) | (simp [go_sem]; omega)) _))), rfl, by rw [HS.out]; rw [HW.out, HB.out]; rfl⟩
          case measure => simp [intOf]; omega
        · obtain ⟨j, rfl⟩ : ∃ j : Nat, m = j := ⟨m.toNat, by omega⟩
          have HB : Hid (decide ((j : Int) < 0) = false) := by exact decide_eq_false hb
          have hj : j < d.slots.length := by omega
          obtain ⟨b2, off2, csy, eb, hbl2, hrd2, hcell2⟩ := HX.out j hj
          simp only [Option.some.injEq, Addr.mk.injEq, and_true] at eb
          obtain ⟨rfl, rfl⟩ := eb
          have hsq : seqAt d.slots ((j : Nat) : Int) = d.slots[j].seq := seqAt_get _ _ _
          generalize d.slots[j] = dj at hrd2 hsq
          obtain ⟨aj, cj, rfl⟩ := vSlot_shape hrd2
          clear hrd2
          have z0 := hcell2 0 _ rfl
          have z1 := hcell2 1 _ rfl
          have z2 := hcell2 2 _ rfl
          clear hcell2
          simp only [show vSlot.k = 3 from rfl, Nat.add_zero] at z0 z1 z2
          have HQ := Lib.hid hsq
          have hb1 : b < w.heap.size + 1 + X.bs.size := by omega
          have hb2 : ¬ b = w.heap.size + 1 + X.bs.size := by omega
          have hb3 : b < w.heap.size + 1 := by omega
          clear hsq
          by_cases hg : dj.seq < e.seq
          · have HG : Hid (decide (dj.seq < e.seq) = true) := decide_eq_true hg
            go_wp2
            go_quiet (fail)
            go_wp2
            go_roundw
            case rel => exact ⟨n + 1, _, by go_num, by omega, (by repeat (first | with_reducible exact Below.refl _ _ | with_reducible apply Below.ofExt | with_reducible apply Below.ofAlloc | with_reducible apply Below.drew | with_reducible apply Below.ofDrewN | with_reducible assumption | (with_reducible refine Below.setCell ?_ (by first | exact Nat.le_refl _ | (simp [go_sem]; done) | (simp [go_sem]; omega)) _))), rfl, by rw [HS.out]; rw [HW.out, HB.out, HQ.out, HG.out]; rfl⟩
            case measure => simp [intOf]; omega
          · have HG : Hid (decide (dj.seq < e.seq) = false) := decide_eq_false hg
            go_wp2
            go_quiet (fail)
            go_wp2
            go_roundw
            case rel => exact ⟨n + 1, _, by go_num, by omega, (by repeat (first | with_reducible exact Below.refl _ _ | with_reducible apply Below.ofExt | with_reducible apply Below.ofAlloc | with_reducible apply Below.drew | with_reducible apply Below.ofDrewN | with_reducible assumption | (with_reducible refine Below.setCell ?_ (by first | exact Nat.le_refl _ | (simp [go_sem]; done) | (simp [go_sem]; omega)) _))), rfl, by rw [HS.out]; rw [HW.out, HB.out, HQ.out, HG.out]; rfl⟩
            case measure => simp [intOf]; omega
    · go_wp2
      go_ret
      have e : n = d.slots.length := by omega
      subst e
      exact ⟨by rw [← HM.out]; rfl, Below.then (by repeat (first | with_reducible exact Below.refl _ _ | with_reducible apply Below.ofExt | with_reducible apply Below.ofAlloc | with_reducible apply Below.drew | with_reducible apply Below.ofDrewN | with_reducible assumption | (with_reducible refine Below.setCell ?_ (by first | exact Nat.le_refl _ | (simp [go_sem]; done) | (simp [go_sem]; omega)) _))) hbel⟩
set_option maxRecDepth 100000 in
set_option maxHeartbeats 2000000 in
theorem impl_BestSlot (cs : List Value) (d : DiskD) (w : World) (hs : vDisk.rd w cs d) :
    Calls Try.prog 10 #[.agg cs.toArray] w fun e w' => e = .returned (.int .i64 (bestUp d.slots d.slots.length)) ∧ Below w.heap.size w w' := by
  obtain ⟨s0, rfl, h0, z0⟩ := hs
  obtain ⟨ao, cap, rfl, hc1, hc2, hnil, hcell⟩ := vSlice.shape h0
  have HX := Lib.hid hcell
  clear hcell hnil h0
  unfold maxLen at hc2
  go_enter Try.func10, Try.ntmps10
  go_wp2
  go_loopw [3, 9] (fun g k wr => ∃ (n : Nat) (m : Int), k = .int .i64 n ∧ n ≤ d.slots.length ∧ Below (w.alloc (.cells #[.slice ao d.slots.length cap, .string d.journal.text, .int .i64 d.journal.sure] 32)).heap.size (w.alloc (.cells #[.slice ao d.slots.length cap, .string d.journal.text, .int .i64 d.journal.sure] 32)) wr ∧ g = .int .i64 m ∧ m = bestUp d.slots n) (fun _ k _ => d.slots.length - (intOf k).toNat)
  case atStart => exact ⟨0, -1, rfl, by omega, Below.refl _ _, rfl, rfl⟩
  case round =>
    obtain ⟨n, m, rfl, hn, hbel, rfl, hmx⟩ := hrel
    obtain ⟨X, rfl⟩ := hbel.ext
    have hlo := bestUp_lo d.slots n
    have hhi := bestUp_hi d.slots n
    rw [← hmx] at hlo hhi
    have HM := Lib.hid hmx
    clear hmx
    by_cases hlt : (n : Int) < d.slots.length
    · have hk : n < d.slots.length := by omega
      obtain ⟨b, off, csx, rfl, hbly, hrd, hcell⟩ := HX.out n hk
      have hst := bestUp_step d.slots n hk
      generalize d.slots[n] = e at hrd hst
      have HD := Lib.hid hrd
      obtain ⟨sa, sc, rfl⟩ := vSlot_shape hrd
      clear hrd
      have y0 := hcell 0 _ rfl
      have y1 := hcell 1 _ rfl
      have y2 := hcell 2 _ rfl
      clear hcell
      simp only [show vSlot.k = 3 from rfl, Nat.add_zero] at y0 y1 y2
      rw [← HM.out] at hst
      have HS := Lib.hid hst
      clear hst
      cases hw : e.whole with
      | false =>
        have HW := Lib.hid hw
        rw [hw] at y2
        clear hw
        go_wp2
        go_quiet (fail)
        go_wp2
        go_roundw
        case rel => exact ⟨n + 1, _, by go_num, by omega, (by repeat (first | with_reducible exact Below.refl _ _ | with_reducible apply Below.ofExt | with_reducible apply Below.ofAlloc | with_reducible apply Below.drew | with_reducible apply Below.ofDrewN | with_reducible assumption | (with_reducible refine Below.setCell ?_ (by first | exact Nat.le_refl _ | (simp [go_sem]; done) | (simp [go_sem]; omega)) _))), rfl, by rw [HS.out]; rw [HW.out]; rfl⟩
        case measure => simp [intOf]; omega
      | true =>
        have HW := Lib.hid hw
        rw [hw] at y2
        clear hw
        by_cases hb : m < 0
        · have hm1 : m = -1 := by omega
          have HB : Hid (decide (m < 0) = true) := by show decide (m < 0) = true; simp [hb]
          clear hlo hhi hb
          subst hm1
          go_wp2
          go_quiet (fail)
          go_wp2
          go_roundw
          case rel => exact ⟨n + 1, _, by go_num, by omega, (by repeat (first | with_reducible exact Below.refl _ _ | with_reducible apply Below.ofExt | with_reducible apply Below.ofAlloc | with_reducible apply Below.drew | with_reducible apply Below.ofDrewN | with_reducible assumption | (with_reducible refine Below.setCell ?_ (by first | exact Nat.le_refl _ | (simp [go_sem]; done) | (simp [go_sem]; omega)) _))), rfl, by rw [HS.out]; rw [HW.out, HB.out]; rfl⟩
          case measure => simp [intOf]; omega
        · obtain ⟨j, rfl⟩ : ∃ j : Nat, m = j := ⟨m.toNat, by omega⟩
          have HB : Hid (decide ((j : Int) < 0) = false) := by exact decide_eq_false hb
          have hj : j < d.slots.length := by omega
          obtain ⟨b2, off2, csy, eb, hbl2, hrd2, hcell2⟩ := HX.out j hj
          simp only [Option.some.injEq, Addr.mk.injEq, and_true] at eb
          obtain ⟨rfl, rfl⟩ := eb
          have hsq : seqAt d.slots ((j : Nat) : Int) = d.slots[j].seq := seqAt_get _ _ _
          generalize d.slots[j] = dj at hrd2 hsq
          obtain ⟨aj, cj, rfl⟩ := vSlot_shape hrd2
          clear hrd2
          have z0 := hcell2 0 _ rfl
          have z1 := hcell2 1 _ rfl
          have z2 := hcell2 2 _ rfl
          clear hcell2
          simp only [show vSlot.k = 3 from rfl, Nat.add_zero] at z0 z1 z2
          have HQ := Lib.hid hsq
          have hb1 : b < w.heap.size + 1 + X.bs.size := by omega
          have hb2 : ¬ b = w.heap.size + 1 + X.bs.size := by omega
          have hb3 : b < w.heap.size + 1 := by omega
          clear hsq
          by_cases hg : dj.seq < e.seq
          · have HG : Hid (decide (dj.seq < e.seq) = true) := decide_eq_true hg
            go_wp2
            go_quiet (fail)
            go_wp2
            go_roundw
            case rel => exact ⟨n + 1, _, by go_num, by omega, (by repeat (first | with_reducible exact Below.refl _ _ | with_reducible apply Below.ofExt | with_reducible apply Below.ofAlloc | with_reducible apply Below.drew | with_reducible apply Below.ofDrewN | with_reducible assumption | (with_reducible refine Below.setCell ?_ (by first | exact Nat.le_refl _ | (simp [go_sem]; done) | (simp [go_sem]; omega)) _))), rfl, by rw [HS.out]; rw [HW.out, HB.out, HQ.out, HG.out]; rfl⟩
            case measure => simp [intOf]; omega
          · have HG : Hid (decide (dj.seq < e.seq) = false) := decide_eq_false hg
            go_wp2
            go_quiet (fail)
            go_wp2
            go_roundw
            case rel => exact ⟨n + 1, _, by go_num, by omega, (by repeat (first | with_reducible exact Below.refl _ _ | with_reducible apply Below.ofExt | with_reducible apply Below.ofAlloc | with_reducible apply Below.drew | with_reducible apply Below.ofDrewN | with_reducible assumption | (with_reducible refine Below.setCell ?_ (by first | exact Nat.le_refl _ | (simp [go_sem]; done) | (simp [go_sem]; omega)) _))), rfl, by rw [HS.out]; rw [HW.out, HB.out, HQ.out, HG.out]; rfl⟩
            case measure => simp [intOf]; omega
    · go_wp2
      go_ret
      have e : n = d.slots.length := by omega
      subst e
      exact ⟨by rw [← HM.out]; rfl, Below.then (by repeat (first | with_reducible exact Below.refl _ _ | with_reducible apply Below.ofExt | with_reducible apply Below.ofAlloc | with_reducible apply Below.drew | with_reducible apply Below.ofDrewN | with_reducible assumption | (with_reducible refine Below.setCell ?_ (by first | exact Nat.le_refl _ | (simp [go_sem]; done) | (simp [go_sem]; omega)) _))) hbel⟩
end Go.Proofs.Ytdelkphahpbegaa
