/- Whether a store is one: the program's and the reference's. Each condition stands in its theorem. -/
import Derived.Test.YtmhopglbgaijiaaKeyOk
import Derived.Test.YtmhopglbgaijiaaTCell
import Derived.Test.YtmhopglbgaijiaaPutLaw
set_option linter.unusedVariables false
set_option linter.unusedSimpArgs false
namespace Go.Proofs.Ytmhopglbgaijiaa
open Go.ChangeShapes Go.WideShapes Go.ChangeAt Go.RowKit

def prevLess (ds : List CellD) : Nat → ByteArray → Bool
  | 0, _ => true
  | j + 1, k => match ds[j]? with
    | none => true
    | some p => Op.bytesLess p.key.toList k.toList
theorem prevLess_at (ds : List CellD) (j : Nat) (k : ByteArray) (h : j < ds.length) : prevLess ds (j + 1) k = Op.bytesLess ds[j].key.toList k.toList := by
  simp only [prevLess, List.getElem?_eq_getElem h]
def stepOk (ds : List CellD) (i : Nat) : Bool := match ds[i]? with
  | none => true
  | some d => keyOk d.key && (inB (d.val.size : Int) 1 60 && prevLess ds i d.key)
theorem stepOk_at (ds : List CellD) (i : Nat) (h : i < ds.length) : stepOk ds i = (keyOk ds[i].key && (inB (ds[i].val.size : Int) 1 60 && prevLess ds i ds[i].key)) := by
  simp only [stepOk, List.getElem?_eq_getElem h]
def okUp (ds : List CellD) : Nat → Bool
  | 0 => true
  | n + 1 => okUp ds n && stepOk ds n
theorem okUp_succ (ds : List CellD) (n : Nat) : okUp ds (n + 1) = (okUp ds n && stepOk ds n) := rfl
def storeOk (ds : List CellD) : Bool := okUp ds ds.length && decide ((ds.length : Int) ≤ 900)
theorem okUp_mono (ds : List CellD) : ∀ (k n : Nat), okUp ds n = false → okUp ds (n + k) = false
  | 0, _, h => h
  | k + 1, n, h => by rw [← Nat.add_assoc, okUp_succ, okUp_mono ds k n h]; rfl
theorem stepOk_past (ds : List CellD) (n : Nat) (h : ds.length ≤ n) : stepOk ds n = true := by
  simp only [stepOk, List.getElem?_eq_none h]
theorem okUp_past (ds : List CellD) : ∀ k, okUp ds (ds.length + k) = okUp ds ds.length
  | 0 => rfl
  | k + 1 => by rw [← Nat.add_assoc, okUp_succ, okUp_past ds k, stepOk_past ds _ (by omega), Bool.and_true]
theorem storeOk_no (ds : List CellD) (n : Nat) (h : okUp ds n = false) : storeOk ds = false := by
  unfold storeOk
  have : okUp ds ds.length = false := by
    by_cases hl : n ≤ ds.length
    · have := okUp_mono ds (ds.length - n) n h
      rwa [show n + (ds.length - n) = ds.length by omega] at this
    · have := okUp_past ds (n - ds.length)
      rw [show ds.length + (n - ds.length) = n by omega, h] at this
      exact this.symm
  rw [this]
  rfl
set_option maxRecDepth 100000 in
set_option maxHeartbeats 4000000 in
theorem spec_StoreOk (v : Value) (ds : List CellD) (w : World) {e : TypeId} (hs : (vSlice vCell e).rd w [v] ds) :
    Calls Try.prog 28 #[v] w fun e w' => e = .returned (.bool (storeOk ds)) ∧ Below w.heap.size w w' := by
  obtain ⟨ao, cap, rfl, hc1, hc2, hnil, hcell⟩ := vSlice.shape hs
  have HX := Lib.hid hcell
  clear hcell hnil
  unfold maxLen at hc2
  clear hs
  go_enter Try.func28, Try.ntmps28
  go_wp2
  go_loopw [3] (fun k wr => ∃ (n : Nat), k = .int .i64 n ∧ n ≤ ds.length ∧ Below w.heap.size w wr ∧ okUp ds n = true) (fun k _ => ds.length - (intOf k).toNat)
  case atStart => exact ⟨0, rfl, by omega, (by repeat (first | with_reducible exact Below.refl _ _ | with_reducible apply Below.ofExt | with_reducible apply Below.ofAlloc | with_reducible apply Below.drew | with_reducible apply Below.ofDrewN | with_reducible assumption | (with_reducible refine Below.setCell ?_ (by first | exact Nat.le_refl _ | (simp [go_sem]; done) | (simp [go_sem]; omega)) _))), rfl⟩
  case round =>
    obtain ⟨n, rfl, hn, hbel, hall⟩ := hrel
    obtain ⟨X, rfl⟩ := hbel.ext
    have HA := Lib.hid hall
    clear hall
    by_cases hlt : (n : Int) < ds.length
    case pos =>
      have hk : n < ds.length := by omega
      have hst := stepOk_at ds n hk
      obtain ⟨b, off, csy, rfl, hbly, hrdy, hcelly⟩ := HX.out n hk
      generalize ds[n] = d at hrdy hst
      obtain ⟨rfl, hoky⟩ := hrdy
      obtain ⟨dk, dv⟩ := d
      have y0 := hcelly 0 _ rfl
      have y1 := hcelly 1 _ rfl
      clear hcelly
      simp only [show vCell.k = 2 from rfl, Nat.add_zero] at y0 y1
      have hz1 : dk.size ≤ 9223372036854775807 := hoky.1
      have hz2 : dv.size ≤ 9223372036854775807 := hoky.2
      clear hoky
      simp only at hst
      cases hkk : keyOk dk with
      | false =>
        rw [hkk, Bool.false_and] at hst
        have HS := Lib.hid hst
        have HK := Lib.hid hkk
        have CI : Hid True := trivial
        clear hst hkk
        have CK : Hid (∀ W : World, Calls Try.prog 50 #[.string dk] W fun e w' => e = .returned (.bool false) ∧ w' = W) := fun W => (spec_KeyOk dk W hz1).mono fun e w' h => ⟨by rw [h.1, HK.out], h.2⟩
        go_wp2
        go_quiet ((go_at_call 50; (first | exact Calls.quiet_of_same (CK.out _) | exact quietE (CK.out _))))
        go_wp2
        go_ret
        exact ⟨by rw [storeOk_no ds (n + 1) (by rw [okUp_succ, HS.out, Bool.and_false])]; rfl, (by repeat (first | with_reducible exact Below.refl _ _ | with_reducible apply Below.ofExt | with_reducible apply Below.ofAlloc | with_reducible apply Below.drew | with_reducible apply Below.ofDrewN | with_reducible assumption | (with_reducible refine Below.setCell ?_ (by first | exact Nat.le_refl _ | (simp [go_sem]; done) | (simp [go_sem]; omega)) _)))⟩
      | true =>
        rw [hkk, Bool.true_and] at hst
        have HK := Lib.hid hkk
        clear hkk
        have CK : Hid (∀ W : World, Calls Try.prog 50 #[.string dk] W fun e w' => e = .returned (.bool true) ∧ w' = W) := fun W => (spec_KeyOk dk W hz1).mono fun e w' h => ⟨by rw [h.1, HK.out], h.2⟩
        cases hii : inB (dv.size : Int) 1 60 with
        | false =>
          rw [hii, Bool.false_and] at hst
          have HS := Lib.hid hst
          have HI := Lib.hid hii
          clear hst hii
          have CI : Hid (∀ W : World, Calls Try.prog 51 #[.int .i64 (dv.size : Int), .int .i64 1, .int .i64 60] W fun e w' => e = .returned (.bool false) ∧ w' = W) := fun W => (spec_l01In _ _ _ W).mono fun e w' h => ⟨by rw [h.1, HI.out], h.2⟩
          go_wp2
          go_quiet ((first | ((go_at_call 50); (first | exact Calls.quiet_of_same (CK.out _) | exact quietE (CK.out _))) | ((go_at_call 51); (first | exact Calls.quiet_of_same (CI.out _) | exact quietE (CI.out _)))))
          go_wp2
          go_ret
          exact ⟨by rw [storeOk_no ds (n + 1) (by rw [okUp_succ, HS.out, Bool.and_false])]; rfl, (by repeat (first | with_reducible exact Below.refl _ _ | with_reducible apply Below.ofExt | with_reducible apply Below.ofAlloc | with_reducible apply Below.drew | with_reducible apply Below.ofDrewN | with_reducible assumption | (with_reducible refine Below.setCell ?_ (by first | exact Nat.le_refl _ | (simp [go_sem]; done) | (simp [go_sem]; omega)) _)))⟩
        | true =>
          rw [hii, Bool.true_and] at hst
          have HI := Lib.hid hii
          clear hii
          have CI : Hid (∀ W : World, Calls Try.prog 51 #[.int .i64 (dv.size : Int), .int .i64 1, .int .i64 60] W fun e w' => e = .returned (.bool true) ∧ w' = W) := fun W => (spec_l01In _ _ _ W).mono fun e w' h => ⟨by rw [h.1, HI.out], h.2⟩
          by_cases hn0 : 0 < (n : Int)
          case neg =>
            have hp : prevLess ds n dk = true := by rw [show n = 0 by omega]; rfl
            have hd1 : decide (0 < (n : Int)) = false := decide_eq_false hn0
            have hd2 : decide (0 < n) = false := decide_eq_false (by omega)
            rw [hp] at hst
            have HS := Lib.hid hst
            clear hst hp
            go_wp2
            go_quiet ((first | ((go_at_call 50); (first | exact Calls.quiet_of_same (CK.out _) | exact quietE (CK.out _))) | ((go_at_call 51); (first | exact Calls.quiet_of_same (CI.out _) | exact quietE (CI.out _)))))
            go_wp2
            go_roundw
            case rel => exact ⟨n + 1, by go_num, by omega, (by repeat (first | with_reducible exact Below.refl _ _ | with_reducible apply Below.ofExt | with_reducible apply Below.ofAlloc | with_reducible apply Below.drew | with_reducible apply Below.ofDrewN | with_reducible assumption | (with_reducible refine Below.setCell ?_ (by first | exact Nat.le_refl _ | (simp [go_sem]; done) | (simp [go_sem]; omega)) _))), by rw [okUp_succ, HA.out, HS.out, Bool.and_true]⟩
            case measure => simp [intOf]; omega
          case pos =>
            obtain ⟨j, rfl⟩ : ∃ j, n = j + 1 := ⟨n - 1, by omega⟩
            have hj : j < ds.length := by omega
            have hg : prevLess ds (j + 1) dk = Op.bytesLess ds[j].key.toList dk.toList := prevLess_at ds j dk hj
            rw [hg] at hst
            clear hg
            obtain ⟨b2, off2, csz, eb, hblz, hrdz, hcellz⟩ := HX.out j hj
            simp only [Option.some.injEq, Addr.mk.injEq, and_true] at eb
            obtain ⟨rfl, rfl⟩ := eb
            generalize ds[j] = p at hrdz hst
            obtain ⟨rfl, hokz⟩ := hrdz
            obtain ⟨pk, pv⟩ := p
            have z0 := hcellz 0 _ rfl
            have z1 := hcellz 1 _ rfl
            clear hcellz
            simp only [show vCell.k = 2 from rfl, Nat.add_zero] at z0 z1
            clear hokz
            simp only at hst
            cases hl0 : Op.bytesLess pk.toList dk.toList with
            | false =>
              rw [hl0] at hst
              have HS := Lib.hid hst
              have HL := Lib.hid hl0
              clear hst hl0
              have hl : Op.bytesLess pk.toList dk.toList = false := HL.out
              go_wp2
              go_quiet ((first | ((go_at_call 50); (first | exact Calls.quiet_of_same (CK.out _) | exact quietE (CK.out _))) | ((go_at_call 51); (first | exact Calls.quiet_of_same (CI.out _) | exact quietE (CI.out _)))))
              go_wp2
              go_ret
              exact ⟨by rw [storeOk_no ds (j + 1 + 1) (by rw [okUp_succ, HS.out, Bool.and_false])]; rfl, (by repeat (first | with_reducible exact Below.refl _ _ | with_reducible apply Below.ofExt | with_reducible apply Below.ofAlloc | with_reducible apply Below.drew | with_reducible apply Below.ofDrewN | with_reducible assumption | (with_reducible refine Below.setCell ?_ (by first | exact Nat.le_refl _ | (simp [go_sem]; done) | (simp [go_sem]; omega)) _)))⟩
            | true =>
              rw [hl0] at hst
              have HS := Lib.hid hst
              have HL := Lib.hid hl0
              clear hst hl0
              have hl : Op.bytesLess pk.toList dk.toList = true := HL.out
              go_wp2
              go_quiet ((first | ((go_at_call 50); (first | exact Calls.quiet_of_same (CK.out _) | exact quietE (CK.out _))) | ((go_at_call 51); (first | exact Calls.quiet_of_same (CI.out _) | exact quietE (CI.out _)))))
              go_wp2
              go_roundw
              case rel => exact ⟨j + 1 + 1, by go_num, by omega, (by repeat (first | with_reducible exact Below.refl _ _ | with_reducible apply Below.ofExt | with_reducible apply Below.ofAlloc | with_reducible apply Below.drew | with_reducible apply Below.ofDrewN | with_reducible assumption | (with_reducible refine Below.setCell ?_ (by first | exact Nat.le_refl _ | (simp [go_sem]; done) | (simp [go_sem]; omega)) _))), by rw [okUp_succ, HA.out, HS.out, Bool.and_true]⟩
              case measure => simp [intOf]; omega
    case neg =>
      have e : n = ds.length := by omega
      have hf : storeOk ds = decide ((ds.length : Int) ≤ 900) := by
        unfold storeOk
        rw [← e, HA.out, e]
        rfl
      have HF := Lib.hid hf
      clear hf
      go_wp2
      go_ret
      exact ⟨by rw [HF.out]; rfl, (by repeat (first | with_reducible exact Below.refl _ _ | with_reducible apply Below.ofExt | with_reducible apply Below.ofAlloc | with_reducible apply Below.drew | with_reducible apply Below.ofDrewN | with_reducible assumption | (with_reducible refine Below.setCell ?_ (by first | exact Nat.le_refl _ | (simp [go_sem]; done) | (simp [go_sem]; omega)) _)))⟩
end Go.Proofs.Ytmhopglbgaijiaa
