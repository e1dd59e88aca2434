/- Whether a text is a key: the program's and the reference's. Each condition stands in its theorem. -/
import Derived.Test.YtedgenmbdjadkaaGreatDoorIn
set_option linter.unusedVariables false
set_option linter.unusedSimpArgs false
namespace Go.Proofs.YtedgenmbdjadkaaGreatDoor
open Go.ChangeShapes Go.WideShapes Go.ChangeAt Go.RowKit

def okByte (c : UInt8) : Bool := inB (c.toNat : Int) 33 126 && !((c.toNat : Int) == 42)
def keyOk (s : ByteArray) : Bool := s.data.toList.all okByte && inB (s.size : Int) 1 40
theorem keyOk_no (s : ByteArray) (n : Nat) (h : (s.data.toList.take n).all okByte = false) : keyOk s = false := by
  unfold keyOk
  have : s.data.toList.all okByte = false := by
    cases hp : s.data.toList.all okByte with
    | false => rfl
    | true =>
      rw [List.all_eq_true] at hp
      have : (s.data.toList.take n).all okByte = true := by
        rw [List.all_eq_true]
        exact fun x hx => hp x (List.mem_of_mem_take hx)
      rw [this] at h
      cases h
  rw [this]
  rfl
set_option maxRecDepth 100000 in
theorem spec_KeyOk (s : ByteArray) (w : World) (hs : s.size ≤ 9223372036854775807) :
    Calls Tryz.prog 48 #[.string s] w fun e w' => e = .returned (.bool (keyOk s)) ∧ w' = w := by
  go_enter Tryz.func48, Tryz.ntmps48
  go_wp2
  go_loopw [3] (fun k wr => ∃ (n : Nat), k = .int .i64 n ∧ n ≤ s.size ∧ wr = w ∧ (s.data.toList.take n).all okByte = true) (fun k _ => s.size - (intOf k).toNat)
  case atStart => exact ⟨0, rfl, by omega, rfl, rfl⟩
  case round =>
    obtain ⟨n, rfl, hn, rfl, hall⟩ := hrel
    have HA := Lib.hid hall
    clear hall
    by_cases hlt : (n : Int) < s.size
    case pos =>
      have hk : n < s.size := by omega
      have hst := take_snoc s n hk
      have HS := Lib.hid hst
      clear hst
      have hc0 : 0 ≤ (s[n].toNat : Int) := by omega
      have hc1 : (s[n].toNat : Int) ≤ 255 := by have := s[n].toNat_lt; omega
      have hob : okByte s[n] = okByte s[n] := rfl
      conv at hob => rhs; unfold okByte
      by_cases f1 : (s[n].toNat : Int) < 33
      case pos =>
        have HB : Hid (okByte s[n] = false) := by show _ = false; rw [hob]; unfold inB; simp; omega
        clear hob
        have HI : Hid (inB (s[n].toNat : Int) 33 126 = false) := by show _ = _; unfold inB; simp; omega
        go_wp2_with fail
        (go_at_call 36; refine (spec_l01In _ _ _ _).mono ?_; rintro e w' ⟨rfl, rfl⟩)
        first | rw [HI.out] | rw [show inB 42 33 126 = true from rfl]
        go_wp2
        go_ret
        exact ⟨by rw [keyOk_no s (n + 1) (by rw [HS.out, List.all_append]; simp [HB.out])]; rfl, rfl⟩
      by_cases f2 : 126 < (s[n].toNat : Int)
      case pos =>
        have HB : Hid (okByte s[n] = false) := by show _ = false; rw [hob]; unfold inB; simp; omega
        clear hob
        have HI : Hid (inB (s[n].toNat : Int) 33 126 = false) := by show _ = _; unfold inB; simp; omega
        go_wp2_with fail
        (go_at_call 36; refine (spec_l01In _ _ _ _).mono ?_; rintro e w' ⟨rfl, rfl⟩)
        first | rw [HI.out] | rw [show inB 42 33 126 = true from rfl]
        go_wp2
        go_ret
        exact ⟨by rw [keyOk_no s (n + 1) (by rw [HS.out, List.all_append]; simp [HB.out])]; rfl, rfl⟩
      by_cases f3 : (s[n].toNat : Int) = 42
      case pos =>
        have HB : Hid (okByte s[n] = false) := by show _ = false; rw [hob]; unfold inB; simp; omega
        clear hob
        have f4 : ((s[n].toNat : Int) == 42) = true := by simp [f3]
        have HI : Hid (inB (s[n].toNat : Int) 33 126 = true) := by show _ = _; unfold inB; simp; omega
        go_wp2_with fail
        (go_at_call 36; refine (spec_l01In _ _ _ _).mono ?_; rintro e w' ⟨rfl, rfl⟩)
        first | rw [HI.out] | rw [show inB 42 33 126 = true from rfl]
        go_wp2
        go_ret
        exact ⟨by rw [keyOk_no s (n + 1) (by rw [HS.out, List.all_append]; simp [HB.out])]; rfl, rfl⟩
      have HB : Hid (okByte s[n] = true) := by show _ = true; rw [hob]; unfold inB; simp; omega
      clear hob
      have f4 : ((s[n].toNat : Int) == 42) = false := by simp [f3]
      have HI : Hid (inB (s[n].toNat : Int) 33 126 = true) := by show _ = _; unfold inB; simp; omega
      go_wp2_with fail
      (go_at_call 36; refine (spec_l01In _ _ _ _).mono ?_; rintro e w' ⟨rfl, rfl⟩)
      first | rw [HI.out] | rw [show inB 42 33 126 = true from rfl]
      go_wp2
      go_roundw
      case rel => exact ⟨n + 1, by go_num, by omega, trivial, by rw [HS.out, List.all_append, HA.out]; simp [HB.out]⟩
      case measure => simp [intOf]; omega
    case neg =>
      have e : n = s.size := by omega
      subst e
      have ha := HA.out
      rw [List.take_of_length_le (by simp)] at ha
      have HF : Hid (keyOk s = inB s.size 1 40) := by show keyOk s = _; unfold keyOk; rw [ha]; rfl
      go_wp2_with fail
      (go_at_call 36; refine (spec_l01In _ _ _ _).mono ?_; rintro e w' ⟨rfl, rfl⟩)
      go_wp2
      go_ret
      exact ⟨by rw [HF.out]; rfl, rfl⟩
set_option maxRecDepth 100000 in
theorem impl_KeyOk (s : ByteArray) (w : World) (hs : s.size ≤ 9223372036854775807) :
    Calls Tryz.prog 53 #[.string s] w fun e w' => e = .returned (.bool (keyOk s)) ∧ w' = w := by
  go_enter Tryz.func53, Tryz.ntmps53
  go_wp2
  go_loopw [6] (fun k wr => ∃ (n : Nat), k = .int .i64 n ∧ n ≤ s.size ∧ wr = w ∧ (s.data.toList.take n).all okByte = true) (fun k _ => s.size - (intOf k).toNat)
  case atStart => exact ⟨0, rfl, by omega, rfl, rfl⟩
  case round =>
    obtain ⟨n, rfl, hn, rfl, hall⟩ := hrel
    have HA := Lib.hid hall
    clear hall
    by_cases hlt : (n : Int) < s.size
    case pos =>
      have hk : n < s.size := by omega
      have hst := take_snoc s n hk
      have HS := Lib.hid hst
      clear hst
      have hc0 : 0 ≤ (s[n].toNat : Int) := by omega
      have hc1 : (s[n].toNat : Int) ≤ 255 := by have := s[n].toNat_lt; omega
      have hob : okByte s[n] = okByte s[n] := rfl
      conv at hob => rhs; unfold okByte
      by_cases f1 : (s[n].toNat : Int) < 33
      case pos =>
        have HB : Hid (okByte s[n] = false) := by show _ = false; rw [hob]; unfold inB; simp; omega
        clear hob
        have HI : Hid (inB (s[n].toNat : Int) 33 126 = false) := by show _ = _; unfold inB; simp; omega
        go_wp2
        go_ret
        exact ⟨by rw [keyOk_no s (n + 1) (by rw [HS.out, List.all_append]; simp [HB.out])]; rfl, rfl⟩
      by_cases f2 : 126 < (s[n].toNat : Int)
      case pos =>
        have HB : Hid (okByte s[n] = false) := by show _ = false; rw [hob]; unfold inB; simp; omega
        clear hob
        have HI : Hid (inB (s[n].toNat : Int) 33 126 = false) := by show _ = _; unfold inB; simp; omega
        go_wp2
        go_ret
        exact ⟨by rw [keyOk_no s (n + 1) (by rw [HS.out, List.all_append]; simp [HB.out])]; rfl, rfl⟩
      by_cases f3 : (s[n].toNat : Int) = 42
      case pos =>
        have HB : Hid (okByte s[n] = false) := by show _ = false; rw [hob]; unfold inB; simp; omega
        clear hob
        have f4 : ((s[n].toNat : Int) == 42) = true := by simp [f3]
        have HI : Hid (inB (s[n].toNat : Int) 33 126 = true) := by show _ = _; unfold inB; simp; omega
        go_wp2
        go_ret
        exact ⟨by rw [keyOk_no s (n + 1) (by rw [HS.out, List.all_append]; simp [HB.out])]; rfl, rfl⟩
      have HB : Hid (okByte s[n] = true) := by show _ = true; rw [hob]; unfold inB; simp; omega
      clear hob
      have f4 : ((s[n].toNat : Int) == 42) = false := by simp [f3]
      have HI : Hid (inB (s[n].toNat : Int) 33 126 = true) := by show _ = _; unfold inB; simp; omega
      go_wp2
      go_roundw
      case rel => exact ⟨n + 1, by go_num, by omega, trivial, by rw [HS.out, List.all_append, HA.out]; simp [HB.out]⟩
      case measure => simp [intOf]; omega
    case neg =>
      have e : n = s.size := by omega
      subst e
      have ha := HA.out
      rw [List.take_of_length_le (by simp)] at ha
      have HF : Hid (keyOk s = inB s.size 1 40) := by show keyOk s = _; unfold keyOk; rw [ha]; rfl
      go_wp2_with fail
      (go_at_call 38; refine (impl_within _ _ _ _).mono ?_; rintro e w' ⟨rfl, rfl⟩)
      go_wp2
      go_ret
      exact ⟨by rw [HF.out]; rfl, rfl⟩
end Go.Proofs.YtedgenmbdjadkaaGreatDoor
