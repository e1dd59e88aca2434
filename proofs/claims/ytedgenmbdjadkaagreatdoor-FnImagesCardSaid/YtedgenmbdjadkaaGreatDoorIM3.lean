/- Texts of this claim, merged: the laws of the walks and what they stand on. Each condition stands in its theorem. -/
import Derived.Test.YtedgenmbdjadkaaGreatDoorIM2
import Derived.RangeFuncWrites
import Derived.RangeFuncBound
import Derived.RangeFuncLeaves
import Derived.Shelf.Strings.Builder1
import Derived.Shelf.Strings.BuilderF
import Derived.Shelf.Strings.BuilderK
import Derived.Shelf.Utf8.RuneCount
import Derived.Shelf.Strconv.Atoi
import Derived.Shelf.Strconv.Itoa0
import Derived.Shelf.Strconv.Itoa1
import Derived.Shelf.LaysM
import Derived.Shelf.Strconv.Itoa2
import Derived.Shelf.Strconv.Itoa3
import Derived.Shelf.Strconv.AtoiErrFast
import Derived.Shelf.Strconv.ParseIntEmpty
import Derived.Shelf.Strconv.AtoiFail
import Derived.Shelf.Strconv.Clone
import Derived.Shelf.Strconv.SyntaxError
import Derived.Shelf.LaysC
import Derived.Shelf.Strconv.ToError
import Derived.Shelf.Strconv.Lower
import Derived.Shelf.Strconv.ParseUint10
import Derived.Shelf.Strconv.ParseUint10Empty
import Derived.Shelf.Strconv.ParseUint10Any
import Derived.Shelf.Strconv.ParseInt10
import Derived.Shelf.Strconv.AtoiLong
import Derived.Shelf.Strconv.AtoiInnerAll
import Derived.Shelf.Strconv.RangeError
import Derived.Shelf.Strconv.ToErrorRange
import Derived.Shelf.Strconv.AtoiAll
import Derived.Shelf.Strconv.ParseUintEmpty
import Derived.Shelf.Strconv.ParseUint10b64
import Derived.Shelf.Strconv.ParseUint10b32
import Derived.Shelf.Strconv.ParseUint10b16
import Derived.Shelf.Strconv.ParseUint10b8
import Derived.Shelf.Strings.Search1
import Derived.Shelf.Strings.Search2
import Derived.Shelf.Strings.Search3
import Derived.Shelf.Strings.Cut
import Derived.Shelf.Strings.Count
import Derived.Shelf.Strings.Shaped
import Derived.Shelf.Strings.Split
import Derived.Shelf.Strings.SplitShaped
import Derived.Shelf.Unicode.Decode
import Derived.Shelf.Strings.RuneCount
import Derived.Shelf.Strings.Explode
import Derived.Shelf.Unicode.DecodeSlow
import Derived.Shelf.Unicode.DecodeAny
import Derived.Ground.PaProg
import Derived.Shelf.Hex.Lens
import Derived.Shelf.Hex.Encode
import Derived.Shelf.Hex.Decode
import Derived.Shelf.Hex.DecodeOwns
import Derived.Shelf.Hex.More
import Derived.Test.YtedgenmbdjadkaaGreatDoorProg
import Derived.RangeFuncNested
import Derived.RangeFuncCalls
import Derived.RangeFuncBox
import Derived.Shelf.Abstract
import Derived.WalkKit
import Derived.OwnWalkIn
import Derived.TacticsInMore
import Derived.LoopNIn
import Derived.LoopIn
import Derived.Maps.AppendAt
import Derived.Lib.FrozenHead
import Derived.Lib.SplitLaws
set_option linter.unusedVariables false
set_option linter.unusedSimpArgs false
namespace Go.Proofs.YtedgenmbdjadkaaGreatDoor
open Go.ChangeShapes Go.WideShapes Go.ChangeAt Go.RowKit

theorem bl1 (s : ByteArray) : s.toList = s.data.toList := ByteArray.toList_eq s
theorem Tryz.elemStrR : Elem Tryz.prog 61 9 1 16 := Elem.of (.string ⟨#[]⟩) Tryz.underlying61 (by kernel_rfl) rfl (by decide)
theorem cut_list (s : ByteArray) (j i : Nat) : (s.extract j i).data.toList = (s.data.toList.drop j).take (i - j) := by
  rw [ByteArray.data_extract, Array.toList_extract]
theorem pow10_le {n : Nat} (h : n ≤ 10) : (10 : Int) ^ n ≤ 10 ^ 10 := by
  have hall : ∀ x : Fin 11, (10 : Int) ^ x.val ≤ 10 ^ 10 := by decide
  exact hall ⟨n, by omega⟩
theorem spec_l01Value (c : UInt8) (w : World) :
    Calls Tryz.prog 96 #[.int .u8 (c.toNat : Int)] w fun e w' => e = .returned (.int .i64 (valI c)) ∧ w = w' := by
  have hc : (c.toNat : Int) ≤ 255 := by have := c.toNat_lt; omega
  have hc0 : 0 ≤ (c.toNat : Int) := by omega
  obtain ⟨x, hx⟩ : ∃ x, x = valI c := ⟨_, rfl⟩
  rw [← hx]
  unfold valI at hx
  go_enter Tryz.func96, Tryz.ntmps96
  by_cases h1 : 48 ≤ (c.toNat : Int)
  · by_cases h2 : (c.toNat : Int) ≤ 57
    · rw [if_pos ⟨h1, h2⟩] at hx
      subst hx
      go_wp2
      go_ret
      exact ⟨rfl, rfl⟩
    · rw [if_neg (by omega)] at hx
      by_cases h3 : 97 ≤ (c.toNat : Int)
      · by_cases h4 : (c.toNat : Int) ≤ 102
        · rw [if_pos ⟨h3, h4⟩] at hx
          subst hx
          go_wp2
          go_ret
          exact ⟨rfl, rfl⟩
        · rw [if_neg (by omega)] at hx
          subst hx
          go_wp2
          go_ret
          exact ⟨rfl, rfl⟩
      · rw [if_neg (by omega)] at hx
        subst hx
        go_wp2
        go_ret
        exact ⟨rfl, rfl⟩
  · rw [if_neg (by omega), if_neg (by omega)] at hx
    subst hx
    go_wp2
    go_ret
    exact ⟨rfl, rfl⟩
set_option maxRecDepth 100000 in
set_option maxHeartbeats 2000000 in
theorem spec_Unhex (s : ByteArray) (w : World) (hs : s.size ≤ 1048576) :
    Calls Tryz.prog 71 #[.string s] w (UnhP s w) := by
  have hsl : s.data.toList.length = s.size := by simp
  go_enter Tryz.func71, Tryz.ntmps71
  by_cases hb : (40000 : Int) < s.size
  · have hu := Unh.long (L := s.data.toList) (.inl (by omega)) ⟨#[]⟩
    clear hsl
    go_wp2
    refine bodyPost_ret (by simp [results, Tryz.results71, go_sem]; rfl) rfl ?_
    exact UnhP.mk (by decide) hu (by repeat (first | with_reducible exact Below.refl _ _ | with_reducible apply Below.ofExt | with_reducible apply Below.ofAlloc | with_reducible apply Below.drew | with_reducible apply Below.ofDrewN | with_reducible assumption | (with_reducible refine Below.setCell ?_ (by first | exact Nat.le_refl _ | (simp [go_sem]; done) | (simp [go_sem]; omega)) _)))
  by_cases hodd : (s.size : Int) % 2 = 0
  case neg =>
    have hu := Unh.long (L := s.data.toList) (.inr (by omega)) ⟨#[]⟩
    clear hsl
    go_wp2
    refine bodyPost_ret (by simp [results, Tryz.results71, go_sem]; rfl) rfl ?_
    exact UnhP.mk (by decide) hu (by repeat (first | with_reducible exact Below.refl _ _ | with_reducible apply Below.ofExt | with_reducible apply Below.ofAlloc | with_reducible apply Below.drew | with_reducible apply Below.ofDrewN | with_reducible assumption | (with_reducible refine Below.setCell ?_ (by first | exact Nat.le_refl _ | (simp [go_sem]; done) | (simp [go_sem]; omega)) _)))
  go_wp2
  go_loopw [4, 5, 6, 7] (fun o k _ _ wr => ∃ (m : Nat) (l : List UInt8), k = .int .i64 (2 * m : Nat) ∧ 2 * m ≤ s.size ∧ Below w.heap.size w wr ∧ OwnB 5 wr w.heap.size o l ∧ l.length = m ∧ UnhTo s.data.toList l m) (fun _ k _ _ _ => s.size - (intOf k).toNat)
  case atStart => exact ⟨0, [], rfl, by omega, (by repeat (first | with_reducible exact Below.refl _ _ | with_reducible apply Below.ofExt | with_reducible apply Below.ofAlloc | with_reducible apply Below.drew | with_reducible apply Below.ofDrewN | with_reducible assumption | (with_reducible refine Below.setCell ?_ (by first | exact Nat.le_refl _ | (simp [go_sem]; done) | (simp [go_sem]; omega)) _))), OwnB.empty _ _, rfl, UnhTo.nil _⟩
  case round =>
    obtain ⟨m, l, rfl, hn, hbel, ho, hll, hu⟩ := hrel
    obtain ⟨X, rfl⟩ := hbel.ext
    subst hll
    have HU := Lib.hid hu
    have HSL := Lib.hid hsl
    clear hu hsl
    by_cases hlt : ((2 * l.length : Nat) : Int) < s.size
    case pos =>
      have hk : 2 * l.length + 1 < s.data.toList.length := by rw [HSL.out]; omega
      have hk1 : 2 * l.length < s.size := by omega
      have hk2 : 2 * l.length + 1 < s.size := by omega
      have hv1 := valI_le s[2 * l.length]
      have hv2 := valI_le s[2 * l.length + 1]
      have e1 : s.data.toList[2 * l.length]'(by omega) = s[2 * l.length] := rfl
      have e2 : s.data.toList[2 * l.length + 1]'hk = s[2 * l.length + 1] := rfl
      obtain ⟨oa, oc, rfl⟩ := ho.form
      have HO := Lib.hid ho
      clear ho
      have hc1 : (s[2 * l.length].toNat : Int) ≤ 255 := by have := s[2 * l.length].toNat_lt; omega
      have hc2 : (s[2 * l.length + 1].toNat : Int) ≤ 255 := by have := s[2 * l.length + 1].toNat_lt; omega
      have HB := Lib.hid (fun h r => UnhTo.bad (L := s.data.toList) hk h r)
      have HST := Lib.hid (fun c hc => UnhTo.step HU.out hk (c := c) hc)
      rw [e1, e2] at HB HST
      go_wp2_with fail
      (go_at_call 96; refine (spec_l01Value _ _).mono ?_; rintro e w' ⟨rfl, rfl⟩)
      go_wp2_with fail
      (go_at_call 96; refine (spec_l01Value _ _).mono ?_; rintro e w' ⟨rfl, rfl⟩)
      obtain ⟨cc, hcc⟩ : ∃ cc : UInt8, 0 ≤ valI s[2 * l.length] → 0 ≤ valI s[2 * l.length + 1] → (cc.toNat : Int) = 16 * valI s[2 * l.length] + valI s[2 * l.length + 1] := by
        refine ⟨UInt8.ofNat (16 * valI s[2 * l.length] + valI s[2 * l.length + 1]).toNat, fun h1 h2 => ?_⟩
        rw [UInt8.toNat_ofNat']
        omega
      generalize valI s[2 * l.length] = x at *
      generalize valI s[2 * l.length + 1] = y at *
      have HCC := Lib.hid hcc
      clear hcc
      by_cases hx : x < 0
      · go_wp2
        refine bodyPost_ret (by simp [results, Tryz.results71, go_sem]; rfl) rfl ?_
        exact UnhP.mk (by decide) (HB.out (.inl hx) _) (by repeat (first | with_reducible exact Below.refl _ _ | with_reducible apply Below.ofExt | with_reducible apply Below.ofAlloc | with_reducible apply Below.drew | with_reducible apply Below.ofDrewN | with_reducible assumption | (with_reducible refine Below.setCell ?_ (by first | exact Nat.le_refl _ | (simp [go_sem]; done) | (simp [go_sem]; omega)) _)))
      by_cases hy : y < 0
      · go_wp2
        refine bodyPost_ret (by simp [results, Tryz.results71, go_sem]; rfl) rfl ?_
        exact UnhP.mk (by decide) (HB.out (.inr hy) _) (by repeat (first | with_reducible exact Below.refl _ _ | with_reducible apply Below.ofExt | with_reducible apply Below.ofAlloc | with_reducible apply Below.drew | with_reducible apply Below.ofDrewN | with_reducible assumption | (with_reducible refine Below.setCell ?_ (by first | exact Nat.le_refl _ | (simp [go_sem]; done) | (simp [go_sem]; omega)) _)))
      have hcc := HCC.out (by omega) (by omega)
      go_wp2_with (at_builtin; refine Stop.here ?_)
      refine wpList_appB _ Tryz.byteT rfl (.tmp 39) (.tmp 45) rfl (B := w.heap.size) (l := l) (m := [cc]) (HO.out.alloc _) rfl (Sl.lit1 _ cc (16 * x + y) hcc.symm _ _ (by simp [World.ext_size])) rfl (by simp; omega) (by simp [World.ext_size]; omega) ?_
      intro v4 w4 ho4 hg4
      have hb4 : Below w.heap.size w w4 := Below.appB (by repeat (first | with_reducible exact Below.refl _ _ | with_reducible apply Below.ofExt | with_reducible apply Below.ofAlloc | with_reducible apply Below.drew | with_reducible apply Below.ofDrewN | with_reducible assumption | (with_reducible refine Below.setCell ?_ (by first | exact Nat.le_refl _ | (simp [go_sem]; done) | (simp [go_sem]; omega)) _))) hg4 (HO.out.alloc _)
      obtain ⟨Y, rfl⟩ := hb4.ext
      have HO4 := Lib.hid ho4
      clear ho4 hg4 hb4
      have hstep := HST.out cc hcc
      have HSTEP := Lib.hid hstep
      clear hstep
      go_wp2
      go_roundw
      case rel => exact ⟨l.length + 1, _, by go_num, by omega, (by repeat (first | with_reducible exact Below.refl _ _ | with_reducible apply Below.ofExt | with_reducible apply Below.ofAlloc | with_reducible apply Below.drew | with_reducible apply Below.ofDrewN | with_reducible assumption | (with_reducible refine Below.setCell ?_ (by first | exact Nat.le_refl _ | (simp [go_sem]; done) | (simp [go_sem]; omega)) _))), HO4.out, by simp, HSTEP.out⟩
      case measure => simp [intOf]; omega
    case neg =>
      have e : s.size ≤ 2 * l.length := by omega
      have hua := UnhTo.all HU.out (by rw [HSL.out]; exact e)
      have HUA := Lib.hid hua
      have hr := run_string_of (P := Tryz.prog) (w.ext X) Tryz.byteT Tryz.underlying9 ho.sl
      have hsz : (strOf l).size ≤ 20000 := by rw [strOf_size]; omega
      have HSZ := Lib.hid hsz
      obtain ⟨oa, oc, rfl⟩ := ho.form
      clear ho hua hsz
      go_wp2
      refine bodyPost_ret (by simp [results, Tryz.results71, go_sem]; rfl) rfl ?_
      exact UnhP.mk HSZ.out HUA.out (by repeat (first | with_reducible exact Below.refl _ _ | with_reducible apply Below.ofExt | with_reducible apply Below.ofAlloc | with_reducible apply Below.drew | with_reducible apply Below.ofDrewN | with_reducible assumption | (with_reducible refine Below.setCell ?_ (by first | exact Nat.le_refl _ | (simp [go_sem]; done) | (simp [go_sem]; omega)) _)))
set_option maxRecDepth 100000 in
set_option maxHeartbeats 2000000 in
theorem spec_ReadDecimal (s : ByteArray) (w : World) (hs : s.size ≤ 1048576) :
    Calls Tryz.prog 70 #[.string s] w (NumP s w) := by
  have hsl : s.data.toList.length = s.size := by simp
  go_enter Tryz.func70, Tryz.ntmps70
  by_cases hb : (10 : Int) < s.size
  · have hu := Num.long (l := s.data.toList) (by omega)
    clear hsl
    go_wp2
    refine bodyPost_ret (by simp [results, Tryz.results70, go_sem]; rfl) rfl ?_
    exact NumP.mk hu (by repeat (first | with_reducible exact Below.refl _ _ | with_reducible apply Below.ofExt | with_reducible apply Below.ofAlloc | with_reducible apply Below.drew | with_reducible apply Below.ofDrewN | with_reducible assumption | (with_reducible refine Below.setCell ?_ (by first | exact Nat.le_refl _ | (simp [go_sem]; done) | (simp [go_sem]; omega)) _)))
  go_wp2
  go_loopw [4, 5] (fun o k wr => ∃ (m : Nat) (n : Int), k = .int .i64 m ∧ m ≤ s.size ∧ Below w.heap.size w wr ∧ o = .int .i64 n ∧ n = valD (s.data.toList.take m) ∧ ∀ c ∈ s.data.toList.take m, digL c) (fun _ k _ => s.size - (intOf k).toNat)
  case atStart => exact ⟨0, 0, rfl, by omega, (by repeat (first | with_reducible exact Below.refl _ _ | with_reducible apply Below.ofExt | with_reducible apply Below.ofAlloc | with_reducible apply Below.drew | with_reducible apply Below.ofDrewN | with_reducible assumption | (with_reducible refine Below.setCell ?_ (by first | exact Nat.le_refl _ | (simp [go_sem]; done) | (simp [go_sem]; omega)) _))), rfl, by simp [valD], by simp⟩
  case round =>
    obtain ⟨m, n, rfl, hn, hbel, rfl, hv, hd⟩ := hrel
    obtain ⟨X, rfl⟩ := hbel.ext
    have hbd := valD_bd _ hd
    rw [← hv] at hbd
    have hp : (10 : Int) ^ (s.data.toList.take m).length ≤ 10 ^ 10 := pow10_le (by rw [List.length_take]; omega)
    have hn0 := hbd.1
    have hn1 : n < 10000000000 := Int.lt_of_lt_of_le hbd.2 hp
    have HV := Lib.hid hv
    have HD := Lib.hid hd
    have HSL := Lib.hid hsl
    clear hv hd hbd hp hsl
    by_cases hlt : (m : Int) < s.size
    case pos =>
      have hk : m < s.data.toList.length := by rw [HSL.out]; omega
      have hk1 : m < s.size := by omega
      have e1 : s.data.toList[m]'hk = s[m] := rfl
      have hst := valD_snoc (s.data.toList.take m) (s.data.toList[m]'hk)
      rw [← List.take_succ_eq_append_getElem hk, ← HV.out, e1] at hst
      have hmem : s[m] ∈ s.data.toList := by rw [← e1]; exact List.getElem_mem hk
      have HST := Lib.hid hst
      have HM := Lib.hid hmem
      clear hst hmem
      have hc1 : (s[m].toNat : Int) ≤ 255 := by have := s[m].toNat_lt; omega
      have hc0 : 0 ≤ (s[m].toNat : Int) := by omega
      by_cases h1 : (s[m].toNat : Int) < 48
      · have hu := Num.bad HM.out (by unfold digL; omega)
        have HUN := Lib.hid hu
        clear hu
        go_wp2
        refine bodyPost_ret (by simp [results, Tryz.results70, go_sem]; rfl) rfl ?_
        exact NumP.mk HUN.out (by repeat (first | with_reducible exact Below.refl _ _ | with_reducible apply Below.ofExt | with_reducible apply Below.ofAlloc | with_reducible apply Below.drew | with_reducible apply Below.ofDrewN | with_reducible assumption | (with_reducible refine Below.setCell ?_ (by first | exact Nat.le_refl _ | (simp [go_sem]; done) | (simp [go_sem]; omega)) _)))
      by_cases h2 : (57 : Int) < s[m].toNat
      · have hu := Num.bad HM.out (by unfold digL; omega)
        have HUN := Lib.hid hu
        clear hu
        go_wp2
        refine bodyPost_ret (by simp [results, Tryz.results70, go_sem]; rfl) rfl ?_
        exact NumP.mk HUN.out (by repeat (first | with_reducible exact Below.refl _ _ | with_reducible apply Below.ofExt | with_reducible apply Below.ofAlloc | with_reducible apply Below.drew | with_reducible apply Below.ofDrewN | with_reducible assumption | (with_reducible refine Below.setCell ?_ (by first | exact Nat.le_refl _ | (simp [go_sem]; done) | (simp [go_sem]; omega)) _)))
      have hd2 : ∀ c ∈ s.data.toList.take (m + 1), digL c := by
        rw [List.take_succ_eq_append_getElem hk, e1]
        intro c hc
        rcases List.mem_append.1 hc with hc | hc
        · exact HD.out c hc
        · rw [List.mem_singleton.1 hc]
          unfold digL
          omega
      have HD2 := Lib.hid hd2
      clear hd2 e1
      go_wp2
      go_roundw
      case rel => exact ⟨m + 1, _, by go_num, by omega, (by repeat (first | with_reducible exact Below.refl _ _ | with_reducible apply Below.ofExt | with_reducible apply Below.ofAlloc | with_reducible apply Below.drew | with_reducible apply Below.ofDrewN | with_reducible assumption | (with_reducible refine Below.setCell ?_ (by first | exact Nat.le_refl _ | (simp [go_sem]; done) | (simp [go_sem]; omega)) _))), rfl, by rw [HST.out]; omega, HD2.out⟩
      case measure => simp [intOf]; omega
    case neg =>
      have e : m = s.size := by omega
      have hv2 : n = valD s.data.toList := by have := HV.out; rw [List.take_of_length_le (by rw [HSL.out]; omega)] at this; exact this
      have HV2 := Lib.hid hv2
      clear hv2
      by_cases h1 : 1000000000 < n
      · have hu := Num.other HV2.out (.inl h1)
        have HUN := Lib.hid hu
        clear hu
        go_wp2
        refine bodyPost_ret (by simp [results, Tryz.results70, go_sem]; rfl) rfl ?_
        exact NumP.mk HUN.out (by repeat (first | with_reducible exact Below.refl _ _ | with_reducible apply Below.ofExt | with_reducible apply Below.ofAlloc | with_reducible apply Below.drew | with_reducible apply Below.ofDrewN | with_reducible assumption | (with_reducible refine Below.setCell ?_ (by first | exact Nat.le_refl _ | (simp [go_sem]; done) | (simp [go_sem]; omega)) _)))
      go_wp2_with fail
      (go_at_call 47; refine (spec_Decimal n _ (by omega) (by omega)).mono ?_; rintro e w' ⟨rfl, hb⟩; obtain ⟨X, rfl⟩ := hb.ext; clear hb)
      by_cases he : Lib.itoa n = s.data.toList
      · have hu := Num.good hn0 (by omega) HV2.out
        have HUN := Lib.hid hu
        have heq : strOf (Lib.itoa n) = s := by rw [he, strOf_data]
        clear hu he
        rw [heq]
        go_wp2
        refine bodyPost_ret (by simp [results, Tryz.results70, go_sem]; rfl) rfl ?_
        exact NumP.mk HUN.out (by repeat (first | with_reducible exact Below.refl _ _ | with_reducible apply Below.ofExt | with_reducible apply Below.ofAlloc | with_reducible apply Below.drew | with_reducible apply Below.ofDrewN | with_reducible assumption | (with_reducible refine Below.setCell ?_ (by first | exact Nat.le_refl _ | (simp [go_sem]; done) | (simp [go_sem]; omega)) _)))
      · have hu := Num.other HV2.out (.inr he)
        have HUN := Lib.hid hu
        have heq : (((strOf (Lib.itoa n)).toList == s.toList)) = false := by
          rw [beq_eq_false_iff_ne, bl1, bl1]
          exact fun e => he (by rw [← e, strOf_list])
        clear hu he
        go_wp2
        refine bodyPost_ret (by simp [results, Tryz.results70, go_sem]; rfl) rfl ?_
        exact NumP.mk HUN.out (by repeat (first | with_reducible exact Below.refl _ _ | with_reducible apply Below.ofExt | with_reducible apply Below.ofAlloc | with_reducible apply Below.drew | with_reducible apply Below.ofDrewN | with_reducible assumption | (with_reducible refine Below.setCell ?_ (by first | exact Nat.le_refl _ | (simp [go_sem]; done) | (simp [go_sem]; omega)) _)))
set_option maxRecDepth 100000 in
set_option maxHeartbeats 2000000 in
theorem spec_l21Split (s : ByteArray) (c : UInt8) (w : World) (hs : s.size ≤ 1048576) :
    Calls Tryz.prog 69 #[.string s, .int .u8 (c.toNat : Int)] w (SplP 9 c s w) := by
  have hsl : s.data.toList.length = s.size := by simp
  go_enter Tryz.func69, Tryz.ntmps69
  go_wp2
  go_loopw [5, 6, 7] (fun o b k wr => ∃ (i j : Nat) (xs : List ByteArray), k = .int .i64 i ∧ b = .int .i64 j ∧ i ≤ s.size + 1 ∧ xs.length ≤ i ∧ Below w.heap.size w wr ∧ OwnL rStr 9 wr w.heap.size o xs ∧ CutTo c s.data.toList xs j i) (fun _ _ k _ => s.size + 1 - (intOf k).toNat)
  case atStart => exact ⟨0, 0, [], rfl, rfl, by omega, by simp, (by repeat (first | with_reducible exact Below.refl _ _ | with_reducible apply Below.ofExt | with_reducible apply Below.ofAlloc | with_reducible apply Below.drew | with_reducible apply Below.ofDrewN | with_reducible assumption | (with_reducible refine Below.setCell ?_ (by first | exact Nat.le_refl _ | (simp [go_sem]; done) | (simp [go_sem]; omega)) _))), OwnL.empty _ _ _, CutTo.nil _ _⟩
  case round =>
    obtain ⟨i, j, xs, rfl, rfl, hi, hxl, hbel, ho, hc⟩ := hrel
    obtain ⟨X, rfl⟩ := hbel.ext
    obtain ⟨oa, oc, rfl⟩ := ho.rd.form
    have HO := Lib.hid ho
    have HC := Lib.hid hc
    have HSL := Lib.hid hsl
    clear ho hc hsl
    by_cases hlt : (i : Int) ≤ s.size
    case pos =>
      have hji := HC.out.lo (by rw [HSL.out]; omega)
      by_cases he : (i : Int) = s.size
      · have hst := HC.out.last (by rw [HSL.out]; omega) (cut_list s j i)
        have ei : i = s.size := by omega
        rw [show s.extract j i = s.extract j s.size by rw [ei]] at hst
        have HST := Lib.hid hst
        clear hst
        go_wp2_with (at_builtin; refine Stop.here ?_)
        refine wpList_appL rfl (.tmp 26) (.tmp 31) _ rfl (R := rStr) (e := 9) Tryz.elemStrR (B := w.heap.size) (v := .slice oa xs.length oc) (xs := xs) (HO.out.alloc _) rfl (ys := [s.extract j s.size]) (RdL.oneAt rStr _ (s.extract j s.size) _ rfl _ _ (by simp [World.ext_size])) rfl (by simp only [List.length_singleton]; omega) (by simp only [List.length_singleton]; unfold maxLen; omega) (by simp [World.ext_size]; omega) ?_
        intro v4 w4 hown4 hgr4 _
        have hb4 : Below w.heap.size w w4 := Below.appL (a := w) (R := rStr) (e := 9) (v := .slice oa xs.length oc) (xs := xs) (by repeat (first | with_reducible exact Below.refl _ _ | with_reducible apply Below.ofExt | with_reducible apply Below.ofAlloc | with_reducible apply Below.drew | with_reducible apply Below.ofDrewN | with_reducible assumption | (with_reducible refine Below.setCell ?_ (by first | exact Nat.le_refl _ | (simp [go_sem]; done) | (simp [go_sem]; omega)) _))) hgr4 (HO.out.alloc _)
        obtain ⟨Y, rfl⟩ := hb4.ext
        have HO4 := Lib.hid hown4
        clear hown4 hgr4 hb4
        go_wp2
        go_roundw
        case rel => exact ⟨i + 1, i + 1, _, by go_num, by go_num, by omega, by rw [List.length_append, List.length_singleton]; omega, (by repeat (first | with_reducible exact Below.refl _ _ | with_reducible apply Below.ofExt | with_reducible apply Below.ofAlloc | with_reducible apply Below.drew | with_reducible apply Below.ofDrewN | with_reducible assumption | (with_reducible refine Below.setCell ?_ (by first | exact Nat.le_refl _ | (simp [go_sem]; done) | (simp [go_sem]; omega)) _))), HO4.out, HST.out⟩
        case measure => simp [intOf]; omega
      · have hk : i < s.size := by omega
        have hk2 : i < s.data.toList.length := by rw [HSL.out]; omega
        have e1 : s.data.toList[i]'hk2 = s[i] := rfl
        by_cases hcc : s[i] = c
        · have hcc2 : ((s[i].toNat : Int) == (c.toNat : Int)) = true := by rw [hcc]; simp
          have hst := HC.out.cut hk2 (by rw [e1]; exact hcc) (cut_list s j i)
          have HST := Lib.hid hst
          clear e1 hst
          go_wp2_with (at_builtin; refine Stop.here ?_)
          refine wpList_appL rfl (.tmp 26) (.tmp 31) _ rfl (R := rStr) (e := 9) Tryz.elemStrR (B := w.heap.size) (v := .slice oa xs.length oc) (xs := xs) (HO.out.alloc _) rfl (ys := [s.extract j i]) (RdL.oneAt rStr _ (s.extract j i) _ rfl _ _ (by simp [World.ext_size])) rfl (by simp only [List.length_singleton]; omega) (by simp only [List.length_singleton]; unfold maxLen; omega) (by simp [World.ext_size]; omega) ?_
          intro v4 w4 hown4 hgr4 _
          have hb4 : Below w.heap.size w w4 := Below.appL (a := w) (R := rStr) (e := 9) (v := .slice oa xs.length oc) (xs := xs) (by repeat (first | with_reducible exact Below.refl _ _ | with_reducible apply Below.ofExt | with_reducible apply Below.ofAlloc | with_reducible apply Below.drew | with_reducible apply Below.ofDrewN | with_reducible assumption | (with_reducible refine Below.setCell ?_ (by first | exact Nat.le_refl _ | (simp [go_sem]; done) | (simp [go_sem]; omega)) _))) hgr4 (HO.out.alloc _)
          obtain ⟨Y, rfl⟩ := hb4.ext
          have HO4 := Lib.hid hown4
          clear hown4 hgr4 hb4
          go_wp2
          go_roundw
          case rel => exact ⟨i + 1, i + 1, _, by go_num, by go_num, by omega, by rw [List.length_append, List.length_singleton]; omega, (by repeat (first | with_reducible exact Below.refl _ _ | with_reducible apply Below.ofExt | with_reducible apply Below.ofAlloc | with_reducible apply Below.drew | with_reducible apply Below.ofDrewN | with_reducible assumption | (with_reducible refine Below.setCell ?_ (by first | exact Nat.le_refl _ | (simp [go_sem]; done) | (simp [go_sem]; omega)) _))), HO4.out, HST.out⟩
          case measure => simp [intOf]; omega
        · have hcc2 : ((s[i].toNat : Int) == (c.toNat : Int)) = false := by
            rw [beq_eq_false_iff_ne]
            exact fun e => hcc (UInt8.toNat_inj.1 (by omega))
          have hst := HC.out.same hk2 (by rw [e1]; exact hcc)
          have HST := Lib.hid hst
          clear hst hcc e1
          go_wp2
          go_roundw
          case rel => exact ⟨i + 1, j, xs, by go_num, rfl, by omega, by omega, (by repeat (first | with_reducible exact Below.refl _ _ | with_reducible apply Below.ofExt | with_reducible apply Below.ofAlloc | with_reducible apply Below.drew | with_reducible apply Below.ofDrewN | with_reducible assumption | (with_reducible refine Below.setCell ?_ (by first | exact Nat.le_refl _ | (simp [go_sem]; done) | (simp [go_sem]; omega)) _))), HO.out, HST.out⟩
          case measure => simp [intOf]; omega
    case neg =>
      have hx := HC.out.all (by rw [HSL.out]; omega)
      have HX := Lib.hid hx
      clear hx
      go_wp2
      go_ret
      exact SplP.mk HO.out HX.out (by repeat (first | with_reducible exact Below.refl _ _ | with_reducible apply Below.ofExt | with_reducible apply Below.ofAlloc | with_reducible apply Below.drew | with_reducible apply Below.ofDrewN | with_reducible assumption | (with_reducible refine Below.setCell ?_ (by first | exact Nat.le_refl _ | (simp [go_sem]; done) | (simp [go_sem]; omega)) _)))
end Go.Proofs.YtedgenmbdjadkaaGreatDoor
namespace Go.Proofs.YtedgenmbdjadkaaGreatDoor
open Go.ChangeShapes Go.WideShapes Go.ChangeAt Go.RowKit

theorem own_bel {α : Type} {R : RowOf α} {e : TypeId} {w w' : World} {B : Nat} {v : Value} {xs : List α} (h : OwnL R e w B v xs) (hb : Below w.heap.size w w') : OwnL R e w' B v xs := by
  obtain ⟨X, rfl⟩ := hb.ext
  exact h.ext X
theorem own_apart {α β : Type} {R : RowOf α} {R' : RowOf β} {e e' : TypeId} {w : World} {B B' : Nat} {v v' : Value} {xs : List α} {ys : List β} (h : OwnL R e w B v xs) (h' : OwnL R' e' w B' v' ys) (he : e ≠ e') : v.ownBlock = none ∨ v.ownBlock ≠ v'.ownBlock := by
  rcases h.2 with ⟨rfl, h0⟩ | ⟨g, cap, cur, rfl, hg, hh, _⟩
  · exact .inl rfl
  · right
    rcases h'.2 with ⟨rfl, _⟩ | ⟨g', cap', cur', rfl, hg', hh', _⟩
    · simp [Value.ownBlock]
    · intro hb
      have hb : g = g' := by simpa [Value.ownBlock] using hb
      subst hb
      rw [hh] at hh'
      injection hh' with hh'
      injection hh' with _ hh'
      exact he hh'
theorem own_apartB {α : Type} {R : RowOf α} {e : TypeId} {w : World} {B b n c : Nat} {v : Value} {xs : List α} (h : OwnL R e w B v xs) (hb : b < B) : (Value.slice (some ⟨b, 0, none⟩) n c).ownBlock = none ∨ (Value.slice (some ⟨b, 0, none⟩) n c).ownBlock ≠ v.ownBlock := by
  refine .inr fun e => ?_
  have := (h.lt b e.symm).1
  omega
/-- what the readers of a record leave -/
def RrP (s : ByteArray) (w : World) (e : Ending) (w' : World) : Prop := ∃ n v b cs, e = .returned (.tuple #[.int .i64 n, v, .bool b]) ∧ OwnL rCell 39 w' w.heap.size v cs ∧ RrOk s n b cs ∧ Below w.heap.size w w'
theorem RrP.mk {s : ByteArray} {n : Int} {v : Value} {b : Bool} {cs : List CellD} {w w' : World} (h1 : OwnL rCell 39 w' w.heap.size v cs) (h2 : RrOk s n b cs) (h3 : Below w.heap.size w w') : RrP s w (.returned (.tuple #[.int .i64 n, v, .bool b])) w' := ⟨n, v, b, cs, rfl, h1, h2, h3⟩
theorem rr_fail (r s : ByteArray) (h : r.toList = [] ∨ (r.toList == s.toList) = false) : r ≠ s ∨ s.size = 0 ∨ true = false := by
  by_cases e : r = s
  · subst e
    rcases h with h | h
    · right
      left
      rw [bl1] at h
      have : r.data.toList.length = r.size := by simp
      rw [h] at this
      exact this.symm
    · simp at h
  · exact .inl e
theorem rr_hold (r s : ByteArray) (h0 : ¬ r.toList = []) (h : (r.toList == s.toList) = true) : r = s ∧ s.size ≠ 0 := by
  have e : r = s := by
    apply ByteArray.ext
    apply Array.toList_inj.1
    rw [← bl1, ← bl1]
    exact eq_of_beq h
  refine ⟨e, fun hz => h0 ?_⟩
  rw [bl1]
  apply List.eq_nil_of_length_eq_zero
  have : r.data.toList.length = r.size := by simp
  rw [this, e, hz]
theorem cells_rdS {w : World} {B : Nat} {v : Value} {xs : List CellD} (h : OwnL rCell 39 w B v xs) (hs : Sm xs) : (vSlice vCell 39).rd w [v] xs := by
  obtain ⟨fp, ho, _⟩ := own_of_cells h (fun d hd => by have := hs d hd; exact ⟨by omega, by omega⟩)
  exact View.toRd _ ho
theorem str_at {w : World} {B : Nat} {ao : Option Addr} {n cap : Nat} {xs : List ByteArray} {e : TypeId} (h : OwnL rStr e w B (.slice ao n cap) xs) {i : Nat} (hi : i < xs.length) : n = xs.length ∧ ∃ b off, ao = some ⟨b, off, none⟩ ∧ b < w.heap.size ∧ w.cell? ⟨b, off + i, none⟩ = some (.string xs[i]) := by
  obtain ⟨ao', cap', hv, h1, h2, h3, h4⟩ := h.rd.shapeS
  cases hv
  obtain ⟨b, off, e1, e2, e3⟩ := h4 (by intro e; rw [e] at hi; simp at hi)
  exact ⟨rfl, b, off, e1, e2, e3 i hi⟩
set_option maxRecDepth 100000 in
set_option maxHeartbeats 4000000 in
theorem spec_ReadRecord (s : ByteArray) (w : World) (hs : s.size ≤ 1048576) :
    Calls Tryz.prog 37 #[.string s] w (RrP s w) := by
  have hE0 : OwnL rCell 39 (w.alloc (.cells #[] 39)) w.heap.size (.slice (some ⟨w.heap.size, 0, none⟩) 0 0) [] := OwnL.empty rCell 39 w
  have HE := Lib.hid hE0
  clear hE0
  go_enter Tryz.func37, Tryz.ntmps37
  by_cases hbig : (4000 : Int) < s.size
  · have hr := readI_big (t := s) (by omega)
    have HR := Lib.hid hr
    clear hr
    go_wp2
    refine bodyPost_ret (by simp [results, Tryz.results37, go_sem]; rfl) rfl ?_
    exact RrP.mk HE.out (RrOk.no HR.out) (by repeat (first | with_reducible exact Below.refl _ _ | with_reducible apply Below.ofExt | with_reducible apply Below.ofAlloc | with_reducible apply Below.drew | with_reducible apply Below.ofDrewN | with_reducible assumption | (with_reducible refine Below.setCell ?_ (by first | exact Nat.le_refl _ | (simp [go_sem]; done) | (simp [go_sem]; omega)) _)))
  go_wp2_with fail
  (go_at_call 69; refine (spec_l21Split s 32 _ hs).mono ?_; rintro e w1 ⟨pv, xs, rfl, hp, hxs, hb1⟩)
  have hsz1 : w.heap.size + 1 ≤ w1.heap.size := by have := hb1.size; simpa using this
  have hbw : Below w.heap.size w w1 := Below.then (show Below w.heap.size w (w.alloc (.cells #[] 39)) from (by repeat (first | with_reducible exact Below.refl _ _ | with_reducible apply Below.ofExt | with_reducible apply Below.ofAlloc | with_reducible apply Below.drew | with_reducible apply Below.ofDrewN | with_reducible assumption | (with_reducible refine Below.setCell ?_ (by first | exact Nat.le_refl _ | (simp [go_sem]; done) | (simp [go_sem]; omega)) _)))) hb1
  have HE1 := Lib.hid (own_bel HE.out hb1)
  have HP := Lib.hid (hp.base (B' := w.heap.size) (by simp))
  obtain ⟨pa, pc, rfl⟩ := hp.rd.form
  obtain ⟨ws, hws⟩ : ∃ ws, ws = splitL 32 s.data.toList := ⟨_, rfl⟩
  rw [← hws] at hxs
  have HXS := Lib.hid hxs
  have hwl : ws.length = xs.length := by rw [← hxs, List.length_map]
  have hne : 0 < xs.length := by
    rw [← hwl, hws]
    have := splitL_ne 32 s.data.toList
    cases hh : splitL 32 s.data.toList with
    | nil => exact absurd hh this
    | cons a b => simp
  have hxl : xs.length ≤ 4001 := by
    rw [← hwl, hws]
    have := splitL_length 32 s.data.toList
    have e : s.data.toList.length = s.size := by simp
    omega
  have hh0 : ws.headD [] = xs[0].data.toList := by
    obtain ⟨h2, h3⟩ := map_get xs ws hxs hne
    rw [← h3]
    cases ws with
    | nil => simp at h2
    | cons a b => rfl
  obtain ⟨_, pb, po, rfl, hpl, y0⟩ := str_at hp hne
  have HWS := Lib.hid hws
  have HH0 := Lib.hid hh0
  have hsm : ∀ x ∈ xs, x.size ≤ s.size := split_small (c := 32) (by rw [hxs, hws])
  have hsz0 : xs[0].size ≤ 1048576 := Nat.le_trans (hsm _ (List.getElem_mem hne)) hs
  have HSM := Lib.hid hsm
  clear hsm
  generalize xs[0] = x0 at *
  clear hp hb1 hxs hws hh0 HE
  rw [Nat.add_zero] at y0
  go_wp2_with fail
  (go_at_call 70; refine (spec_ReadDecimal x0 _ hsz0).mono ?_; rintro e w2 ⟨n, ok, rfl, hnum, hb2⟩)
  have hb2s := hb2.size
  have hbw2 : Below w.heap.size w w2 := Below.then hbw hb2
  have hnr : 0 ≤ n ∧ n ≤ 1000000000 := hnum.1
  have HE2 := Lib.hid (own_bel HE1.out hb2)
  have HP2 := Lib.hid (own_bel HP.out hb2)
  rw [← HH0.out] at hnum
  have HN := Lib.hid hnum
  clear hnum hb2 HE1 HP HH0 y0 hpl hbw
  have hsz2 : w.heap.size + 1 ≤ w2.heap.size := Nat.le_trans hsz1 hb2s
  have hE3 : OwnL rCell 39 (w2.alloc (.cells #[] 39)) w2.heap.size (.slice (some ⟨w2.heap.size, 0, none⟩) 0 0) [] := OwnL.empty rCell 39 w2
  have HL0 := Lib.hid (hE3.base (B' := w.heap.size + 1) hsz2)
  clear hE3
  go_wp2
  go_loopw [9, 10, 11, 12, 13, 14, 15] (fun o k _ _ _ _ _ wr => ∃ (j : Nat) (cs : List CellD), k = .int .i64 (j + 1 : Nat) ∧ (j = 0 ∨ j + 2 ≤ xs.length) ∧ Below w.heap.size w wr ∧ OwnL rCell 39 wr (w.heap.size + 1) o cs ∧ OwnL rStr 9 wr w.heap.size (.slice (some ⟨pb, po, none⟩) xs.length pc) xs ∧ OwnL rCell 39 wr w.heap.size (.slice (some ⟨w.heap.size, 0, none⟩) 0 0) [] ∧ ReadsTo ((midL ws).take j) cs ∧ Sm cs ∧ cs.length ≤ j) (fun _ k _ _ _ _ _ _ => xs.length - (intOf k).toNat)
  case atStart => exact ⟨0, [], rfl, .inl rfl, (by repeat (first | with_reducible exact Below.refl _ _ | with_reducible apply Below.ofExt | with_reducible apply Below.ofAlloc | with_reducible apply Below.drew | with_reducible apply Below.ofDrewN | with_reducible assumption | (with_reducible refine Below.setCell ?_ (by first | exact Nat.le_refl _ | (simp [go_sem]; done) | (simp [go_sem]; omega)) _))), HL0.out, HP2.out.alloc _, HE2.out.alloc _, by rw [List.take_zero]; exact ReadsTo.nil, Sm.nil, by simp⟩
  case round =>
    clear HL0 HE2 HP2
    obtain ⟨j, cs, rfl, hj, hbel, ho, hp, he, hrt, hsmc, hcl⟩ := hrel
    rename_i wr
    obtain ⟨oa, oc, rfl⟩ := ho.rd.form
    have HO := Lib.hid ho
    have HP := Lib.hid hp
    have HE := Lib.hid he
    have HRT := Lib.hid hrt
    have HSC := Lib.hid hsmc
    have hws := hbel.size
    clear ho he hrt hsmc
    by_cases hlt : ((j + 1 : Nat) : Int) < (xs.length : Int) - 1
    case pos =>
      have hk : j + 1 < xs.length := by omega
      obtain ⟨hk2, hwx⟩ := map_get xs ws HXS.out hk
      obtain ⟨_, pb', po', hpe, hpl, y0⟩ := str_at hp hk
      cases hpe
      have hsx : xs[j + 1].size ≤ 1048576 := Nat.le_trans (HSM.out _ (List.getElem_mem hk)) hs
      have hsx2 : xs[j + 1].size ≤ 4000 := Nat.le_trans (HSM.out _ (List.getElem_mem hk)) (by omega)
      have hmg := mid_get (ws := ws) (j := j) (by omega)
      have hms := mid_step (ws := ws) (j := j) (by omega)
      rw [hwx] at hmg hms
      have HMG := Lib.hid hmg
      have HMS := Lib.hid hms
      generalize xs[j + 1] = x at *
      clear hp hmg hms
      go_wp2_with fail
      (go_at_call 69; refine (spec_l21Split x 61 _ hsx).mono ?_; rintro e w3 ⟨qv, qs, rfl, hq, hqs, hb3⟩)
      have hbw3 : Below w.heap.size w w3 := Below.then hbel hb3
      have HE3 := Lib.hid (own_bel HE.out hb3)
      have HP3 := Lib.hid (own_bel HP.out hb3)
      have HO3 := Lib.hid (own_bel HO.out hb3)
      have hws3 := hb3.size
      have hqsm : ∀ x' ∈ qs, x'.size ≤ x.size := split_small hqs
      obtain ⟨qa, qc, rfl⟩ := hq.rd.form
      clear hb3 HE HP HO hbel y0 hpl
      by_cases hq2 : qs.length = 2
      case neg =>
        have hno := read_no2 (t := s) (i := j) (by rw [← HWS.out]; exact HMG.out) (by rw [← hqs, List.length_map]; exact hq2)
        have HNO := Lib.hid hno
        have hq2' : ((qs.length : Int) == 2) = false := by rw [beq_eq_false_iff_ne]; omega
        clear hno hqs hq2
        go_wp2
        refine bodyPost_ret (by simp [results, Tryz.results37, go_sem]; rfl) rfl ?_
        exact RrP.mk HE3.out (RrOk.no HNO.out) (by repeat (first | with_reducible exact Below.refl _ _ | with_reducible apply Below.ofExt | with_reducible apply Below.ofAlloc | with_reducible apply Below.drew | with_reducible apply Below.ofDrewN | with_reducible assumption | (with_reducible refine Below.setCell ?_ (by first | exact Nat.le_refl _ | (simp [go_sem]; done) | (simp [go_sem]; omega)) _)))
      obtain ⟨qx, qy, rfl, hqq⟩ := two_of hqs hq2
      have hsqx : qx.size ≤ 4000 := Nat.le_trans (hqsm qx (by simp)) hsx2
      have hsqy : qy.size ≤ 4000 := Nat.le_trans (hqsm qy (by simp)) hsx2
      obtain ⟨_, qb, qo, rfl, hql, yx⟩ := str_at hq (i := 0) (by simp)
      obtain ⟨_, qb', qo', hqe, _, yy⟩ := str_at hq (i := 1) (by simp)
      cases hqe
      simp only [List.getElem_cons_zero, List.getElem_cons_succ, Nat.add_zero] at yx yy
      have HQ := Lib.hid hqq
      clear hqs hq2 hqsm hq hqq
      go_wp2_with fail
      (go_at_call 71; refine (spec_Unhex qx _ (by omega)).mono ?_; rintro e w4 ⟨rk, okk, rfl, hrk, huk, hb4⟩)
      have hbw4 : Below w.heap.size w w4 := Below.then hbw3 hb4
      have HE4 := Lib.hid (own_bel HE3.out hb4)
      have HP4 := Lib.hid (own_bel HP3.out hb4)
      have HO4 := Lib.hid (own_bel HO3.out hb4)
      have y4 := (Grew.below hb4).cell yy
      have hql4 := Nat.lt_of_lt_of_le hql hb4.size
      have hws4 := hb4.size
      have HUK := Lib.hid huk
      clear hb4 HE3 HP3 HO3 yx yy hql hbw3 huk
      go_wp2_with fail
      (go_at_call 71; refine (spec_Unhex qy _ (by omega)).mono ?_; rintro e w5 ⟨rv, okv, rfl, hrv, huv, hb5⟩)
      have hbw5 : Below w.heap.size w w5 := Below.then hbw4 hb5
      have HE5 := Lib.hid (own_bel HE4.out hb5)
      have HP5 := Lib.hid (own_bel HP4.out hb5)
      have HO5 := Lib.hid (own_bel HO4.out hb5)
      have hws5 := hb5.size
      have hcell := cellR_split (w := x.data.toList) (a := qx.data.toList) (b := qy.data.toList) (k := rk) (v := rv) HQ.out HUK.out huv
      have hrt2 := HRT.out.snoc hcell
      rw [← HMS.out] at hrt2
      have HRT2 := Lib.hid hrt2
      have HAP := Lib.hid (own_apart HP5.out HO5.out (by decide))
      have HAE := Lib.hid (own_apartB (b := w.heap.size) (n := 0) (c := 0) HO5.out (Nat.lt_succ_self _))
      clear hb5 HE4 HP4 HO4 y4 hql4 hbw4 huv hcell hrt2 HQ
      go_wp2_with (at_builtin; refine Stop.here ?_)
      refine wpList_appL rfl _ _ _ rfl (R := rCell) (e := 39) Tryz.elemCellS (B := w.heap.size + 1) (v := .slice oa cs.length oc) (xs := cs) (HO5.out.alloc _) rfl (ys := [⟨rk, rv⟩]) (RdL.oneAt rCell _ ⟨rk, rv⟩ _ rfl _ _ rfl) rfl (by simp only [List.length_singleton]; omega) (by simp only [List.length_singleton]; unfold maxLen; omega) (by rw [World.size_alloc]; omega) ?_
      intro w6v w6 ho6 hg6 _
      have hb6 : Below w.heap.size w w6 := Below.appL (a := w) (R := rCell) (e := 39) (v := .slice oa cs.length oc) (xs := cs) (by repeat (first | with_reducible exact Below.refl _ _ | with_reducible apply Below.ofExt | with_reducible apply Below.ofAlloc | with_reducible apply Below.drew | with_reducible apply Below.ofDrewN | with_reducible assumption | (with_reducible refine Below.setCell ?_ (by first | exact Nat.le_refl _ | (simp [go_sem]; done) | (simp [go_sem]; omega)) _))) hg6 ((HO5.out.base (Nat.le_succ _)).alloc _)
      have hp6 := OwnL.kept (v := .slice (some ⟨pb, po, none⟩) xs.length pc) (HP5.out.alloc _) hg6 HAP.out
      have he6 := OwnL.kept (v := .slice (some ⟨w.heap.size, 0, none⟩) 0 0) (HE5.out.alloc _) hg6 HAE.out
      have HO6 := Lib.hid ho6
      have HP6 := Lib.hid hp6
      have HE6 := Lib.hid he6
      clear ho6 hp6 he6 hg6 HO5 HP5 HE5 HAP HAE
      go_wp2
      go_roundw
      case rel => exact ⟨j + 1, _, by go_num, by omega, hb6, HO6.out, HP6.out, HE6.out, HRT2.out, HSC.out.snoc hrk hrv, by rw [List.length_append, List.length_singleton]; omega⟩
      case measure => simp [intOf]; omega
    case neg =>
      have hall := mid_all (ws := ws) (j := j) (by omega)
      have hrt := HRT.out
      rw [hall] at hrt
      have hml := mid_len ws
      have hcs := hrt.length
      have hrd := cells_rdS HO.out HSC.out
      rw [HWS.out] at hrt
      have hnum := HN.out
      rw [HWS.out] at hnum
      have HNO := Lib.hid (fun h => read_no (t := s) hnum hrt h)
      have hcl2 : cs.length ≤ 1048576 := by omega
      have D := spec_RecordText n (.slice oa cs.length oc) cs wr hrd hcl2
      have HD := Lib.hid D
      clear hrt hnum hp D hrd hall hml hcs
      go_wp2_with fail
      (go_at_call 16; refine HD.out.mono ?_; rintro e w3 ⟨rfl, hb3⟩)
      have hbw3 : Below w.heap.size w w3 := Below.then hbel hb3
      have HE3 := Lib.hid (own_bel HE.out hb3)
      have HO3 := Lib.hid (own_bel (HO.out.base (Nat.le_succ _)) hb3)
      have hsr := recText_size n cs
      obtain ⟨r, hr⟩ : ∃ r, r = recText n cs := ⟨_, rfl⟩
      rw [← hr] at HNO hsr ⊢
      have HR := Lib.hid hr
      clear hb3 HE HO hr HD
      cases ok with
      | false =>
        go_wp2
        refine bodyPost_ret (by simp [results, Tryz.results37, go_sem]; rfl) rfl ?_
        exact RrP.mk HE3.out (RrOk.no (HNO.out (.inr (.inr trivial)))) hbw3
      | true =>
        have HF := Lib.hid (rr_fail r s)
        have HH := Lib.hid (rr_hold r s)
        by_cases h0 : r.toList = []
        · have h1 : r.toList.isEmpty = true := by rw [h0]; rfl
          have hno := HNO.out (HF.out (.inl h0))
          have HNN := Lib.hid hno
          clear hno HNO
          go_wp2
          refine bodyPost_ret (by simp [results, Tryz.results37, go_sem]; rfl) rfl ?_
          exact RrP.mk HE3.out (RrOk.no HNN.out) hbw3
        · have h1 : r.toList.isEmpty = false := by rw [List.isEmpty_eq_false_iff]; exact h0
          cases h2 : (r.toList == s.toList) with
          | false =>
            have hno := HNO.out (HF.out (.inr h2))
            have HNN := Lib.hid hno
            clear hno HNO
            go_wp2
            refine bodyPost_ret (by simp [results, Tryz.results37, go_sem]; rfl) rfl ?_
            exact RrP.mk HE3.out (RrOk.no HNN.out) hbw3
          | true =>
            have hyes := HH.out h0 h2
            have HY := Lib.hid (RrOk.yes (n := n) (cs := cs) (s := s) (by rw [← HR.out]; exact hyes.1) hyes.2)
            clear hyes HNO
            go_wp2
            refine bodyPost_ret (by simp [results, Tryz.results37, go_sem]; rfl) rfl ?_
            exact RrP.mk HO3.out HY.out hbw3
end Go.Proofs.YtedgenmbdjadkaaGreatDoor
namespace Go.Proofs.YtedgenmbdjadkaaGreatDoor
open Go.ChangeShapes Go.WideShapes Go.ChangeAt Go.RowKit

/-- the lines of a text: each ends with byte 10 -/
def linesL (l : List UInt8) : List (List UInt8) := (splitL 10 l).dropLast.map (· ++ [10])
theorem linesL_none {l : List UInt8} (h : (10 : UInt8) ∉ l) : linesL l = [] := by
  unfold linesL
  rw [splitL_none 10 l h]
  rfl
theorem linesL_app {a : List UInt8} (l : List UInt8) (h : (10 : UInt8) ∉ a) : linesL (a ++ 10 :: l) = (a ++ [10]) :: linesL l := by
  unfold linesL
  rw [splitL_app 10 a l h]
  cases hh : splitL 10 l with
  | nil => exact absurd hh (splitL_ne 10 l)
  | cons b c => simp [List.dropLast]
theorem linesL_len (l : List UInt8) : (linesL l).length ≤ l.length := by
  unfold linesL
  rw [List.length_map, List.length_dropLast]
  have := splitL_length 10 l
  omega
theorem linesL_mem {l w : List UInt8} (h : w ∈ linesL l) : w.length ≤ l.length + 1 := by
  unfold linesL at h
  obtain ⟨a, ha, rfl⟩ := List.mem_map.1 h
  have := splitL_mem 10 l a (List.dropLast_subset _ ha)
  simp
  omega
def LinesTo (L : List UInt8) (xs : List ByteArray) (b i : Nat) : Prop := i ≤ L.length ∧ b ≤ i ∧ (10 : UInt8) ∉ (L.drop b).take (i - b) ∧ xs.map (·.data.toList) ++ linesL (L.drop b) = linesL L
theorem LinesTo.nil (L : List UInt8) : LinesTo L [] 0 0 := ⟨by omega, by omega, by simp, by simp⟩
theorem LinesTo.same {L : List UInt8} {xs : List ByteArray} {b i : Nat} (h : LinesTo L xs b i) (hi : i < L.length) (hc : L[i] ≠ 10) : LinesTo L xs b (i + 1) := by
  obtain ⟨h1, h2, h3, h4⟩ := h
  refine ⟨by omega, by omega, ?_, h4⟩
  rw [take_drop_step L b i h2 hi]
  intro hm
  rcases List.mem_append.1 hm with hm | hm
  · exact h3 hm
  · exact hc (List.mem_singleton.1 hm).symm
theorem LinesTo.cut {L : List UInt8} {xs : List ByteArray} {b i : Nat} (h : LinesTo L xs b i) (hi : i < L.length) (hc : L[i] = 10) {s : ByteArray} (hs : s.data.toList = (L.drop b).take (i + 1 - b)) : LinesTo L (xs ++ [s]) (i + 1) (i + 1) := by
  obtain ⟨h1, h2, h3, h4⟩ := h
  refine ⟨by omega, by omega, by simp, ?_⟩
  have e : L.drop b = (L.drop b).take (i - b) ++ 10 :: L.drop (i + 1) := by
    conv => lhs; rw [← List.take_append_drop (i - b) (L.drop b)]
    rw [List.drop_drop, show b + (i - b) = i by omega, List.drop_eq_getElem_cons hi, hc]
  rw [e, linesL_app _ h3] at h4
  rw [take_drop_step L b i h2 hi, hc] at hs
  rw [List.map_append, List.append_assoc, ← h4, ← hs]
  rfl
theorem LinesTo.all {L : List UInt8} {xs : List ByteArray} {b i : Nat} (h : LinesTo L xs b i) (hi : L.length ≤ i) : xs.map (·.data.toList) = linesL L := by
  obtain ⟨h1, h2, h3, h4⟩ := h
  rw [List.take_of_length_le (by rw [List.length_drop]; omega)] at h3
  rw [linesL_none h3, List.append_nil] at h4
  exact h4
/-- what the readers of lines leave -/
def LnP (t : TypeId) (s : ByteArray) (w : World) (e : Ending) (w' : World) : Prop := ∃ v xs, e = .returned v ∧ OwnL rStr t w' w.heap.size v xs ∧ xs.map (·.data.toList) = linesL s.data.toList ∧ Below w.heap.size w w'
theorem LnP.mk {t : TypeId} {s : ByteArray} {v : Value} {xs : List ByteArray} {w w' : World} (h1 : OwnL rStr t w' w.heap.size v xs) (h2 : xs.map (·.data.toList) = linesL s.data.toList) (h3 : Below w.heap.size w w') : LnP t s w (.returned v) w' := ⟨v, xs, rfl, h1, h2, h3⟩
set_option maxRecDepth 100000 in
set_option maxHeartbeats 2000000 in
theorem spec_LinesIn (s : ByteArray) (w : World) (hs : s.size ≤ 1048576) :
    Calls Tryz.prog 35 #[.string s] w (LnP 9 s w) := by
  have hsl : s.data.toList.length = s.size := by simp
  go_enter Tryz.func35, Tryz.ntmps35
  go_wp2
  go_loopw [3, 4, 5] (fun o b k wr => ∃ (i j : Nat) (xs : List ByteArray), k = .int .i64 i ∧ b = .int .i64 j ∧ i ≤ s.size ∧ xs.length ≤ i ∧ Below w.heap.size w wr ∧ OwnL rStr 9 wr w.heap.size o xs ∧ LinesTo s.data.toList xs j i) (fun _ _ k _ => s.size - (intOf k).toNat)
  case atStart => exact ⟨0, 0, [], rfl, rfl, by omega, by simp, (by repeat (first | with_reducible exact Below.refl _ _ | with_reducible apply Below.ofExt | with_reducible apply Below.ofAlloc | with_reducible apply Below.drew | with_reducible apply Below.ofDrewN | with_reducible assumption | (with_reducible refine Below.setCell ?_ (by first | exact Nat.le_refl _ | (simp [go_sem]; done) | (simp [go_sem]; omega)) _))), OwnL.empty _ _ _, LinesTo.nil _⟩
  case round =>
    obtain ⟨i, j, xs, rfl, rfl, hi, hxl, hbel, ho, hc⟩ := hrel
    obtain ⟨X, rfl⟩ := hbel.ext
    obtain ⟨oa, oc, rfl⟩ := ho.rd.form
    have hji := hc.2.1
    have HO := Lib.hid ho
    have HC := Lib.hid hc
    have HSL := Lib.hid hsl
    clear ho hc hsl
    by_cases hlt : (i : Int) < s.size
    case pos =>
      have hk : i < s.size := by omega
      have hk2 : i < s.data.toList.length := by rw [HSL.out]; omega
      have e1 : s.data.toList[i]'hk2 = s[i] := rfl
      by_cases hcc : s[i] = 10
      · have hcc2 : ((s[i].toNat : Int) == 10) = true := by rw [hcc]; rfl
        have hst := HC.out.cut hk2 (by rw [e1]; exact hcc) (cut_list s j (i + 1))
        have HST := Lib.hid hst
        clear e1 hst
        go_wp2_with (at_builtin; refine Stop.here ?_)
        refine wpList_appL rfl _ _ _ rfl (R := rStr) (e := 9) Tryz.elemStrR (B := w.heap.size) (v := .slice oa xs.length oc) (xs := xs) (HO.out.alloc _) rfl (ys := [s.extract j (i + 1)]) (RdL.oneAt rStr _ (s.extract j (i + 1)) _ rfl _ _ (by simp [World.ext_size])) rfl (by simp only [List.length_singleton]; omega) (by simp only [List.length_singleton]; unfold maxLen; omega) (by simp [World.ext_size]; omega) ?_
        intro v4 w4 hown4 hgr4 _
        have hb4 : Below w.heap.size w w4 := Below.appL (a := w) (R := rStr) (e := 9) (v := .slice oa xs.length oc) (xs := xs) (by repeat (first | with_reducible exact Below.refl _ _ | with_reducible apply Below.ofExt | with_reducible apply Below.ofAlloc | with_reducible apply Below.drew | with_reducible apply Below.ofDrewN | with_reducible assumption | (with_reducible refine Below.setCell ?_ (by first | exact Nat.le_refl _ | (simp [go_sem]; done) | (simp [go_sem]; omega)) _))) hgr4 (HO.out.alloc _)
        obtain ⟨Y, rfl⟩ := hb4.ext
        have HO4 := Lib.hid hown4
        clear hown4 hgr4 hb4
        go_wp2
        go_roundw
        case rel => exact ⟨i + 1, i + 1, _, by go_num, by go_num, by omega, by rw [List.length_append, List.length_singleton]; omega, (by repeat (first | with_reducible exact Below.refl _ _ | with_reducible apply Below.ofExt | with_reducible apply Below.ofAlloc | with_reducible apply Below.drew | with_reducible apply Below.ofDrewN | with_reducible assumption | (with_reducible refine Below.setCell ?_ (by first | exact Nat.le_refl _ | (simp [go_sem]; done) | (simp [go_sem]; omega)) _))), HO4.out, HST.out⟩
        case measure => simp [intOf]; omega
      · have hcc2 : ((s[i].toNat : Int) == 10) = false := by
          rw [beq_eq_false_iff_ne]
          intro e
          exact hcc (UInt8.toNat_inj.1 (by show s[i].toNat = 10; omega))
        have hst := HC.out.same hk2 (by rw [e1]; exact hcc)
        have HST := Lib.hid hst
        clear hst hcc e1
        go_wp2
        go_roundw
        case rel => exact ⟨i + 1, j, xs, by go_num, rfl, by omega, by omega, (by repeat (first | with_reducible exact Below.refl _ _ | with_reducible apply Below.ofExt | with_reducible apply Below.ofAlloc | with_reducible apply Below.drew | with_reducible apply Below.ofDrewN | with_reducible assumption | (with_reducible refine Below.setCell ?_ (by first | exact Nat.le_refl _ | (simp [go_sem]; done) | (simp [go_sem]; omega)) _))), HO.out, HST.out⟩
        case measure => simp [intOf]; omega
    case neg =>
      have hx := HC.out.all (by rw [HSL.out]; omega)
      have HX := Lib.hid hx
      clear hx
      go_wp2
      go_ret
      exact LnP.mk HO.out HX.out (by repeat (first | with_reducible exact Below.refl _ _ | with_reducible apply Below.ofExt | with_reducible apply Below.ofAlloc | with_reducible apply Below.drew | with_reducible apply Below.ofDrewN | with_reducible assumption | (with_reducible refine Below.setCell ?_ (by first | exact Nat.le_refl _ | (simp [go_sem]; done) | (simp [go_sem]; omega)) _)))
end Go.Proofs.YtedgenmbdjadkaaGreatDoor
namespace Go.Proofs.YtedgenmbdjadkaaGreatDoor
open Go.ChangeShapes Go.WideShapes Go.ChangeAt Go.RowKit

/-- one line more -/
def recStep (fr : Int) (out : List (List CellD)) (sz : Int) (line : ByteArray) : Option (List (List CellD) × Int) :=
  match readI line with
  | none => none
  | some (seq, cs) =>
    if out.length = 0 ∧ seq < fr then some (out, sz + line.size)
    else if seq = fr + out.length then some (out ++ [cs], sz + line.size)
    else none
def recs (fr : Int) : List ByteArray → List (List CellD) → Int → List (List CellD) × Int
  | [], out, sz => (out, sz)
  | l :: ls, out, sz => match recStep fr out sz l with
    | none => (out, sz)
    | some p => recs fr ls p.1 p.2
/-- the lines of a text -/
def linesB (s : ByteArray) : List ByteArray := (linesL s.data.toList).map strOf
theorem linesB_eq {s : ByteArray} {xs : List ByteArray} (h : xs.map (·.data.toList) = linesL s.data.toList) : xs = linesB s := by
  unfold linesB
  rw [← h, List.map_map]
  conv => lhs; rw [← List.map_id xs]
  refine List.map_congr_left fun x _ => ?_
  exact (strOf_data x).symm
def recsI (s : ByteArray) (fr : Int) : List (List CellD) × Int := if inB fr 1 100000 then recs fr (linesB s) [] 0 else ([], 0)
theorem recs_end (fr : Int) (ls : List ByteArray) (n : Nat) (out : List (List CellD)) (sz : Int) (h : ls.length ≤ n) : recs fr (ls.drop n) out sz = (out, sz) := by
  rw [List.drop_eq_nil_of_le h]
  rfl
theorem recs_none {fr : Int} {ls : List ByteArray} {n : Nat} {out : List (List CellD)} {sz : Int} (hn : n < ls.length) (h : recStep fr out sz ls[n] = none) : recs fr (ls.drop n) out sz = (out, sz) := by
  rw [List.drop_eq_getElem_cons hn]
  unfold recs
  rw [h]
theorem recs_some {fr : Int} {ls : List ByteArray} {n : Nat} {out : List (List CellD)} {sz : Int} {p : List (List CellD) × Int} (hn : n < ls.length) (h : recStep fr out sz ls[n] = some p) : recs fr (ls.drop n) out sz = recs fr (ls.drop (n + 1)) p.1 p.2 := by
  rw [List.drop_eq_getElem_cons hn]
  conv => lhs; unfold recs
  rw [h]
theorem step_no {fr : Int} {out : List (List CellD)} {sz : Int} {line : ByteArray} (h : readI line = none) : recStep fr out sz line = none := by
  unfold recStep
  rw [h]
theorem step_skip {fr seq : Int} {cs : List CellD} {out : List (List CellD)} {sz : Int} {line : ByteArray} (h : readI line = some (seq, cs)) (h1 : out.length = 0) (h2 : seq < fr) : recStep fr out sz line = some (out, sz + line.size) := by
  unfold recStep
  rw [h]
  exact if_pos ⟨h1, h2⟩
theorem step_add {fr seq : Int} {cs : List CellD} {out : List (List CellD)} {sz : Int} {line : ByteArray} (h : readI line = some (seq, cs)) (h1 : seq = fr + out.length) : recStep fr out sz line = some (out ++ [cs], sz + line.size) := by
  unfold recStep
  rw [h]
  show (if _ then _ else if _ then _ else _) = _
  rw [if_neg (by omega), if_pos h1]
theorem step_stop {fr seq : Int} {cs : List CellD} {out : List (List CellD)} {sz : Int} {line : ByteArray} (h : readI line = some (seq, cs)) (h1 : ¬ (out.length = 0 ∧ seq < fr)) (h2 : seq ≠ fr + out.length) : recStep fr out sz line = none := by
  unfold recStep
  rw [h]
  show (if _ then _ else if _ then _ else _) = _
  rw [if_neg h1, if_neg h2]
/-- a slice value -/
structure SlH where
  ao : Option Addr
  n : Nat
  cap : Nat
def SlH.val (h : SlH) : Value := .slice h.ao h.n h.cap
def rSl : RowOf SlH := ⟨fun h => [h.val], 1, fun _ => rfl, fun h u hu => by simp at hu; subst hu; rfl⟩
theorem Tryz.elemCellSS : Elem Tryz.prog 22 35 1 24 := Elem.of (.slice none 0 0) Tryz.underlying22 (by kernel_rfl) rfl (by decide)
/-- a list of lists of cells that a call owns -/
structure OwnSS (w : World) (B : Nat) (v : Value) (ls : List (List CellD)) (hs : List SlH) (fps : List (List Nat)) : Prop where
  row : OwnL rSl 35 w B v hs
  el : RowsOwn (vSlice vCell 39) w (hs.map rSl.row) fps ls
  lo : ∀ b ∈ fps.flatten, B ≤ b
  nd : fps.flatten.Nodup
theorem cells_tag {w : World} {fp : List Nat} {cs : List Value} {xs : List CellD} {e : TypeId} (h : (vSlice vCell e).own w fp cs xs) : ∀ b ∈ fp, ∃ blk, w.heap[b]? = some (.cells blk e (0, 0)) := by
  intro b hb
  rcases h with ⟨_, _, rfl⟩ | ⟨g, cap, blk, css, fps, _, hh, _, _, _, _, rfl, _, h8, h9⟩
  · simp at hb
  · rcases List.mem_cons.1 hb with rfl | hb
    · exact ⟨blk, hh⟩
    · obtain ⟨l, hl, hbl⟩ := List.mem_flatten.1 hb
      obtain ⟨i, hi, rfl⟩ := List.getElem_of_mem hl
      have := (h9 i (by omega) (by omega) hi).1
      rw [this] at hbl
      simp at hbl
section
variable {w w' : World} {B : Nat} {v : Value} {ls : List (List CellD)} {hs : List SlH} {fps : List (List Nat)}
theorem OwnSS.len (h : OwnSS w B v ls hs fps) : hs.length = ls.length := by have := h.el.cl; simpa using this
theorem OwnSS.bel (h : OwnSS w B v ls hs fps) (hb : Below w.heap.size w w') : OwnSS w' B v ls hs fps :=
  ⟨own_bel h.row hb, h.el.frame fun b hm => (Grew.below hb) b (h.el.lt b hm), h.lo, h.nd⟩
theorem OwnSS.base {B' : Nat} (h : OwnSS w B v ls hs fps) (hb : B' ≤ B) : OwnSS w B' v ls hs fps := ⟨h.row.base hb, h.el, fun b hm => Nat.le_trans hb (h.lo b hm), h.nd⟩
theorem OwnSS.alloc (h : OwnSS w B v ls hs fps) (o : Obj) : OwnSS (w.alloc o) B v ls hs fps :=
  ⟨h.row.alloc o, h.el.frame fun b hm => Grew.alloc w o b (h.el.lt b hm), h.lo, h.nd⟩
theorem OwnSS.form (h : OwnSS w B v ls hs fps) : ∃ ao cap, v = .slice ao ls.length cap := by
  obtain ⟨ao, cap, e⟩ := h.row.rd.form
  exact ⟨ao, cap, by rw [e, h.len]⟩
theorem OwnSS.nil (w : World) (B : Nat) : OwnSS w B (.slice none 0 0) [] [] [] := ⟨OwnL.nil _ _ _ _, RowsOwn.nil _ _, by simp, by simp⟩
theorem OwnSS.empty (w : World) : OwnSS (w.alloc (.cells #[] 35)) w.heap.size (.slice (some ⟨w.heap.size, 0, none⟩) 0 0) [] [] [] := ⟨OwnL.empty _ _ _, RowsOwn.nil _ _, by simp, by simp⟩
/-- one list more -/
theorem OwnSS.snoc {ao : Option Addr} {n cap : Nat} {cs : List CellD} {fp : List Nat} {v' : Value} (h : OwnSS w B v ls hs fps) (hc : (vSlice vCell 39).own w fp [.slice ao n cap] cs) (hnd : fp.Nodup) (hlo : ∀ b ∈ fp, B ≤ b) (hap : ∀ b ∈ fps.flatten, b ∉ fp)
    (hr : OwnL rSl 35 w' B v' (hs ++ [⟨ao, n, cap⟩])) (hg : w.grownBy w' v.ownBlock) : OwnSS w' B v' (ls ++ [cs]) (hs ++ [⟨ao, n, cap⟩]) (fps ++ [fp]) := by
  have h1 := h.el.snoc hc
  refine ⟨hr, ?_, fun b hb => ?_, ?_⟩
  · rw [List.map_append]
    refine RowsOwn.frame h1 fun b hb => hg.block b (h1.lt b hb) fun e => ?_
    obtain ⟨l, hl, hbl⟩ := List.mem_flatten.1 hb
    obtain ⟨i, hi, rfl⟩ := List.getElem_of_mem hl
    obtain ⟨blk, hh⟩ := cells_tag (h1.el i (by have := h1.fl; omega) (by have := h1.fl; have := h1.cl; omega) hi) b hbl
    rcases h.row.2 with ⟨rfl, _⟩ | ⟨g, cap', cur, rfl, _, hh', _⟩
    · simp [Value.ownBlock] at e
    · have e : b = g := by simpa [Value.ownBlock] using e
      subst e
      rw [hh] at hh'
      injection hh' with hh'
      injection hh' with _ hh'
      exact absurd hh' (by decide)
  · rw [List.flatten_append] at hb
    rcases List.mem_append.1 hb with hb | hb
    · exact h.lo b hb
    · exact hlo b (by simpa using hb)
  · rw [List.flatten_append]
    refine List.nodup_append.2 ⟨h.nd, by simpa using hnd, fun a ha b hb e => ?_⟩
    subst e
    exact hap a ha (by simpa using hb)
theorem OwnSS.own (h : OwnSS w B v ls hs fps) : ∃ fp : List Nat, (vSlice (vSlice vCell 39) 35).own w fp [v] ls ∧ fp.Nodup ∧ ∀ b ∈ fp, B ≤ b := by
  have hl := h.len
  rcases h.row.2 with ⟨rfl, h0⟩ | ⟨g, cap, cur, rfl, hg, hh, hn, hm, hsz, ht⟩
  · have : ls = [] := List.eq_nil_of_length_eq_zero (by omega)
    subst this
    exact ⟨[], .inl ⟨rfl, rfl, rfl⟩, List.nodup_nil, by simp⟩
  · refine ⟨g :: fps.flatten, vSlice.ownRows hh hl hn hm hsz (by rw [← List.flatMap_def]; exact ht) h.el, ?_, ?_⟩
    · refine List.nodup_cons.2 ⟨fun hb => ?_, h.nd⟩
      obtain ⟨l, hl, hbl⟩ := List.mem_flatten.1 hb
      obtain ⟨i, hi, rfl⟩ := List.getElem_of_mem hl
      obtain ⟨blk, hh'⟩ := cells_tag (h.el.el i (by have := h.el.fl; omega) (by have := h.el.fl; have := h.el.cl; omega) hi) g hbl
      rw [hh] at hh'
      injection hh' with hh'
      injection hh' with _ hh'
      exact absurd hh' (by decide)
    · intro b hb
      rcases List.mem_cons.1 hb with rfl | hb
      · exact hg
      · exact h.lo b hb
end
/-- what the readers of records leave -/
def RsP (s : ByteArray) (fr : Int) (w : World) (e : Ending) (w' : World) : Prop := ∃ v sz ls hs fps, e = .returned (.tuple #[v, .int .i64 sz]) ∧ OwnSS w' w.heap.size v ls hs fps ∧ recsI s fr = (ls, sz) ∧ Below w.heap.size w w'
theorem RsP.mk {s : ByteArray} {fr sz : Int} {v : Value} {ls : List (List CellD)} {hs : List SlH} {fps : List (List Nat)} {w w' : World} (h1 : OwnSS w' w.heap.size v ls hs fps) (h2 : recsI s fr = (ls, sz)) (h3 : Below w.heap.size w w') : RsP s fr w (.returned (.tuple #[v, .int .i64 sz])) w' := ⟨v, sz, ls, hs, fps, rfl, h1, h2, h3⟩
theorem recsI_out {s : ByteArray} {fr : Int} (h : inB fr 1 100000 = false) : recsI s fr = ([], 0) := by unfold recsI; rw [h]; rfl
theorem recsI_in {s : ByteArray} {fr : Int} (h : inB fr 1 100000 = true) : recsI s fr = recs fr (linesB s) [] 0 := by unfold recsI; rw [h]; rfl
theorem linesB_len (s : ByteArray) : (linesB s).length ≤ s.size := by
  unfold linesB
  rw [List.length_map]
  have := linesL_len s.data.toList
  have e : s.data.toList.length = s.size := by simp
  omega
theorem first10 {l : List UInt8} (h : (10 : UInt8) ∈ l) : ∃ a r, l = a ++ 10 :: r ∧ (10 : UInt8) ∉ a := by
  induction l with
  | nil => cases h
  | cons b l ih =>
    by_cases e : b = 10
    · exact ⟨[], l, by rw [e]; rfl, by simp⟩
    · have hm : (10 : UInt8) ∈ l := by
        rcases List.mem_cons.1 h with h | h
        · exact absurd h.symm e
        · exact h
      obtain ⟨a, r, rfl, ha⟩ := ih hm
      refine ⟨b :: a, r, rfl, fun hm => ?_⟩
      rcases List.mem_cons.1 hm with hm | hm
      · exact e hm.symm
      · exact ha hm
theorem linesL_sum : ∀ (m : Nat) (l : List UInt8), l.length ≤ m → ((linesL l).map List.length).sum ≤ l.length
  | 0, l, h => by
    have : l = [] := List.eq_nil_of_length_eq_zero (by omega)
    subst this
    decide
  | m + 1, l, h => by
    by_cases hm : (10 : UInt8) ∈ l
    · obtain ⟨a, r, rfl, ha⟩ := first10 hm
      rw [List.length_append, List.length_cons] at h
      have := linesL_sum m r (by omega)
      rw [linesL_app r ha, List.map_cons, List.sum_cons, List.length_append, List.length_append, List.length_cons]
      simp
      omega
    · rw [linesL_none hm]
      simp
theorem mem_sum : ∀ (ns : List Nat) (n : Nat), n ∈ ns → n ≤ ns.sum
  | [], _, h => by cases h
  | m :: ns, n, h => by
    rcases List.mem_cons.1 h with rfl | h
    · simp
    · have := mem_sum ns n h
      simp
      omega
theorem linesB_mem {s x : ByteArray} (h : x ∈ linesB s) : x.size ≤ s.size := by
  unfold linesB at h
  obtain ⟨a, ha, rfl⟩ := List.mem_map.1 h
  have h1 := mem_sum ((linesL s.data.toList).map List.length) a.length (List.mem_map.2 ⟨a, ha, rfl⟩)
  have h2 := linesL_sum _ s.data.toList (Nat.le_refl _)
  have e : s.data.toList.length = s.size := by simp
  rw [strOf_size]
  omega
end Go.Proofs.YtedgenmbdjadkaaGreatDoor
namespace Go.Proofs.YtedgenmbdjadkaaGreatDoor
open Go.RowKit

variable {P : Program}
/-- what abides a turn of a block from lo up to hi -/
def Turns {β : Type} (lo hi : Nat) (J : β → World → Prop) : Prop := ∀ s W p o, lo ≤ p → p < hi → J s W → J s (W.setB p o)
/-- these blocks are as they were -/
def Same (K : Nat → Prop) (W W' : World) : Prop := ∀ p, K p → W'.heap[p]? = W.heap[p]?
/-- the iterator's word: its own cells lie from lo up to hi -/
def SeqOwn {α : Type} (n : Nat) (P : Program) (g : Nat) (lb : Array Value) (enc : α → Value) (lo hi : Nat) (K : Nat → Prop) (N : Nat) (X : α → Prop) (S : List α → Prop) (w : World) : Prop :=
  ∀ (l : Nat) (J : List α → World → Prop) (W : World), Below w.heap.size w W → AbidesFrom W.heap.size J → Turns lo hi J →
    (∀ pre x W1, J pre W1 → pre.length < N → X x → YieldAt Fence.wide (n - 1) P l #[enc x] W1 fun e W' => e = .returned (.bool true) ∧ J (pre ++ [x]) W' ∧ W1.heap.size ≤ W'.heap.size ∧ Same K W1 W') →
    J [] W →
    CallsIn Fence.wide n P g (#[.func (.yield l) #[] #[]] ++ lb) W fun e W' => (∃ v, e = .returned v) ∧ ∃ xs, S xs ∧ J xs W'
/-- how a round ends: it goes on -/
def goesOn {α : Type} (B : Nat) (K : Nat → Prop) (I : List α → World → Prop) (xs : List α) (W : World) : Exit → Act → World → Prop
  | .normal, _, W' => KeepsFrom B W W' ∧ Same K W W' ∧ I xs W'
  | _, _, _ => False
theorem range_own {α : Type} {n : Nat} {g : Operand} {ps : Array Tmp} {assign body : Code} {Q : Exit → Act → World → Prop} {a : Act} {w : World}
    {gf : Nat} {lb : Array Value} (hg : a.eval g = .func (.func gf) #[] lb) (eg : ∀ args w, (callFunc gf args).run P w = .ok (.enter gf args) w)
    {enc : α → Value} {lo hi : Nat} (hpc : hi ≤ w.heap.size) {K : Nat → Prop} (hK : ∀ p, K p → p < w.heap.size) {N : Nat} {X : α → Prop} {S : List α → Prop} (hseq : SeqOwn (n - 1) P gf lb enc lo hi K N X S w) (hps : ps.size = 1)
    (I : List α → World → Prop) (hI : OwnFrom w.heap.size I) (hIt : Turns lo hi I) (h0 : I [] w) (a₁ : α → Act)
    (hassign : ∀ (l : Nat) (x : α) (W : World) (K' : Act → World → Prop), K' (a₁ x) W →
      assign.wpIn (Fence.wide.inRound l) (n - 1 - 1) P (Exit.then K' (fun _ _ _ => False)) { tmps := (ps.zip #[enc x]).foldl (fun t (p, v) => t.setIfInBounds p v) a.tmps, defers := [] } W)
    (hbody : ∀ (l : Nat) (pre : List α) (x : α) (W : World), I pre W → pre.length < N → X x → body.wpIn (Fence.wide.inRound l) (n - 1 - 1) P (goesOn w.heap.size K I (pre ++ [x]) W) (a₁ x) W)
    (hdone : ∀ (D : Nat) (xs : List α) (W : World), w.heap.size ≤ D → S xs → I xs W → W.heap[D]? = some (.deferred (some [])) → Q .normal { a with defers := { target := .collected D, args := #[] } :: a.defers } W) :
    (Code.rangeFunc g ps assign body).wpIn Fence.wide n P Q a w := by
  refine wpIn_rangeFunc ?_
  intro fn hfn
  rw [Fence.wide_round]
  obtain ⟨rec, hrec⟩ : ∃ rec : LoopState → Option Code → Loop, rec = fun st pe => { state := st, pending := pe, fn, tmps := a.tmps, params := ps, assign, body, defers := w.heap.size } := ⟨_, rfl⟩
  obtain ⟨W1, hW1⟩ : ∃ W1, (w.alloc (.deferred (some []))).alloc (.loop (rec .ready none)) = W1 := ⟨_, rfl⟩
  have hL1 : W1.heap[w.heap.size + 1]? = some (.loop (rec .ready none)) := by
    rw [← hW1]; have := World.alloc_heap_new (w.alloc (.deferred (some []))) (.loop (rec .ready none)); rwa [World.size_alloc] at this
  have hK1 : W1.heap[w.heap.size]? = some (.deferred (some [])) := by
    rw [← hW1]; exact (Below.heap_alloc _ _ _ (by simp)).trans (World.alloc_heap_new w _)
  have hI1 : I [] W1 := by rw [← hW1]; exact hI.alloc _ (hI.alloc _ h0)
  have hb1 : Below w.heap.size w W1 := by
    rw [← hW1]; exact ((Below.refl _ w).alloc (Nat.le_refl _) _).alloc (by simp) _
  refine ⟨w.heap.size + 1, [{ target := .collected w.heap.size, args := #[] }], W1, { target := .fn (.func gf) lb, args := #[.func (.yield (w.heap.size + 1)) #[] #[]] }, W1, gf,
    #[.func (.yield (w.heap.size + 1)) #[] #[]] ++ lb, W1, ?_, ?_, ?_, ?_, (fun h => by simp [Fence.wide] at h), ?_⟩
  · rw [← hW1, hrec]; exact run_enterLoop_outer _ _ _ _ _
  · simp only [resolve, hg]
    simp [go_sem]
  · intro f' hf'; trivial
  · simp [invoke, go_sem, eg]
  · have hnw : ∀ {A : World} {row : Option Nat}, (∀ r, row = some r → W1.heap.size ≤ r ∧ ∃ o : Obj, A.heap[r]? = some o ∧ o.isWalk = true) → (∀ r, row = some r → w.heap.size ≤ r ∧ ∃ o : Obj, A.heap[r]? = some o ∧ o.isCells = false) :=
      fun hr r e => by obtain ⟨hB, o, ho, hw⟩ := hr r e; exact ⟨by rw [← hW1] at hB; simp at hB; omega, o, ho, Obj.not_cells_of_walk hw⟩
    refine (hseq (w.heap.size + 1)
      (fun pre W => I pre W ∧ W.heap[w.heap.size + 1]? = some (.loop (rec .ready none)) ∧ W.heap[w.heap.size]? = some (.deferred (some [])))
      W1 hb1
      (fun s A B row hs hg' hr => ⟨hI s A B row hs.1 hg' (hnw hr), (grownBy_keeps hg' (fun r e => (hr r e).2) hs.2.1 rfl).trans hs.2.1, (grownBy_keeps hg' (fun r e => (hr r e).2) hs.2.2 rfl).trans hs.2.2⟩)
      (fun s A q o h1 h2 hs => ⟨hIt s A q o h1 h2 hs.1, (World.setB_get A q o _ (by omega)).trans hs.2.1, (World.setB_get A q o _ (by omega)).trans hs.2.2⟩)
      ?_ ⟨hI1, hL1, hK1⟩).mono ?_
    · rintro pre x W ⟨hi, hl, hk⟩ hlen hX
      have hlt : w.heap.size + 1 < W.heap.size := (Array.getElem?_eq_some_iff.1 hl).1
      have hy := run_yield (P := P) (args := #[enc x]) hl (by rw [hrec]; exact hps.symm)
      rw [hrec] at hy
      refine ⟨fn, _, assign, body, hy, roundIn_of_wpIn hfn (hassign _ x W _ ⟨_, run_beginRound hl (by rw [hrec]), ?_⟩)⟩
      have hl2 : (W.putObj (w.heap.size + 1) (.loop { rec .ready none with state := .busy })).heap[w.heap.size + 1]? = some (.loop { rec .ready none with state := .busy }) := World.putObj_heap_same hlt
      have hk2 : (W.putObj (w.heap.size + 1) (.loop { rec .ready none with state := .busy })).heap[w.heap.size]? = some (.deferred (some [])) := (World.putObj_heap_other (by omega)).trans hk
      have hp2 : Same K W (W.putObj (w.heap.size + 1) (.loop { rec .ready none with state := .busy })) := fun q h1 => World.putObj_heap_other (by have := hK q h1; omega)
      have hs2 : (W.putObj (w.heap.size + 1) (.loop { rec .ready none with state := .busy })).heap.size = W.heap.size := by simp [World.putObj]
      refine wpIn_mono (hbody _ pre x _ (hI.putObj _ hi (by omega) hl rfl) hlen hX) ?_
      rintro e a3 W3 hp
      cases e with
      | normal =>
        obtain ⟨hk3, hp3, hi3⟩ := hp
        have hl3 := hk3.same _ _ (by omega) hl2 rfl
        have hr := run_endRound (P := P) none hl3
        have hlt3 := (Array.getElem?_eq_some_iff.1 hl3).1
        rw [hrec] at hr hl3
        refine ⟨_, _, hr, rfl, ⟨hI.putObj _ hi3 (by omega) hl3 rfl, ?_, ?_⟩, ?_, ?_⟩
        · rw [hrec]
          exact World.putObj_heap_same hlt3
        · exact (World.putObj_heap_other (by omega)).trans (hk3.same _ _ (Nat.le_refl _) hk2 rfl)
        · have := hk3.size
          rw [hs2] at this
          simpa [World.putObj] using this
        · exact fun q h1 => ((World.putObj_heap_other (by have := hK q h1; omega)).trans (hp3 q h1)).trans (hp2 q h1)
      | ret => exact hp.elim
      | exit id => exact hp.elim
      | goto t => exact hp.elim
      | panic ch => exact hp.elim
      | outgrown => exact hp.elim
    · rintro e W2 ⟨⟨v, rfl⟩, xs, hS, hi, hl, hk⟩
      exact ⟨none, _, by have := run_endLoop (P := P) hl (by rw [hrec]; simp); rw [hrec] at this; exact this, hdone _ xs _ (Nat.le_refl _) hS (hI.putObj _ hi (by omega) hl rfl) ((World.putObj_heap_other (by omega)).trans hk)⟩
end Go.Proofs.YtedgenmbdjadkaaGreatDoor
namespace Go.Proofs.YtedgenmbdjadkaaGreatDoor
open Go.Proofs Go.RowKit Go.Shelf Go.Lib
def Tryz.lays170_ren : Go.Shelf.Ren := ⟨fun | 170 => 54 | n => n, fun | 70 => 77 | 3 => 3 | 0 => 0 | 72 => 79 | 37 => 28 | 5 => 5 | n => n, fun | n => n⟩
theorem Tryz.lays170 : Go.Proofs.Lays.n170 Tryz.prog Tryz.lays170_ren := {
  mixed := by kernel_rfl
  f170 := Tryz.func54.trans (congrArg some (by kernel_rfl))
  t0 := Tryz.underlying0
  a0 := Tryz.isAgg0
  z0 := Tryz.sizeOf0
  v0 := Tryz.zeroValue0
  t3 := Tryz.underlying3
  a3 := Tryz.isAgg3
  z3 := Tryz.sizeOf3
  v3 := Tryz.zeroValue3
  t37 := Tryz.underlying28
  a37 := Tryz.isAgg28
  z37 := Tryz.sizeOf28
  v37 := Tryz.zeroValue28
  t70 := Tryz.underlying77
  a70 := Tryz.isAgg77
  z70 := Tryz.sizeOf77
  v70 := Tryz.zeroValue77
  t72 := Tryz.underlying79
  a72 := Tryz.isAgg79
  z72 := Tryz.sizeOf79
  v72 := Tryz.zeroValue79 }
def Tryz.lays166_ren : Go.Shelf.Ren := ⟨fun | 240 => 83 | 276 => 105 | 166 => 51 | n => n, fun | 0 => 0 | 3 => 3 | 4 => 4 | 37 => 28 | 5 => 5 | 70 => 77 | 72 => 79 | 9 => 9 | 164 => 127 | 75 => 81 | 80 => 86 | 20 => 20 | n => n, fun | n => n⟩
theorem Tryz.lays166 : Go.Proofs.Lays.n166 Tryz.prog Tryz.lays166_ren := {
  mixed := by kernel_rfl
  f166 := Tryz.func51.trans (congrArg some (by kernel_rfl))
  f240 := Tryz.func83.trans (congrArg some (by kernel_rfl))
  f276 := Tryz.func105.trans (congrArg some (by kernel_rfl))
  t0 := Tryz.underlying0
  a0 := Tryz.isAgg0
  z0 := Tryz.sizeOf0
  v0 := Tryz.zeroValue0
  t3 := Tryz.underlying3
  a3 := Tryz.isAgg3
  z3 := Tryz.sizeOf3
  v3 := Tryz.zeroValue3
  t4 := Tryz.underlying4
  a4 := Tryz.isAgg4
  z4 := Tryz.sizeOf4
  v4 := Tryz.zeroValue4
  t9 := Tryz.underlying9
  a9 := Tryz.isAgg9
  z9 := Tryz.sizeOf9
  v9 := Tryz.zeroValue9
  t20 := Tryz.underlying20
  a20 := Tryz.isAgg20
  z20 := Tryz.sizeOf20
  v20 := Tryz.zeroValue20
  t37 := Tryz.underlying28
  a37 := Tryz.isAgg28
  z37 := Tryz.sizeOf28
  v37 := Tryz.zeroValue28
  t70 := Tryz.underlying77
  a70 := Tryz.isAgg77
  z70 := Tryz.sizeOf77
  v70 := Tryz.zeroValue77
  t72 := Tryz.underlying79
  a72 := Tryz.isAgg79
  z72 := Tryz.sizeOf79
  v72 := Tryz.zeroValue79
  t75 := Tryz.underlying81
  a75 := Tryz.isAgg81
  z75 := Tryz.sizeOf81
  v75 := Tryz.zeroValue81
  t164 := Tryz.underlying127
  a164 := Tryz.isAgg127
  z164 := Tryz.sizeOf127
  v164 := Tryz.zeroValue127 }
theorem Tryz.Builder_Extra_166 : Builder.Extra Tryz.prog Tryz.lays166_ren := {
  sizeBuilder := by kernel_rfl
  liesBuilder := by kernel_rfl
  t5 := Tryz.underlying5
  a5 := Tryz.isAgg5
  z5 := Tryz.sizeOf5
  v5 := Tryz.zeroValue5
  infoByte := by kernel_rfl
  cellsByte := by kernel_rfl
  sizeByte := by kernel_rfl
  neB5 := by decide }
def Tryz.lays169_ren : Go.Shelf.Ren := ⟨fun | 169 => 56 | n => n, fun | 70 => 77 | 9 => 9 | 0 => 0 | 72 => 79 | 37 => 28 | 127 => 112 | 3 => 3 | 5 => 5 | n => n, fun | n => n⟩
theorem Tryz.lays169 : Go.Proofs.Lays.n169 Tryz.prog Tryz.lays169_ren := {
  mixed := by kernel_rfl
  f169 := Tryz.func56.trans (congrArg some (by kernel_rfl))
  t0 := Tryz.underlying0
  a0 := Tryz.isAgg0
  z0 := Tryz.sizeOf0
  v0 := Tryz.zeroValue0
  t3 := Tryz.underlying3
  a3 := Tryz.isAgg3
  z3 := Tryz.sizeOf3
  v3 := Tryz.zeroValue3
  t9 := Tryz.underlying9
  a9 := Tryz.isAgg9
  z9 := Tryz.sizeOf9
  v9 := Tryz.zeroValue9
  t37 := Tryz.underlying28
  a37 := Tryz.isAgg28
  z37 := Tryz.sizeOf28
  v37 := Tryz.zeroValue28
  t70 := Tryz.underlying77
  a70 := Tryz.isAgg77
  z70 := Tryz.sizeOf77
  v70 := Tryz.zeroValue77
  t72 := Tryz.underlying79
  a72 := Tryz.isAgg79
  z72 := Tryz.sizeOf79
  v72 := Tryz.zeroValue79
  t127 := Tryz.underlying112
  a127 := Tryz.isAgg112
  z127 := Tryz.sizeOf112
  v127 := Tryz.zeroValue112 }
theorem Tryz.Builder_Extra_169 : Builder.Extra Tryz.prog Tryz.lays169_ren := {
  sizeBuilder := by kernel_rfl
  liesBuilder := by kernel_rfl
  t5 := Tryz.underlying5
  a5 := Tryz.isAgg5
  z5 := Tryz.sizeOf5
  v5 := Tryz.zeroValue5
  infoByte := by kernel_rfl
  cellsByte := by kernel_rfl
  sizeByte := by kernel_rfl
  neB5 := by decide }
open Go.RowKit in
theorem Tryz.Builder_Len_f (B b : Nat) (bs : List Value) (w : World) (h : Lib.IsBuilderF 79 5 B b bs w) :
    Calls Tryz.prog 54 #[.pointer (some ⟨b, 0, none⟩)] w fun e w' => e = .returned (.int .i64 bs.length) ∧ w' = w := Any.Builder_Len_f Tryz.lays170 B b bs w h
open Go.RowKit in
theorem Tryz.Builder_WriteString_f (B b : Nat) (bs : List Value) (s : ByteArray) (w : World) (h : Lib.IsBuilderF 79 5 B b bs w) (hlen : bs.length + s.size ≤ 140737488355328) (hBw : B ≤ w.heap.size) :
    Calls Tryz.prog 51 #[.pointer (some ⟨b, 0, none⟩), .string s] w fun e w' => e = .returned (.tuple #[.int .i64 s.size, .nilIface]) ∧ (Lib.BuilderAtF 79 5 B b (.pointer (some ⟨b, 0, none⟩)) (bs ++ Lib.strCells s) w' ∧ Below B w w') := Any.Builder_WriteString_f Tryz.lays166 Tryz.Builder_Extra_166 B b bs s w h hlen hBw
open Go.RowKit in
theorem Tryz.Builder_String_any_f (B b : Nat) (l : List UInt8) (w : World) (h : Lib.IsBuilderF 79 5 B b (Lib.byteCells l) w) (hBw : B ≤ w.heap.size) :
    Calls Tryz.prog 56 #[.pointer (some ⟨b, 0, none⟩)] w fun e w' => e = .returned (.string ⟨l.toArray⟩) ∧ (Lib.IsBuilderF 79 5 B b (Lib.byteCells l) w' ∧ Below B w w') := Any.Builder_String_any_f Tryz.lays169 Tryz.Builder_Extra_169 B b l w h hBw
def Tryz.laysM171_ren : Go.Shelf.Ren := ⟨fun | 171 => 84 | 243 => 106 | 246 => 121 | 283 => 135 | 284 => 136 | 285 => 137 | 286 => 138 | 129 => 146 | 317 => 145 | 318 => 147 | 319 => 148 | 320 => 149 | 337 => 152 | 338 => 153 | n => n, fun | 3 => 3 | 9 => 9 | 2 => 2 | 4 => 4 | 171 => 147 | 0 => 0 | 53 => 148 | 37 => 28 | 5 => 5 | 173 => 151 | 212 => 167 | 51 => 163 | 20 => 20 | 213 => 168 | 46 => 126 | 232 => 176 | 233 => 177 | n => n, fun | 17 => 6 | 18 => 7 | 19 => 8 | n => n⟩
theorem Tryz.laysM171 : Go.Proofs.LaysM.n171 Tryz.prog Tryz.laysM171_ren := {
  mixed := by kernel_rfl
  f129 := Tryz.func146.trans (congrArg some (by kernel_rfl))
  f171 := Tryz.func84.trans (congrArg some (by kernel_rfl))
  f243 := Tryz.func106.trans (congrArg some (by kernel_rfl))
  f246 := Tryz.func121.trans (congrArg some (by kernel_rfl))
  f283 := Tryz.func135.trans (congrArg some (by kernel_rfl))
  f284 := Tryz.func136.trans (congrArg some (by kernel_rfl))
  f285 := Tryz.func137.trans (congrArg some (by kernel_rfl))
  f286 := Tryz.func138.trans (congrArg some (by kernel_rfl))
  f317 := Tryz.func145.trans (congrArg some (by kernel_rfl))
  f318 := Tryz.func147.trans (congrArg some (by kernel_rfl))
  f319 := Tryz.func148.trans (congrArg some (by kernel_rfl))
  f320 := Tryz.func149.trans (congrArg some (by kernel_rfl))
  f337 := Tryz.func152.trans (congrArg some (by kernel_rfl))
  f338 := Tryz.func153.trans (congrArg some (by kernel_rfl))
  t0 := Tryz.underlying0
  a0 := Tryz.isAgg0
  z0 := Tryz.sizeOf0
  v0 := Tryz.zeroValue0
  t2 := Tryz.underlying2
  a2 := Tryz.isAgg2
  z2 := Tryz.sizeOf2
  v2 := Tryz.zeroValue2
  t3 := Tryz.underlying3
  a3 := Tryz.isAgg3
  z3 := Tryz.sizeOf3
  v3 := Tryz.zeroValue3
  t4 := Tryz.underlying4
  a4 := Tryz.isAgg4
  z4 := Tryz.sizeOf4
  v4 := Tryz.zeroValue4
  t5 := Tryz.underlying5
  a5 := Tryz.isAgg5
  z5 := Tryz.sizeOf5
  v5 := Tryz.zeroValue5
  t9 := Tryz.underlying9
  a9 := Tryz.isAgg9
  z9 := Tryz.sizeOf9
  v9 := Tryz.zeroValue9
  t20 := Tryz.underlying20
  a20 := Tryz.isAgg20
  z20 := Tryz.sizeOf20
  v20 := Tryz.zeroValue20
  t37 := Tryz.underlying28
  a37 := Tryz.isAgg28
  z37 := Tryz.sizeOf28
  v37 := Tryz.zeroValue28
  t46 := Tryz.underlying126
  a46 := Tryz.isAgg126
  z46 := Tryz.sizeOf126
  v46 := Tryz.zeroValue126
  t51 := Tryz.underlying163
  a51 := Tryz.isAgg163
  z51 := Tryz.sizeOf163
  v51 := Tryz.zeroValue163
  t53 := Tryz.underlying148
  a53 := Tryz.isAgg148
  z53 := Tryz.sizeOf148
  v53 := Tryz.zeroValue148
  t171 := Tryz.underlying147
  a171 := Tryz.isAgg147
  z171 := Tryz.sizeOf147
  v171 := Tryz.zeroValue147
  t173 := Tryz.underlying151
  a173 := Tryz.isAgg151
  z173 := Tryz.sizeOf151
  v173 := Tryz.zeroValue151
  t212 := Tryz.underlying167
  a212 := Tryz.isAgg167
  z212 := Tryz.sizeOf167
  v212 := Tryz.zeroValue167
  t213 := Tryz.underlying168
  a213 := Tryz.isAgg168
  z213 := Tryz.sizeOf168
  t232 := Tryz.underlying176
  a232 := Tryz.isAgg176
  z232 := Tryz.sizeOf176
  v232 := Tryz.zeroValue176
  t233 := Tryz.underlying177
  a233 := Tryz.isAgg177
  z233 := Tryz.sizeOf177
  v233 := Tryz.zeroValue177
  g17 := by kernel_rfl
  g18 := by kernel_rfl
  g19 := by kernel_rfl
  i0 := by kernel_rfl
  i2 := by kernel_rfl
  i3 := by kernel_rfl
  i4 := by kernel_rfl
  i5 := by kernel_rfl
  i9 := by kernel_rfl
  i20 := by kernel_rfl
  i37 := by kernel_rfl
  i46 := by kernel_rfl
  i51 := by kernel_rfl
  i53 := by kernel_rfl
  i171 := by kernel_rfl
  i173 := by kernel_rfl
  i212 := by kernel_rfl
  i232 := by kernel_rfl
  i233 := by kernel_rfl
  m17 := by kernel_rfl
  m18 := by kernel_rfl
  m19 := by kernel_rfl }
open Go.RowKit Go.Sort Go.Lib in
theorem Tryz.strconv_Itoa (n : Int) (h0 : -9223372036854775808 ≤ n) (h1 : n ≤ 9223372036854775807) (w : World) (htab : Lib.TabIs Tryz.prog w "internal/strconv.uint64pow10" .u64 Lib.pow10Tab) :
    Calls Tryz.prog 84 #[.int .i64 n] w fun e w' => e = .returned (.string ⟨(Lib.itoa n).toArray⟩) ∧ ∃ k os, w' = grow (w.drewN k) os := Any.strconv_Itoa Tryz.laysM171 n h0 h1 w htab
def Tryz.laysC172_ren : Go.Shelf.Ren := ⟨fun | 172 => 98 | 244 => 114 | 245 => 115 | 247 => 126 | 279 => 127 | 280 => 128 | 281 => 129 | 282 => 130 | 287 => 140 | 316 => 141 | 171 => 84 | 205 => 142 | 321 => 150 | 322 => 151 | 243 => 106 | 246 => 121 | 283 => 135 | 284 => 136 | 285 => 137 | 286 => 138 | 129 => 146 | 317 => 145 | 318 => 147 | 319 => 148 | 320 => 149 | 337 => 152 | 338 => 153 | n => n, fun | 9 => 9 | 3 => 3 | 75 => 81 | 76 => 82 | 4 => 4 | 5 => 5 | 167 => 140 | 37 => 28 | 0 => 0 | 85 => 141 | 2 => 2 | 168 => 143 | 53 => 148 | 175 => 158 | 46 => 126 | 210 => 161 | 127 => 112 | 145 => 174 | 143 => 172 | 21 => 21 | 171 => 147 | 173 => 151 | 212 => 167 | 51 => 163 | 20 => 20 | 213 => 168 | 232 => 176 | 233 => 177 | 80 => 86 | n => n, fun | 15 => 4 | 16 => 5 | 17 => 6 | 18 => 7 | 19 => 8 | n => n⟩
theorem Tryz.laysC172 : Go.Proofs.LaysC.n172 Tryz.prog Tryz.laysC172_ren := {
  mixed := by kernel_rfl
  f129 := Tryz.func146.trans (congrArg some (by kernel_rfl))
  f171 := Tryz.func84.trans (congrArg some (by kernel_rfl))
  f172 := Tryz.func98.trans (congrArg some (by kernel_rfl))
  f205 := Tryz.func142.trans (congrArg some (by kernel_rfl))
  f243 := Tryz.func106.trans (congrArg some (by kernel_rfl))
  f244 := Tryz.func114.trans (congrArg some (by kernel_rfl))
  f245 := Tryz.func115.trans (congrArg some (by kernel_rfl))
  f246 := Tryz.func121.trans (congrArg some (by kernel_rfl))
  f247 := Tryz.func126.trans (congrArg some (by kernel_rfl))
  f279 := Tryz.func127.trans (congrArg some (by kernel_rfl))
  f280 := Tryz.func128.trans (congrArg some (by kernel_rfl))
  f281 := Tryz.func129.trans (congrArg some (by kernel_rfl))
  f282 := Tryz.func130.trans (congrArg some (by kernel_rfl))
  f283 := Tryz.func135.trans (congrArg some (by kernel_rfl))
  f284 := Tryz.func136.trans (congrArg some (by kernel_rfl))
  f285 := Tryz.func137.trans (congrArg some (by kernel_rfl))
  f286 := Tryz.func138.trans (congrArg some (by kernel_rfl))
  f287 := Tryz.func140.trans (congrArg some (by kernel_rfl))
  f316 := Tryz.func141.trans (congrArg some (by kernel_rfl))
  f317 := Tryz.func145.trans (congrArg some (by kernel_rfl))
  f318 := Tryz.func147.trans (congrArg some (by kernel_rfl))
  f319 := Tryz.func148.trans (congrArg some (by kernel_rfl))
  f320 := Tryz.func149.trans (congrArg some (by kernel_rfl))
  f321 := Tryz.func150.trans (congrArg some (by kernel_rfl))
  f322 := Tryz.func151.trans (congrArg some (by kernel_rfl))
  f337 := Tryz.func152.trans (congrArg some (by kernel_rfl))
  f338 := Tryz.func153.trans (congrArg some (by kernel_rfl))
  t0 := Tryz.underlying0
  a0 := Tryz.isAgg0
  z0 := Tryz.sizeOf0
  v0 := Tryz.zeroValue0
  t2 := Tryz.underlying2
  a2 := Tryz.isAgg2
  z2 := Tryz.sizeOf2
  v2 := Tryz.zeroValue2
  t3 := Tryz.underlying3
  a3 := Tryz.isAgg3
  z3 := Tryz.sizeOf3
  v3 := Tryz.zeroValue3
  t4 := Tryz.underlying4
  a4 := Tryz.isAgg4
  z4 := Tryz.sizeOf4
  v4 := Tryz.zeroValue4
  t5 := Tryz.underlying5
  a5 := Tryz.isAgg5
  z5 := Tryz.sizeOf5
  v5 := Tryz.zeroValue5
  t9 := Tryz.underlying9
  a9 := Tryz.isAgg9
  z9 := Tryz.sizeOf9
  v9 := Tryz.zeroValue9
  t20 := Tryz.underlying20
  a20 := Tryz.isAgg20
  z20 := Tryz.sizeOf20
  v20 := Tryz.zeroValue20
  t21 := Tryz.underlying21
  a21 := Tryz.isAgg21
  z21 := Tryz.sizeOf21
  v21 := Tryz.zeroValue21
  t37 := Tryz.underlying28
  a37 := Tryz.isAgg28
  z37 := Tryz.sizeOf28
  v37 := Tryz.zeroValue28
  t46 := Tryz.underlying126
  a46 := Tryz.isAgg126
  z46 := Tryz.sizeOf126
  v46 := Tryz.zeroValue126
  t51 := Tryz.underlying163
  a51 := Tryz.isAgg163
  z51 := Tryz.sizeOf163
  v51 := Tryz.zeroValue163
  t53 := Tryz.underlying148
  a53 := Tryz.isAgg148
  z53 := Tryz.sizeOf148
  v53 := Tryz.zeroValue148
  t75 := Tryz.underlying81
  a75 := Tryz.isAgg81
  z75 := Tryz.sizeOf81
  v75 := Tryz.zeroValue81
  t76 := Tryz.underlying82
  a76 := Tryz.isAgg82
  z76 := Tryz.sizeOf82
  v76 := Tryz.zeroValue82
  t85 := Tryz.underlying141
  a85 := Tryz.isAgg141
  z85 := Tryz.sizeOf141
  v85 := Tryz.zeroValue141
  t127 := Tryz.underlying112
  a127 := Tryz.isAgg112
  z127 := Tryz.sizeOf112
  v127 := Tryz.zeroValue112
  t143 := Tryz.underlying172
  a143 := Tryz.isAgg172
  z143 := Tryz.sizeOf172
  v143 := Tryz.zeroValue172
  t145 := Tryz.underlying174
  a145 := Tryz.isAgg174
  z145 := Tryz.sizeOf174
  v145 := Tryz.zeroValue174
  t167 := Tryz.underlying140
  a167 := Tryz.isAgg140
  z167 := Tryz.sizeOf140
  v167 := Tryz.zeroValue140
  t168 := Tryz.underlying143
  a168 := Tryz.isAgg143
  z168 := Tryz.sizeOf143
  v168 := Tryz.zeroValue143
  t171 := Tryz.underlying147
  a171 := Tryz.isAgg147
  z171 := Tryz.sizeOf147
  v171 := Tryz.zeroValue147
  t173 := Tryz.underlying151
  a173 := Tryz.isAgg151
  z173 := Tryz.sizeOf151
  v173 := Tryz.zeroValue151
  t175 := Tryz.underlying158
  a175 := Tryz.isAgg158
  z175 := Tryz.sizeOf158
  v175 := Tryz.zeroValue158
  t210 := Tryz.underlying161
  a210 := Tryz.isAgg161
  z210 := Tryz.sizeOf161
  v210 := Tryz.zeroValue161
  t212 := Tryz.underlying167
  a212 := Tryz.isAgg167
  z212 := Tryz.sizeOf167
  v212 := Tryz.zeroValue167
  t213 := Tryz.underlying168
  a213 := Tryz.isAgg168
  z213 := Tryz.sizeOf168
  t232 := Tryz.underlying176
  a232 := Tryz.isAgg176
  z232 := Tryz.sizeOf176
  v232 := Tryz.zeroValue176
  t233 := Tryz.underlying177
  a233 := Tryz.isAgg177
  z233 := Tryz.sizeOf177
  v233 := Tryz.zeroValue177
  g15 := by kernel_rfl
  g16 := by kernel_rfl
  g17 := by kernel_rfl
  g18 := by kernel_rfl
  g19 := by kernel_rfl
  t80 := Tryz.underlying86
  a80 := Tryz.isAgg86
  z80 := Tryz.sizeOf86
  v80 := Tryz.zeroValue86
  i0 := by kernel_rfl
  i2 := by kernel_rfl
  i3 := by kernel_rfl
  i4 := by kernel_rfl
  i5 := by kernel_rfl
  i9 := by kernel_rfl
  i20 := by kernel_rfl
  i21 := by kernel_rfl
  i37 := by kernel_rfl
  i46 := by kernel_rfl
  i51 := by kernel_rfl
  i53 := by kernel_rfl
  i75 := by kernel_rfl
  i76 := by kernel_rfl
  i80 := by kernel_rfl
  i85 := by kernel_rfl
  i127 := by kernel_rfl
  i143 := by kernel_rfl
  i145 := by kernel_rfl
  i167 := by kernel_rfl
  i168 := by kernel_rfl
  i171 := by kernel_rfl
  i173 := by kernel_rfl
  i175 := by kernel_rfl
  i210 := by kernel_rfl
  i212 := by kernel_rfl
  i232 := by kernel_rfl
  i233 := by kernel_rfl
  m15 := by kernel_rfl
  m16 := by kernel_rfl
  m17 := by kernel_rfl
  m18 := by kernel_rfl
  m19 := by kernel_rfl
  c0 := by kernel_rfl
  c2 := by kernel_rfl
  c3 := by kernel_rfl
  c4 := by kernel_rfl
  c5 := by kernel_rfl
  c9 := by kernel_rfl
  c20 := by kernel_rfl
  c21 := by kernel_rfl
  c37 := by kernel_rfl
  c46 := by kernel_rfl
  c51 := by kernel_rfl
  c53 := by kernel_rfl
  c75 := by kernel_rfl
  c76 := by kernel_rfl
  c80 := by kernel_rfl
  c85 := by kernel_rfl
  c127 := by kernel_rfl
  c143 := by kernel_rfl
  c145 := by kernel_rfl
  c167 := by kernel_rfl
  c168 := by kernel_rfl
  c171 := by kernel_rfl
  c173 := by kernel_rfl
  c175 := by kernel_rfl
  c210 := by kernel_rfl
  c212 := by kernel_rfl
  c213 := by kernel_rfl
  c232 := by kernel_rfl
  c233 := by kernel_rfl }
open Go.RowKit in
theorem Tryz.strconv_Atoi_ok (s : ByteArray) (hmax : s.size ≤ 9223372036854775806) (v : Int) (h : Lib.atoiAll s.data.toList = .ok v) (w : World) :
    Calls Tryz.prog 98 #[.string s] w fun e w' => e = .returned (.tuple #[.int .i64 v, .nilIface]) ∧ (w' = w ∨ ∃ t, w' = Lib.bytesWorld w 5 t) := Any.strconv_Atoi_ok Tryz.laysC172 s hmax v h w
open Go.RowKit in
theorem Tryz.strconv_Atoi_syntax (s : ByteArray) (hlim : s.size ≤ 281474976710656) (h : Lib.atoiAll s.data.toList = Lib.atoiAll []) (ev : Value) (w : World) (hv : w.cell? ⟨4, 0, none⟩ = some ev) (hev : ev = .nilIface ∨ ∃ te pe, ev = .iface te pe) :
    Calls Tryz.prog 98 #[.string s] w fun e w' => ∃ N, e = .returned (.tuple #[.int .i64 (0), .iface 143 (.pointer (some ⟨N, 0, none⟩))]) ∧ w.heap.size ≤ N ∧ w'.heap[N]? = some (.cells #[.string ⟨#[65, 116, 111, 105]⟩, .string s, ev] 161 (0, 0)) ∧ Below w.heap.size w w' := Any.strconv_Atoi_syntax Tryz.laysC172 s hlim h ev w hv hev
open Go.RowKit in
theorem Tryz.strconv_Atoi_range (s : ByteArray) (hlim : s.size ≤ 281474976710656) (h : Lib.atoiAll s.data.toList = .range) (ev : Value) (w : World) (hv : w.cell? ⟨5, 0, none⟩ = some ev) (hev : ev = .nilIface ∨ ∃ te pe, ev = .iface te pe) :
    Calls Tryz.prog 98 #[.string s] w fun e w' => ∃ N, e = .returned (.tuple #[.int .i64 (Lib.atoiSat s.data.toList), .iface 143 (.pointer (some ⟨N, 0, none⟩))]) ∧ w.heap.size ≤ N ∧ w'.heap[N]? = some (.cells #[.string ⟨#[65, 116, 111, 105]⟩, .string s, ev] 161 (0, 0)) ∧ Below w.heap.size w w' := Any.strconv_Atoi_range Tryz.laysC172 s hlim h ev w hv hev
def Tryz.lays143_ren : Go.Shelf.Ren := ⟨fun | 143 => 111 | 219 => 116 | 217 => 131 | 225 => 132 | 224 => 133 | 267 => 134 | 266 => 143 | 314 => 144 | n => n, fun | 9 => 9 | 3 => 3 | 4 => 4 | 5 => 5 | 46 => 126 | 146 => 164 | 51 => 163 | n => n, fun | 1 => 0 | n => n⟩
theorem Tryz.lays143 : Go.Proofs.Lays.n143 Tryz.prog Tryz.lays143_ren := {
  mixed := by kernel_rfl
  f143 := Tryz.func111.trans (congrArg some (by kernel_rfl))
  f217 := Tryz.func131.trans (congrArg some (by kernel_rfl))
  f219 := Tryz.func116.trans (congrArg some (by kernel_rfl))
  f224 := Tryz.func133.trans (congrArg some (by kernel_rfl))
  f225 := Tryz.func132.trans (congrArg some (by kernel_rfl))
  f266 := Tryz.func143.trans (congrArg some (by kernel_rfl))
  f267 := Tryz.func134.trans (congrArg some (by kernel_rfl))
  f314 := Tryz.func144.trans (congrArg some (by kernel_rfl))
  t3 := Tryz.underlying3
  a3 := Tryz.isAgg3
  z3 := Tryz.sizeOf3
  v3 := Tryz.zeroValue3
  t4 := Tryz.underlying4
  a4 := Tryz.isAgg4
  z4 := Tryz.sizeOf4
  v4 := Tryz.zeroValue4
  t5 := Tryz.underlying5
  a5 := Tryz.isAgg5
  z5 := Tryz.sizeOf5
  v5 := Tryz.zeroValue5
  t9 := Tryz.underlying9
  a9 := Tryz.isAgg9
  z9 := Tryz.sizeOf9
  v9 := Tryz.zeroValue9
  t46 := Tryz.underlying126
  a46 := Tryz.isAgg126
  z46 := Tryz.sizeOf126
  v46 := Tryz.zeroValue126
  t51 := Tryz.underlying163
  a51 := Tryz.isAgg163
  z51 := Tryz.sizeOf163
  v51 := Tryz.zeroValue163
  t146 := Tryz.underlying164
  a146 := Tryz.isAgg164
  z146 := Tryz.sizeOf164
  v146 := Tryz.zeroValue164
  g1 := by kernel_rfl }
open Go.RowKit Go.Lib in
theorem Tryz.strings_Index (s sub : ByteArray) (m : Int) (w : World) (hs : s.size < 4294967281) (hm : w.cell? ⟨0, 0, none⟩ = some (.int .i64 m)) :
    Calls Tryz.prog 111 #[.string s, .string sub] w fun e w' => e = .returned (.int .i64 (Lib.index s.data.toList sub.data.toList)) ∧ w' = w := Any.strings_Index Tryz.lays143 s sub m w hs hm
def Tryz.lays145_ren : Go.Shelf.Ren := ⟨fun | 145 => 74 | 220 => 99 | 219 => 116 | 217 => 131 | 225 => 132 | 224 => 133 | 267 => 134 | 266 => 143 | 314 => 144 | n => n, fun | 9 => 9 | 4 => 4 | 59 => 102 | 3 => 3 | 5 => 5 | 46 => 126 | 146 => 164 | 51 => 163 | n => n, fun | 1 => 0 | n => n⟩
theorem Tryz.lays145 : Go.Proofs.Lays.n145 Tryz.prog Tryz.lays145_ren := {
  mixed := by kernel_rfl
  f145 := Tryz.func74.trans (congrArg some (by kernel_rfl))
  f217 := Tryz.func131.trans (congrArg some (by kernel_rfl))
  f219 := Tryz.func116.trans (congrArg some (by kernel_rfl))
  f220 := Tryz.func99.trans (congrArg some (by kernel_rfl))
  f224 := Tryz.func133.trans (congrArg some (by kernel_rfl))
  f225 := Tryz.func132.trans (congrArg some (by kernel_rfl))
  f266 := Tryz.func143.trans (congrArg some (by kernel_rfl))
  f267 := Tryz.func134.trans (congrArg some (by kernel_rfl))
  f314 := Tryz.func144.trans (congrArg some (by kernel_rfl))
  t3 := Tryz.underlying3
  a3 := Tryz.isAgg3
  z3 := Tryz.sizeOf3
  v3 := Tryz.zeroValue3
  t4 := Tryz.underlying4
  a4 := Tryz.isAgg4
  z4 := Tryz.sizeOf4
  v4 := Tryz.zeroValue4
  t5 := Tryz.underlying5
  a5 := Tryz.isAgg5
  z5 := Tryz.sizeOf5
  v5 := Tryz.zeroValue5
  t9 := Tryz.underlying9
  a9 := Tryz.isAgg9
  z9 := Tryz.sizeOf9
  v9 := Tryz.zeroValue9
  t46 := Tryz.underlying126
  a46 := Tryz.isAgg126
  z46 := Tryz.sizeOf126
  v46 := Tryz.zeroValue126
  t51 := Tryz.underlying163
  a51 := Tryz.isAgg163
  z51 := Tryz.sizeOf163
  v51 := Tryz.zeroValue163
  t59 := Tryz.underlying102
  a59 := Tryz.isAgg102
  z59 := Tryz.sizeOf102
  v59 := Tryz.zeroValue102
  t146 := Tryz.underlying164
  a146 := Tryz.isAgg164
  z146 := Tryz.sizeOf164
  v146 := Tryz.zeroValue164
  g1 := by kernel_rfl }
open Go.RowKit Go.Lib in
theorem Tryz.strings_Cut (s sep : ByteArray) (m : Int) (w : World) (hs : s.size < 4294967281) (hm : w.cell? ⟨0, 0, none⟩ = some (.int .i64 m)) :
    Calls Tryz.prog 74 #[.string s, .string sep] w fun e w' => e = .returned (.tuple #[.string ⟨(Lib.cut s.data.toList sep.data.toList).1.toArray⟩, .string ⟨(Lib.cut s.data.toList sep.data.toList).2.1.toArray⟩, .bool (Lib.cut s.data.toList sep.data.toList).2.2]) ∧ ∃ n, w' = w.drewN n := Any.strings_Cut Tryz.lays145 s sep m w hs hm
def Tryz.lays146_ren : Go.Shelf.Ren := ⟨fun | 146 => 72 | 221 => 97 | 268 => 112 | 138 => 113 | 143 => 111 | 195 => 124 | 197 => 110 | 218 => 125 | 219 => 116 | 260 => 123 | 217 => 131 | 225 => 132 | 224 => 133 | 267 => 134 | 266 => 143 | 314 => 144 | n => n, fun | 9 => 9 | 31 => 61 | 3 => 3 | 4 => 4 | 0 => 0 | 105 => 130 | 21 => 21 | 5 => 5 | 46 => 126 | 119 => 154 | 139 => 157 | 138 => 156 | 146 => 164 | 51 => 163 | n => n, fun | 1 => 0 | 3 => 2 | 4 => 3 | n => n⟩
theorem Tryz.lays146 : Go.Proofs.Lays.n146 Tryz.prog Tryz.lays146_ren := {
  mixed := by kernel_rfl
  f138 := Tryz.func113.trans (congrArg some (by kernel_rfl))
  f143 := Tryz.func111.trans (congrArg some (by kernel_rfl))
  f146 := Tryz.func72.trans (congrArg some (by kernel_rfl))
  f195 := Tryz.func124.trans (congrArg some (by kernel_rfl))
  f197 := Tryz.func110.trans (congrArg some (by kernel_rfl))
  f217 := Tryz.func131.trans (congrArg some (by kernel_rfl))
  f218 := Tryz.func125.trans (congrArg some (by kernel_rfl))
  f219 := Tryz.func116.trans (congrArg some (by kernel_rfl))
  f221 := Tryz.func97.trans (congrArg some (by kernel_rfl))
  f224 := Tryz.func133.trans (congrArg some (by kernel_rfl))
  f225 := Tryz.func132.trans (congrArg some (by kernel_rfl))
  f260 := Tryz.func123.trans (congrArg some (by kernel_rfl))
  f266 := Tryz.func143.trans (congrArg some (by kernel_rfl))
  f267 := Tryz.func134.trans (congrArg some (by kernel_rfl))
  f268 := Tryz.func112.trans (congrArg some (by kernel_rfl))
  f314 := Tryz.func144.trans (congrArg some (by kernel_rfl))
  t0 := Tryz.underlying0
  a0 := Tryz.isAgg0
  z0 := Tryz.sizeOf0
  v0 := Tryz.zeroValue0
  t3 := Tryz.underlying3
  a3 := Tryz.isAgg3
  z3 := Tryz.sizeOf3
  v3 := Tryz.zeroValue3
  t4 := Tryz.underlying4
  a4 := Tryz.isAgg4
  z4 := Tryz.sizeOf4
  v4 := Tryz.zeroValue4
  t5 := Tryz.underlying5
  a5 := Tryz.isAgg5
  z5 := Tryz.sizeOf5
  v5 := Tryz.zeroValue5
  t9 := Tryz.underlying9
  a9 := Tryz.isAgg9
  z9 := Tryz.sizeOf9
  v9 := Tryz.zeroValue9
  t21 := Tryz.underlying21
  a21 := Tryz.isAgg21
  z21 := Tryz.sizeOf21
  v21 := Tryz.zeroValue21
  t31 := Tryz.underlying61
  a31 := Tryz.isAgg61
  z31 := Tryz.sizeOf61
  v31 := Tryz.zeroValue61
  t46 := Tryz.underlying126
  a46 := Tryz.isAgg126
  z46 := Tryz.sizeOf126
  v46 := Tryz.zeroValue126
  t51 := Tryz.underlying163
  a51 := Tryz.isAgg163
  z51 := Tryz.sizeOf163
  v51 := Tryz.zeroValue163
  t105 := Tryz.underlying130
  a105 := Tryz.isAgg130
  z105 := Tryz.sizeOf130
  v105 := Tryz.zeroValue130
  t119 := Tryz.underlying154
  a119 := Tryz.isAgg154
  z119 := Tryz.sizeOf154
  t138 := Tryz.underlying156
  a138 := Tryz.isAgg156
  z138 := Tryz.sizeOf156
  v138 := Tryz.zeroValue156
  t139 := Tryz.underlying157
  a139 := Tryz.isAgg157
  z139 := Tryz.sizeOf157
  v139 := Tryz.zeroValue157
  t146 := Tryz.underlying164
  a146 := Tryz.isAgg164
  z146 := Tryz.sizeOf164
  v146 := Tryz.zeroValue164
  g1 := by kernel_rfl
  g3 := by kernel_rfl
  g4 := by kernel_rfl }
open Go.RowKit Go.Lib in
theorem Tryz.strings_Split (s sep : ByteArray) (m : Int) (w : World) (hs : s.size < 4294967281) (hm : w.cell? ⟨0, 0, none⟩ = some (.int .i64 m)) (h1 : 1 ≤ sep.size) :
    Calls Tryz.prog 72 #[.string s, .string sep] w fun e w' =>
      e = .returned (.slice (some ⟨w.heap.size, 0, none⟩) (Lib.countB s sep + 1) (Lib.countB s sep + 1)) ∧ w' = w.alloc (.cells ((Lib.splitB sep 0 (Lib.countB s sep) s).map Value.string).toArray 9) := Any.strings_Split Tryz.lays146 (by kernel_rfl) s sep m w hs hm h1
def Tryz.laysPah39_ren : Go.Shelf.Ren := ⟨fun | 39 => 101 | 41 => 119 | 40 => 120 | n => n, fun | 30 => 28 | 9 => 9 | 3 => 3 | 0 => 0 | 5 => 5 | 46 => 126 | n => n, fun | n => n⟩
theorem Tryz.laysPah39 : Go.Proofs.Lays.ph39 Tryz.prog Tryz.laysPah39_ren := {
  mixed := by kernel_rfl
  f39 := Tryz.func101.trans (congrArg some (by kernel_rfl))
  f40 := Tryz.func120.trans (congrArg some (by kernel_rfl))
  f41 := Tryz.func119.trans (congrArg some (by kernel_rfl))
  t0 := Tryz.underlying0
  a0 := Tryz.isAgg0
  z0 := Tryz.sizeOf0
  v0 := Tryz.zeroValue0
  t3 := Tryz.underlying3
  a3 := Tryz.isAgg3
  z3 := Tryz.sizeOf3
  v3 := Tryz.zeroValue3
  t5 := Tryz.underlying5
  a5 := Tryz.isAgg5
  z5 := Tryz.sizeOf5
  v5 := Tryz.zeroValue5
  t9 := Tryz.underlying9
  a9 := Tryz.isAgg9
  z9 := Tryz.sizeOf9
  v9 := Tryz.zeroValue9
  t30 := Tryz.underlying28
  a30 := Tryz.isAgg28
  z30 := Tryz.sizeOf28
  v30 := Tryz.zeroValue28
  t46 := Tryz.underlying126
  a46 := Tryz.isAgg126
  z46 := Tryz.sizeOf126
  v46 := Tryz.zeroValue126
  info5 := by kernel_rfl }
open Go.RowKit Go.Lib in
theorem Tryz.hex_EncodeToString_nil (w : World) :
    Calls Tryz.prog 101 #[.slice none 0 0] w fun e w' => e = .returned (.string ⟨#[]⟩) ∧ Below w.heap.size w w' := Any.hex_EncodeToString_nil Tryz.laysPah39 w
def Tryz.laysPah43_ren : Go.Shelf.Ren := ⟨fun | 43 => 100 | 42 => 117 | 44 => 118 | n => n, fun | 9 => 9 | 30 => 28 | 35 => 81 | 3 => 3 | 38 => 82 | 4 => 4 | 0 => 0 | 5 => 5 | 47 => 146 | 46 => 126 | 45 => 86 | n => n, fun | 0 => 1 | n => n⟩
theorem Tryz.laysPah43 : Go.Proofs.Lays.ph43 Tryz.prog Tryz.laysPah43_ren := {
  mixed := by kernel_rfl
  f42 := Tryz.func117.trans (congrArg some (by kernel_rfl))
  f43 := Tryz.func100.trans (congrArg some (by kernel_rfl))
  f44 := Tryz.func118.trans (congrArg some (by kernel_rfl))
  t0 := Tryz.underlying0
  a0 := Tryz.isAgg0
  z0 := Tryz.sizeOf0
  v0 := Tryz.zeroValue0
  t3 := Tryz.underlying3
  a3 := Tryz.isAgg3
  z3 := Tryz.sizeOf3
  v3 := Tryz.zeroValue3
  t4 := Tryz.underlying4
  a4 := Tryz.isAgg4
  z4 := Tryz.sizeOf4
  v4 := Tryz.zeroValue4
  t5 := Tryz.underlying5
  a5 := Tryz.isAgg5
  z5 := Tryz.sizeOf5
  v5 := Tryz.zeroValue5
  t9 := Tryz.underlying9
  a9 := Tryz.isAgg9
  z9 := Tryz.sizeOf9
  v9 := Tryz.zeroValue9
  t30 := Tryz.underlying28
  a30 := Tryz.isAgg28
  z30 := Tryz.sizeOf28
  v30 := Tryz.zeroValue28
  t35 := Tryz.underlying81
  a35 := Tryz.isAgg81
  z35 := Tryz.sizeOf81
  v35 := Tryz.zeroValue81
  t38 := Tryz.underlying82
  a38 := Tryz.isAgg82
  z38 := Tryz.sizeOf82
  v38 := Tryz.zeroValue82
  t45 := Tryz.underlying86
  a45 := Tryz.isAgg86
  z45 := Tryz.sizeOf86
  v45 := Tryz.zeroValue86
  t46 := Tryz.underlying126
  a46 := Tryz.isAgg126
  z46 := Tryz.sizeOf126
  v46 := Tryz.zeroValue126
  t47 := Tryz.underlying146
  a47 := Tryz.isAgg146
  z47 := Tryz.sizeOf146
  v47 := Tryz.zeroValue146
  g0 := by kernel_rfl
  info5 := by kernel_rfl }
open Go.RowKit Go.Lib in
theorem Tryz.hex_DecodeString_owns (s : ByteArray) (w : World) (ev : Value) (hE : w.cell? ⟨1, 0, none⟩ = some ev) (hbig : s.size ≤ 281474976710656) :
    Calls Tryz.prog 100 #[.string s] w fun e w' => ∃ v, e = .returned (.tuple #[v, Hx.errVal 146 ev (Hx.decode s.data.toList).2]) ∧
      w'.ownsRow w.heap.size 5 1 v (Hx.decode s.data.toList).1.length ((Hx.decode s.data.toList).1.map fun b => Value.int .u8 (b.toNat : Int)) ∧ Below w.heap.size w w' := Any.hex_DecodeString_owns Tryz.laysPah43 s w ev hE hbig
open Go.RowKit Go.Lib in
theorem Tryz.hex_EncodeToString_bytes (bs os cs : Nat) (l : List UInt8) (w : World) (hsrc : ∀ i (h : i < l.length), w.cell? ⟨bs, os + i, none⟩ = some (.int .u8 ((l[i]'h).toNat : Int))) (hb : bs < w.heap.size) (hbig : 2 * l.length ≤ 281474976710656) :
    Calls Tryz.prog 101 #[.slice (some ⟨bs, os, none⟩) l.length cs] w fun e w' => e = .returned (.string ⟨(Hx.encode l).toArray⟩) ∧ Below w.heap.size w w' := Any.hex_EncodeToString_bytes Tryz.laysPah39 bs os cs l w hsrc hb hbig

end Go.Proofs.YtedgenmbdjadkaaGreatDoor
namespace Go.Proofs.YtedgenmbdjadkaaGreatDoor
open Go.ChangeShapes Go.WideShapes Go.ChangeAt Go.RowKit Go.Shelf
attribute [local go_sem] Oper.semAt_some

/-- does a text end with byte 10? -/
def endsB (s : ByteArray) : Bool := s.data.toList.getLast? == some 10
theorem endsB_nil {s : ByteArray} (h : s.size = 0) : endsB s = false := by
  have e : s.data.toList = [] := List.eq_nil_of_length_eq_zero (by simpa using h)
  unfold endsB
  rw [e]
  rfl
theorem endsB_cut {s : ByteArray} {m : Nat} (h : s.size = m + 1) : ((s.extract m s.size).toList == [10]) = endsB s := by
  have e2 : s.data.toList.length = m + 1 := by simpa using h
  have e1 : (s.extract m s.size).toList = [s.data.toList[m]] := by
    rw [bl1, cut_list, h, show m + 1 - m = 0 + 1 by omega, List.take_succ_eq_append_getElem (by rw [List.length_drop]; omega)]
    simp
  rw [e1]
  have e3 : s.data.toList.getLast? = some s.data.toList[m] := by
    rw [List.getLast?_eq_getElem?, show s.data.toList.length - 1 = m by omega]
    exact List.getElem?_eq_getElem (by omega)
  unfold endsB
  rw [e3]
  generalize s.data.toList[m] = c
  by_cases hc : c = 10
  · subst hc; rfl
  · have h1 : ([c] == [(10 : UInt8)]) = false := by rw [beq_eq_false_iff_ne]; simp [hc]
    have h2 : ((some c : Option UInt8) == some 10) = false := by rw [beq_eq_false_iff_ne]; simp [hc]
    rw [h1, h2]
theorem lib_HasSuffix0 (s : ByteArray) (w : World) (hs : s.size ≤ 1048577) :
    Calls Tryz.prog 95 #[.string s, .string ⟨#[10]⟩] w fun e w' => e = .returned (.bool (endsB s)) ∧ w = w' := by
  have hl : (⟨#[10]⟩ : ByteArray).size = 1 := rfl
  by_cases h0 : s.size = 0
  · have he := endsB_nil h0
    have HE := Lib.hid he
    have h1 : ¬ (1 : Int) ≤ s.size := by omega
    clear he
    go_enter Tryz.func95, Tryz.ntmps95
    go_wp2
    go_ret
    exact ⟨by rw [HE.out]; rfl, rfl⟩
  · obtain ⟨m, hm⟩ : ∃ m, s.size = m + 1 := ⟨s.size - 1, by omega⟩
    have he := endsB_cut hm
    have HE := Lib.hid he
    have hmi : (s.size : Int) - 1 = m := by omega
    have hml : (m : Int) ≤ s.size := by omega
    have h1 : (1 : Int) ≤ s.size := by omega
    clear he hm h0
    go_enter Tryz.func95, Tryz.ntmps95
    go_wp2
    go_ret
    exact ⟨by rw [← HE.out]; rfl, rfl⟩
theorem lib_HasSuffix (s : ByteArray) (w : World) (hs : s.size ≤ 1048577) :
    Calls Tryz.prog 68 #[.string s, .string ⟨#[10]⟩] w fun e w' => e = .returned (.bool (endsB s)) ∧ w = w' := by
  go_enter Tryz.func68, Tryz.ntmps68
  go_wp2_with fail
  (go_at_call 95; refine (lib_HasSuffix0 s _ hs).mono ?_; rintro e w' ⟨rfl, rfl⟩)
  go_wp2
  go_ret
  exact ⟨rfl, rfl⟩
/-- the world in which the iterator has been made -/
def seqW (s : ByteArray) (w : World) : World := ((w.alloc (.cells #[.string s] 9)).alloc (.cells #[.string ⟨#[10]⟩] 9)).alloc (.cells #[.int .i64 1] 3)
def seqV (B : Nat) : Value := .func (.func 109) #[] #[.pointer (some ⟨B + 1, 0, none⟩), .pointer (some ⟨B, 0, none⟩), .pointer (some ⟨B + 2, 0, none⟩)]
theorem lib_splitSeq (s : ByteArray) (w : World) :
    Calls Tryz.prog 94 #[.string s, .string ⟨#[10]⟩, .int .i64 1] w fun e w' => e = .returned (seqV w.heap.size) ∧ w' = seqW s w := by
  unfold seqV seqW
  go_enter Tryz.func94, Tryz.ntmps94
  go_wp2
  go_ret
  exact ⟨rfl, rfl⟩
theorem lib_SplitAfterSeq (s : ByteArray) (w : World) :
    Calls Tryz.prog 67 #[.string s, .string ⟨#[10]⟩] w fun e w' => e = .returned (seqV w.heap.size) ∧ w' = seqW s w := by
  go_enter Tryz.func67, Tryz.ntmps67
  go_wp2_with fail
  (go_at_call 94; refine (lib_splitSeq s _).mono ?_; rintro e w' ⟨rfl, rfl⟩)
  go_wp2
  go_ret
  exact ⟨rfl, rfl⟩
/-- the first byte 10, or none -/
theorem at10 : ∀ L : List UInt8, (Lib.index L [10] = -1 ∧ (10 : UInt8) ∉ L) ∨ ∃ a r, L = a ++ 10 :: r ∧ (10 : UInt8) ∉ a ∧ Lib.index L [10] = (a.length : Int) := by
  intro L
  rw [Lib.index_one]
  induction L with
  | nil => exact .inl ⟨rfl, by simp⟩
  | cons b L ih =>
    by_cases hb : b = 10
    · subst hb
      exact .inr ⟨[], L, rfl, by simp, by simp [Lib.indexByte]⟩
    · have hb2 : (b == 10) = false := by simp [hb]
      rcases ih with ⟨h1, h2⟩ | ⟨a, r, h1, h2, h3⟩
      · refine .inl ⟨?_, ?_⟩
        · simp [Lib.indexByte, hb2, h1]
        · intro hm
          rcases List.mem_cons.1 hm with hm | hm
          · exact hb hm.symm
          · exact h2 hm
      · refine .inr ⟨b :: a, r, by rw [h1]; rfl, ?_, ?_⟩
        · intro hm
          rcases List.mem_cons.1 hm with hm | hm
          · exact hb hm.symm
          · exact h2 hm
        · simp [Lib.indexByte, hb2, h3]
/-- the pieces of a text -/
def Pieces (L : List UInt8) (xs : List ByteArray) : Prop := ∃ r, (10 : UInt8) ∉ r ∧ xs.map (·.data.toList) = linesL L ++ [r]
def sizeAt (w : World) (b : Nat) : Nat := match w.cell? ⟨b, 0, none⟩ with
  | some (.string s) => s.size
  | _ => 0
theorem sizeAt_eq {w : World} {b : Nat} {s : ByteArray} (h : w.cell? ⟨b, 0, none⟩ = some (.string s)) : sizeAt w b = s.size := by unfold sizeAt; rw [h]
theorem setCell_box {w : World} {p : Nat} {u v : Value} {t : TypeId} {f : Nat × Nat} (h : w.heap[p]? = some (.cells #[u] t f)) : w.setCell ⟨p, 0, none⟩ v = w.setB p (.cells #[v] t f) := by
  have hp := (Array.getElem?_eq_some_iff.1 h).1
  have := World.setCell_setB_at w p 0 v #[u] t f hp
  rw [World.setB_self h] at this
  exact this
/-- the iterator's cells -/
def SeqK (B : Nat) (p : Nat) : Prop := p = 0 ∨ (B ≤ p ∧ p < B + 3)
set_option maxRecDepth 100000 in
set_option maxHeartbeats 4000000 in
theorem lib_seq (n B : Nat) (s : ByteArray) (hs : s.size ≤ 1048576) (w : World) (hB1 : w.heap[B]? = some (.cells #[.string s] 9 (0, 0))) (hB2 : w.heap[B + 1]? = some (.cells #[.string ⟨#[10]⟩] 9 (0, 0)))
    (hB3 : w.heap[B + 2]? = some (.cells #[.int .i64 1] 3 (0, 0))) (hm : ∃ m, w.cell? ⟨0, 0, none⟩ = some (.int .i64 m)) (hml : 0 < B) :
    SeqOwn n Tryz.prog 109 #[.pointer (some ⟨B + 1, 0, none⟩), .pointer (some ⟨B, 0, none⟩), .pointer (some ⟨B + 2, 0, none⟩)] (fun x : ByteArray => Value.string x) B (B + 1) (SeqK B) ((linesL s.data.toList).length + 1) (fun x => x.size ≤ 1048577) (Pieces s.data.toList) w := by
  intro l J W hbw hab htn hY h0
  obtain ⟨m, hm⟩ := hm
  have k1 := (hbw.block _ (Array.getElem?_eq_some_iff.1 hB1).1).trans hB1
  have k2 := (hbw.block _ (Array.getElem?_eq_some_iff.1 hB2).1).trans hB2
  have k3 := (hbw.block _ (Array.getElem?_eq_some_iff.1 hB3).1).trans hB3
  have km := (Grew.below hbw).cell hm
  have hsz : B + 2 < W.heap.size := (Array.getElem?_eq_some_iff.1 k3).1
  clear hB1 hB2 hB3 hm hbw
  have c1 : W.cell? ⟨B, 0, none⟩ = some (.string s) := by simp [World.cell?, k1]
  have c2 : W.cell? ⟨B + 1, 0, none⟩ = some (.string ⟨#[10]⟩) := by simp [World.cell?, k2]
  refine callsIn_of_wp Tryz.func109 rfl trivial ?_ rfl
  simp only [Tryz.ntmps109, List.size_toArray, List.length_cons, List.length_nil, Nat.reduceAdd, Nat.reduceSub, Array.replicate_succ, Array.replicate_zero, List.push_toArray, List.append_toArray, List.nil_append, List.cons_append]
  gi_wp2
  gi_loopw [7, 8] (fun _ _ wr => ∃ (pre : List ByteArray) (cur : ByteArray), wr.heap[B]? = some (.cells #[.string cur] 9 (0, 0)) ∧ wr.heap[B + 1]? = some (.cells #[.string ⟨#[10]⟩] 9 (0, 0)) ∧ wr.heap[B + 2]? = some (.cells #[.int .i64 1] 3 (0, 0)) ∧ wr.cell? ⟨0, 0, none⟩ = some (.int .i64 m) ∧ J pre wr ∧ pre.map (·.data.toList) ++ linesL cur.data.toList = linesL s.data.toList ∧ cur.size ≤ s.size)
    (fun _ _ wr => sizeAt wr B)
  case atStart => exact ⟨[], s, k1, k2, k3, km, h0, by simp, by omega⟩
  case round =>
    obtain ⟨pre, cur, b1, b2, b3, bm, hj, hlin, hcs⟩ := hrel
    have hB : B < wr.heap.size := (Array.getElem?_eq_some_iff.1 b1).1
    have d1 : wr.cell? ⟨B, 0, none⟩ = some (.string cur) := by simp [World.cell?, b1]
    have d2 : wr.cell? ⟨B + 1, 0, none⟩ = some (.string ⟨#[10]⟩) := by simp [World.cell?, b2]
    have d3 : wr.cell? ⟨B + 2, 0, none⟩ = some (.int .i64 1) := by simp [World.cell?, b3]
    have hpl : pre.length + (linesL cur.data.toList).length = (linesL s.data.toList).length := by rw [← hlin, List.length_append, List.length_map]
    have hcl : cur.data.toList.length = cur.size := by simp
    have HI := Lib.hid (Tryz.strings_Index cur ⟨#[10]⟩ m wr (by omega) bm)
    rcases at10 cur.data.toList with ⟨hi, hno⟩ | ⟨x, r, hx, hno, hi⟩
    · have HI2 := Lib.hid hi
      obtain ⟨fn, tmps, assign, body, hy, hR⟩ := hY pre cur wr hj (by omega) (by omega)
      have HR := Lib.hid hR
      have HJ := Lib.hid hj
      have HL := Lib.hid hlin
      clear hR hj hlin hcl hpl hi
      gi_wp2_with (refine ⟨trivial, (fun h => by simp [Fence.wide] at h), ?_⟩; gi_at_call 111; refine (callsIn_wide.2 HI.out).mono ?_; rintro e w' ⟨rfl, rfl⟩; rw [HI2.out])
      refine ⟨(fun h => by simp [Fence.wide] at h), HR.out.mono ?_⟩
      rintro e W3 ⟨rfl, hJ3, _, _⟩
      gi_wp2
      go_end0
      exact ⟨⟨_, rfl⟩, pre ++ [cur], ⟨cur.data.toList, hno, by rw [List.map_append, ← HL.out, linesL_none hno]; simp⟩, hJ3⟩
    · have HI2 := Lib.hid hi
      have hxl : cur.size = x.length + (r.length + 1) := by rw [← hcl, hx, List.length_append, List.length_cons]
      have hL2 := hlin
      rw [hx, linesL_app r hno] at hL2
      have e1 : (cur.extract 0 (x.length + 1)).data.toList = x ++ [10] := by
        rw [cut_list, hx, List.drop_zero, Nat.sub_zero, List.take_length_add_append]
        rfl
      have e2 : (cur.extract (x.length + 1) cur.size).data.toList = r := by
        rw [cut_list, hx, List.drop_length_add_append, List.drop_succ_cons, List.drop_zero, List.take_of_length_le (by omega)]
      have hfs : (x.length : Int) + 1 ≤ cur.size := by omega
      obtain ⟨fn, tmps, assign, body, hy, hR⟩ := hY pre (cur.extract 0 (x.length + 1)) wr hj (by omega) (by rw [ByteArray.size_extract]; omega)
      have HR := Lib.hid hR
      have HJ := Lib.hid hj
      have HL := Lib.hid hL2
      have HE1 := Lib.hid e1
      have HE2 := Lib.hid e2
      have HXL := Lib.hid hxl
      have HM := Lib.hid (sizeAt_eq d1)
      clear hR hj hlin hcl hpl hi hL2 hx e1 e2 hxl
      gi_wp2_with (refine ⟨trivial, (fun h => by simp [Fence.wide] at h), ?_⟩; gi_at_call 111; refine (callsIn_wide.2 HI.out).mono ?_; rintro e w' ⟨rfl, rfl⟩; rw [HI2.out])
      refine ⟨(fun h => by simp [Fence.wide] at h), HR.out.mono ?_⟩
      rintro e W3 ⟨rfl, hJ3, hz3, hs3⟩
      have g1 := (hs3 B (.inr (by omega))).trans b1
      have g2 := (hs3 (B + 1) (.inr (by omega))).trans b2
      have g3 := (hs3 (B + 2) (.inr (by omega))).trans b3
      have gm := (World.cell?_of_block (w := w') (a := ⟨0, 0, none⟩) (hs3 0 (.inl rfl))).trans bm
      clear b1 b2 b3 bm d1 d2 d3 hs3
      have d1 : W3.cell? ⟨B, 0, none⟩ = some (.string cur) := by simp [World.cell?, g1]
      have d2 : W3.cell? ⟨B + 1, 0, none⟩ = some (.string ⟨#[10]⟩) := by simp [World.cell?, g2]
      have f1 : W3.frozen? ⟨B, 0, none⟩ = false := by simp [World.frozen?, g1]
      have hB3 : B < W3.heap.size := by omega
      gi_wp2
      rw [setCell_box g1]
      go_roundw
      case rel => 
        refine ⟨pre ++ [cur.extract 0 (x.length + 1)], cur.extract (x.length + 1) cur.size, World.setB_at _ _ _ hB3, (World.setB_get _ _ _ _ (by omega)).trans g2, (World.setB_get _ _ _ _ (by omega)).trans g3, (World.cell?_setB_ne _ _ _ _ _ (by omega)).trans gm, htn _ _ _ _ (by omega) (by omega) hJ3, ?_, ?_⟩
        · rw [List.map_append, HE2.out, List.append_assoc, ← HL.out]
          show _ ++ ([(cur.extract 0 (x.length + 1)).data.toList] ++ _) = _
          rw [HE1.out]
          rfl
        · have := HXL.out
          rw [ByteArray.size_extract]
          omega
      case measure =>
        have := HXL.out
        rw [HM.out, sizeAt_eq (s := cur.extract (x.length + 1) cur.size) (World.cell?_setB_at _ _ _ _ _ _ hB3), ByteArray.size_extract]
        omega

theorem linesL_end {L : List UInt8} {p : List UInt8} (h : p ∈ linesL L) : p.getLast? = some 10 := by
  unfold linesL at h
  obtain ⟨a, ha, rfl⟩ := List.mem_map.1 h
  simp
theorem pieces_ends {L : List UInt8} {xs : List ByteArray} (h : Pieces L xs) : (xs.filter endsB).map (·.data.toList) = linesL L := by
  obtain ⟨r, hr, h⟩ := h
  have h1 : (xs.filter endsB).map (·.data.toList) = (xs.map (·.data.toList)).filter (fun l => l.getLast? == some 10) := by
    rw [List.filter_map]
    rfl
  rw [h1, h, List.filter_append]
  have h2 : (linesL L).filter (fun l => l.getLast? == some 10) = linesL L := by
    rw [List.filter_eq_self]
    intro p hp
    rw [linesL_end hp]
    rfl
  have h3 : [r].filter (fun l => l.getLast? == some 10) = [] := by
    rw [List.filter_eq_nil_iff]
    intro p hp
    rw [List.mem_singleton.1 hp]
    intro hq
    exact hr (List.mem_of_getLast? (eq_of_beq hq))
  rw [h2, h3, List.append_nil]
/-- the library's variable -/
def MaxC (w : World) : Prop := ∃ m, w.cell? ⟨0, 0, none⟩ = some (.int .i64 m)
theorem MaxC.below {w w' : World} (h : MaxC w) (hb : Below w.heap.size w w') : MaxC w' := by
  obtain ⟨m, hm⟩ := h
  exact ⟨m, (Grew.below hb).cell hm⟩
/-- what the loop has gathered -/
def Gath (nb n0 Bo : Nat) (w0 : World) (pre : List ByteArray) (W : World) : Prop := ∃ v, W.heap[Bo]? = some (.cells #[v] 61 (0, 0)) ∧ OwnL rStr 9 W nb v (pre.filter endsB) ∧ Below n0 w0 W ∧ nb ≤ W.heap.size
theorem Gath.own {nb n0 Bo B : Nat} {w0 : World} (h0 : w0.heap.size = n0) (hB : n0 ≤ B) : OwnFrom B (Gath nb n0 Bo w0) := by
  rintro pre W W' row ⟨v, hv, hr, hb, hnb⟩ hg hrow
  obtain ⟨v', hv', hr', rfl⟩ := holdsRow_own (β := List ByteArray) nb Bo 61 9 1 (fun xs => (xs.filter endsB).length) (fun xs => (xs.filter endsB).flatMap rStr.row) (fun _ u => u = v) pre W W' row ⟨v, hv, hr, rfl⟩ hg (fun r e => (hrow r e).2)
  exact ⟨v', hv', hr', hb.grown hg (by have := hb.size; omega) (fun k e => by have := (hrow k e).1; omega), Nat.le_trans hnb hg.size⟩
theorem Gath.turns {nb n0 Bo lo hi : Nat} {w0 : World} (h0 : w0.heap.size = n0) (h1 : Bo < lo) (h2 : n0 ≤ lo) (h3 : hi ≤ nb) : Turns lo hi (Gath nb n0 Bo w0) := by
  rintro pre W p o hlo hhi ⟨v, hv, hr, hb, hnb⟩
  have hg : W.grownBy (W.setB p o) (some p) := ⟨rfl, rfl, rfl, by simp [World.setB_size], fun k _ hk => World.setB_get _ _ _ _ (fun e => hk (by rw [e]))⟩
  refine ⟨v, (World.setB_get _ _ _ _ (by omega)).trans hv, hr.kept hg ?_, hb.grown hg (by have := hb.size; omega) (fun k e => by cases e; omega), Nat.le_trans hnb hg.size⟩
  rcases hr.2 with ⟨rfl, _⟩ | ⟨g, cap, cur, rfl, hgb, _⟩
  · exact .inl rfl
  · exact .inr (fun e => by simp [Value.ownBlock] at e; omega)
theorem lt_of_cell {w : World} {b : Nat} {v : Value} (h : w.cell? ⟨b, 0, none⟩ = some v) : b < w.heap.size := by
  cases hb : w.heap[b]? with
  | none => simp [World.cell?, hb] at h
  | some o => exact (Array.getElem?_eq_some_iff.1 hb).1
theorem cell_new_s (W : World) (v : Value) (t : TypeId) : (W.alloc (.cells #[v] t)).cell? ⟨W.heap.size, 0, none⟩ = some v := by
  have := World.alloc_heap_new W (.cells #[v] t)
  unfold World.cell?
  rw [this]
  rfl
theorem wpListIn_appS {F : Fence} {n : Nat} {w : World} {ops : Array Oper} {rest : List Oper} {o : Oper} {a : Act} {Q : Exit → Act → World → Prop} (hgd : o.guard = none) (s x : Operand)
    (ho : o.op = .call { callee := .builtin .append, args := #[s, x], argTypes := #[61, 61] })
    {B : Nat} {v : Value} {xs : List ByteArray} (hown : OwnL rStr 9 w B v xs) (hs : a.eval s = v) (y : ByteArray) (b : Nat) (hx : a.eval x = .slice (some ⟨b, 0, none⟩) 1 1) (hy : w.cell? ⟨b, 0, none⟩ = some (.string y)) (hl : xs.length ≤ 1099511627776) (hB : B ≤ w.heap.size)
    (h : ∀ v' w', OwnL rStr 9 w' B v' (xs ++ [y]) → w.grownBy w' v.ownBlock → wpListIn F n Tryz.prog ops Q rest (a.put o.dst v') w') : wpListIn F n Tryz.prog ops Q (o :: rest) a w := by
  obtain ⟨i, z, h1, h2, h3, h4, h5⟩ := Tryz.elemStrR.hi
  refine wpListIn_append_own w hgd s x 61 ho B 9 i z 1 16 Tryz.elemStrR.ht h1 h2 h3 h4 (by rw [h5]) (by decide) v xs.length (xs.flatMap rStr.row) hs hown ⟨b, 0, none⟩ 1 1 [.string y] hx rfl ?_ (by simp [Value.oneCell']) (by unfold maxLen; omega) (by omega) hB ?_
  · intro j u hj
    match j, hj with
    | 0, hj => cases hj; exact hy
  · intro v' w' hv' hg _
    refine h v' w' ?_ hg
    show World.ownsRow _ _ _ _ _ _ _
    rw [List.length_append, List.flatMap_append]
    exact hv'
set_option maxRecDepth 100000 in
set_option maxHeartbeats 4000000 in
theorem impl_LinesIn (s : ByteArray) (w : World) (hm : MaxC w) (hs : s.size ≤ 1048576) :
    Calls Tryz.prog 34 #[.string s] w (LnP 9 s w) := by
  have hml : 0 < w.heap.size := by
    obtain ⟨m, hm⟩ := hm
    exact lt_of_cell hm
  have HMX := Lib.hid hm
  clear hm
  refine (callsIn_wide (n := 5)).1 (callsIn_of_wp_marks Tryz.func34 rfl trivial ?_ rfl)
  simp only [Tryz.ntmps34, List.size_toArray, List.length_cons, List.length_nil, Nat.reduceAdd, Nat.reduceSub, Array.replicate_succ, Array.replicate_zero, List.push_toArray, List.append_toArray, List.nil_append, List.cons_append]
  gi_wp2_with (refine ⟨trivial, ?_⟩; gi_at_call 67; refine (callsIn_wide.2 (lib_SplitAfterSeq s _)).mono ?_; rintro e w' ⟨rfl, rfl⟩)
  have hz : (seqW s (w.alloc (.cells #[.slice none 0 0] 61))).heap.size = w.heap.size + 4 := by simp [seqW]
  have hb0 : Below w.heap.size w (seqW s (w.alloc (.cells #[.slice none 0 0] 61))) := by unfold seqW; exact (by repeat (first | with_reducible exact Below.refl _ _ | with_reducible apply Below.ofExt | with_reducible apply Below.ofAlloc | with_reducible apply Below.drew | with_reducible apply Below.ofDrewN | with_reducible assumption | (with_reducible refine Below.setCell ?_ (by first | exact Nat.le_refl _ | (simp [go_sem]; done) | (simp [go_sem]; omega)) _)))
  have hBo : (seqW s (w.alloc (.cells #[.slice none 0 0] 61))).heap[w.heap.size]? = some (.cells #[.slice none 0 0] 61 (0, 0)) := by
    unfold seqW
    rw [Below.heap_alloc _ _ _ (by simp; omega), Below.heap_alloc _ _ _ (by simp; omega), Below.heap_alloc _ _ _ (by simp)]
    exact World.alloc_heap_new _ _
  have hB1 : (seqW s (w.alloc (.cells #[.slice none 0 0] 61))).heap[w.heap.size + 1]? = some (.cells #[.string s] 9 (0, 0)) := by
    unfold seqW
    rw [Below.heap_alloc _ _ _ (by simp), Below.heap_alloc _ _ _ (by simp)]
    exact alloc_newA' _ _ _ (by simp)
  have hB2 : (seqW s (w.alloc (.cells #[.slice none 0 0] 61))).heap[w.heap.size + 1 + 1]? = some (.cells #[.string ⟨#[10]⟩] 9 (0, 0)) := by
    unfold seqW
    rw [Below.heap_alloc _ _ _ (by simp)]
    exact alloc_newA' _ _ _ (by simp)
  have hB3 : (seqW s (w.alloc (.cells #[.slice none 0 0] 61))).heap[w.heap.size + 1 + 2]? = some (.cells #[.int .i64 1] 3 (0, 0)) := by
    unfold seqW
    exact alloc_newA' _ _ _ (by simp)
  generalize hW : seqW s (w.alloc (.cells #[.slice none 0 0] 61)) = W0 at *
  clear hW
  refine range_own (n := 5) (gf := 109) (lb := #[.pointer (some ⟨w.heap.size + 1 + 1, 0, none⟩), .pointer (some ⟨w.heap.size + 1, 0, none⟩), .pointer (some ⟨w.heap.size + 1 + 2, 0, none⟩)]) rfl (enters_of Tryz.func109 (by kernel_rfl) rfl)
    (enc := fun x : ByteArray => Value.string x) (lo := w.heap.size + 1) (hi := w.heap.size + 1 + 1) (by omega) (K := SeqK (w.heap.size + 1)) (fun p hp => by rcases hp with rfl | hp <;> omega) (N := (linesL s.data.toList).length + 1) (X := fun x => x.size ≤ 1048577) (S := Pieces s.data.toList)
    (lib_seq _ (w.heap.size + 1) s hs W0 hB1 hB2 hB3 (by obtain ⟨m, hm⟩ := HMX.out; exact ⟨m, (Grew.below hb0).cell hm⟩) (by omega)) rfl
    (Gath (w.heap.size + 4) w.heap.size w.heap.size w) (Gath.own rfl (by omega)) (Gath.turns rfl (by omega) (by omega) (by omega)) ⟨_, hBo, OwnL.nil _ _ _ _, hb0, by omega⟩
    (fun x => { tmps := #[.string s, undef, .slice none 0 0, .pointer (some ⟨w.heap.size, 0, none⟩), .string x, .string s, seqV (w.heap.size + 1), .string x, undef, undef, undef, undef, undef, undef, undef], defers := [] }) ?assign ?body ?done
  case assign =>
    intro l x W K hK
    gi_wp2
    exact hK
  case body =>
    rintro l pre x W ⟨v, hv, hr, hb, hnb⟩ hlen hxs
    have hfl := List.length_filter_le endsB pre
    have hll := linesL_len s.data.toList
    have hsl : s.data.toList.length = s.size := by simp
    have hWz := hb.size
    have hvc : W.cell? ⟨w.heap.size, 0, none⟩ = some v := by simp [World.cell?, hv]
    have hvf : W.frozen? ⟨w.heap.size, 0, none⟩ = false := by simp [World.frozen?, hv]
    have HR := Lib.hid hr
    have HB := Lib.hid hb
    have HV := Lib.hid hv
    have HX := Lib.hid hxs
    have HS := Lib.hid (CallsIn.inRound l ((callsIn_wide (n := 2)).2 (lib_HasSuffix x W hxs)))
    have HW := Lib.hid hWz
    have hnW : w.heap.size < W.heap.size := lt_of_cell hvc
    clear hr hb hv hxs
    cases he : endsB x with
    | false =>
      have hf : (pre ++ [x]).filter endsB = pre.filter endsB := by rw [List.filter_append]; simp [he]
      have HE := Lib.hid he
      have HF := Lib.hid hf
      clear he hf
      gi_wp2_with (refine ⟨trivial, ?_⟩; gi_at_call 68; refine HS.out.mono ?_; rintro e w' ⟨rfl, rfl⟩; rw [HE.out])
      exact ⟨KeepsFrom.refl _ _, fun p _ => rfl, v, HV.out, by rw [HF.out]; exact HR.out, HB.out, hnb⟩
    | true =>
      have hf : (pre ++ [x]).filter endsB = pre.filter endsB ++ [x] := by rw [List.filter_append]; simp [he]
      have HE := Lib.hid he
      have HF := Lib.hid hf
      clear he hf
      gi_wp2_with (first | (refine ⟨trivial, ?_⟩; gi_at_call 68; refine HS.out.mono ?_; rintro e w' ⟨rfl, rfl⟩; rw [HE.out]) | (gi_at_builtin; refine Stop.here ?_))
      refine wpListIn_appS rfl _ _ rfl (HR.out.alloc _) rfl x W.heap.size rfl (cell_new_s _ _ _) (by omega) (by simp; omega) ?_
      intro v4 w4 hown4 hg4
      have hvne : some w.heap.size ≠ v.ownBlock := fun e => by have := HR.out.lt _ e.symm; omega
      have hv4 : w4.heap[w.heap.size]? = some (.cells #[v] 61 (0, 0)) := (hg4.block _ (by simp; omega) hvne).trans ((Below.heap_alloc _ _ _ hnW).trans HV.out)
      have hvc4 : w4.cell? ⟨w.heap.size, 0, none⟩ = some v := by simp [World.cell?, hv4]
      have hvf4 : w4.frozen? ⟨w.heap.size, 0, none⟩ = false := by simp [World.frozen?, hv4]
      have hz4 := hg4.size
      have hlow : ∀ p, p < W.heap.size → some p ≠ v.ownBlock → w4.heap[p]? = W.heap[p]? := fun p hp hne => (hg4.block _ (by simp; omega) hne).trans (Below.heap_alloc _ _ _ hp)
      have hrow : ∀ k, v.ownBlock = some k → w.heap.size + 4 ≤ k ∧ k < W.heap.size := HR.out.lt
      have hnc : ∀ k o, W.heap[k]? = some o → o.isCells = false → some k ≠ v.ownBlock := fun k o hk ho e => by
        rcases HR.out.2 with ⟨rfl, _⟩ | ⟨g, cap, cur, rfl, _, hgb, _⟩
        · simp [Value.ownBlock] at e
        · simp [Value.ownBlock] at e
          subst e
          rw [hgb] at hk
          cases hk
          cases ho
      have hb4 : Below w.heap.size w w4 := (HB.out.alloc HB.out.size _).grown hg4 (by simp; omega) (fun k e => by have := hrow k e; omega)
      obtain ⟨g, cap, rfl⟩ : ∃ g cap, v4 = .slice (some ⟨g, 0, none⟩) ((pre.filter endsB).length + 1) cap := by
        have := hown4
        unfold OwnL at this
        rw [List.length_append, List.length_singleton] at this
        exact ownsRow_succ this
      have hgl := hown4.lt g rfl
      have HG4 := Lib.hid hb4
      have HO4 := Lib.hid hown4
      have HLOW := Lib.hid hlow
      have HNC := Lib.hid hnc
      have HROW := Lib.hid hrow
      have HV4 := Lib.hid hv4
      clear hvc hvf hown4 hg4 hb4 hlow hnc hv4 hrow hvne
      simp at hz4
      gi_wp2
      rw [setCell_box HV4.out]
      have hgs : w4.grownBy (w4.setB w.heap.size (.cells #[.slice (some ⟨g, 0, none⟩) ((pre.filter endsB).length + 1) cap] 61 (0, 0))) (some w.heap.size) := ⟨rfl, rfl, rfl, by simp [World.setB_size], fun k _ hk => World.setB_get _ _ _ _ (fun e => hk (by rw [e]))⟩
      refine ⟨⟨by rw [World.setB_size]; omega, fun k o hk hko hcc => ?_⟩, fun p hp => ?_, _, World.setB_at _ _ _ (by omega), ?_, HG4.out.grown hgs (by omega) (fun k e => by cases e; omega), by rw [World.setB_size]; omega⟩
      · rw [World.setB_get _ _ _ _ (by omega), HLOW.out k (Array.getElem?_eq_some_iff.1 hko).1 (HNC.out k o hko hcc)]
        exact hko
      · have hpl : p < w.heap.size + 4 ∧ p ≠ w.heap.size := by rcases hp with rfl | hp <;> omega
        rw [World.setB_get _ _ _ _ hpl.2]
        exact HLOW.out p (by have := HB.out.size; omega) (fun e => by have := HROW.out p e.symm; omega)
      · rw [HF.out]
        exact HO4.out.kept hgs (.inr (fun e => by simp [Value.ownBlock] at e; omega))
  case done =>
    rintro D xs W hD hP ⟨v, hv, hr, hb, _⟩ hDd
    have hvc : W.cell? ⟨w.heap.size, 0, none⟩ = some v := by simp [World.cell?, hv]
    have HR := Lib.hid hr
    have HB := Lib.hid hb
    clear hr hb hv
    gi_wp2
    refine ⟨by simp, .inl ⟨_, _, rfl, run_takeDeferred hDd, ?_⟩⟩
    refine ⟨_, results_tmp rfl _ _ _, ?_⟩
    have hv : ({ tmps := #[.string s, undef, v, .pointer (some ⟨w.heap.size, 0, none⟩), undef, .string s, seqV (w.heap.size + 1), undef, undef, undef, undef, undef, undef, undef, v], defers := [{ target := Target.collected D, args := #[] }] } : Act).tmps.getD 2 undef = v := by
      simp [Array.getD]
    rw [hv]
    exact LnP.mk (v := v) (ownsRow_putObj (HR.out.base (B' := w.heap.size) (by omega)) _ hDd rfl) (pieces_ends hP) (HB.out.grown (grownBy_putObj' _ _ _) HB.out.size (fun k e => by cases e; omega))
end Go.Proofs.YtedgenmbdjadkaaGreatDoor
namespace Go.Proofs.YtedgenmbdjadkaaGreatDoor
open Go.ChangeShapes Go.WideShapes Go.ChangeAt Go.RowKit

theorem _root_.Go.RowKit.Below.ofGrow {w : World} (k : Nat) (os : Array Obj) : Below w.heap.size w (Sort.grow (w.drewN k) os) := by
  refine ⟨rfl, rfl, rfl, ?_, fun i hi => ?_⟩
  · simp [Sort.grow, World.drewN]
  · simp only [Sort.grow, World.drewN]
    rw [Array.getElem?_append_left hi]
def Tab10 (w : World) : Prop := Lib.TabIs Tryz.prog w "internal/strconv.uint64pow10" .u64 Lib.pow10Tab
theorem Tab10.below {w w' : World} (h : Tab10 w) (hb : Below w.heap.size w w') : Tab10 w' := Go.Lib.tabBelow_of_tabIs h w' hb
theorem impl_Decimal (n : Int) (w : World) (h0 : -9223372036854775808 ≤ n) (h1 : n ≤ 9223372036854775807) (ht : Tab10 w) :
    Calls Tryz.prog 52 #[.int .i64 n] w fun e w' => e = .returned (.string (strOf (Lib.itoa n))) ∧ Below w.heap.size w w' := by
  go_enter Tryz.func52, Tryz.ntmps52
  go_wp2_with fail
  (go_at_call 84; refine (Tryz.strconv_Itoa n h0 h1 w ht).mono ?_; rintro e w' ⟨rfl, k, os, rfl⟩)
  go_wp2
  go_ret
  exact ⟨rfl, Below.ofGrow k os⟩
theorem lib_enc (v : Value) (l : List UInt8) (B : Nat) (w : World) (h : OwnB 5 w B v l) (hl : 2 * l.length ≤ 281474976710656) :
    Calls Tryz.prog 101 #[v] w fun e w' => e = .returned (.string (strOf (Lib.Hx.encode l))) ∧ Below w.heap.size w w' := by
  have hs := h.sl
  rcases h with ⟨rfl, rfl⟩ | ⟨g, cap, cur, fz, rfl, hb, hg, _, hnc, hcm, hcs, ht⟩
  · exact Tryz.hex_EncodeToString_nil w
  · refine Tryz.hex_EncodeToString_bytes g 0 cap l w (fun i hi => ?_) (Array.getElem?_eq_some_iff.1 hg).1 hl
    have hu : (bytesOf l)[i]? = some (.int .u8 (l[i].toNat : Int)) := by unfold bytesOf; rw [List.getElem?_map, List.getElem?_eq_getElem hi]; rfl
    rw [← ht, List.getElem?_take, if_pos hi] at hu
    simp only [World.cell?, hg, Nat.zero_add]
    simpa using hu
theorem impl_Hex (s : ByteArray) (w : World) (hs : s.size ≤ 9223372036854775807) :
    Calls Tryz.prog 85 #[.string s] w fun e w' => e = .returned (.tuple #[.string (hexT s), .bool (decide (s.size ≤ 20000))]) ∧ Below w.heap.size w w' := by
  go_enter Tryz.func85, Tryz.ntmps85
  by_cases hb : (20000 : Int) < s.size
  · go_wp2
    refine bodyPost_ret (by simp [results, Tryz.results85, go_sem]; rfl) rfl ?_
    refine ⟨?_, (by repeat (first | with_reducible exact Below.refl _ _ | with_reducible apply Below.ofExt | with_reducible apply Below.ofAlloc | with_reducible apply Below.drew | with_reducible apply Below.ofDrewN | with_reducible assumption | (with_reducible refine Below.setCell ?_ (by first | exact Nat.le_refl _ | (simp [go_sem]; done) | (simp [go_sem]; omega)) _)))⟩
    unfold hexT
    rw [if_neg (by omega), decide_eq_false (by omega)]
  obtain ⟨v, w1, hcv, ho, hbl⟩ := conv_bytes w s hs
  obtain ⟨X, rfl⟩ := hbl.ext
  have hlen : s.data.toList.length = s.size := by simp
  have hc := lib_enc v s.data.toList _ (w.ext X) ho (by omega)
  clear ho hlen
  go_wp2_with fail
  (go_at_call 101; refine hc.mono ?_; rintro e w' ⟨rfl, hb2⟩; obtain ⟨X2, rfl⟩ := hb2.ext; clear hb2 hc)
  go_wp2
  refine bodyPost_ret (by simp [results, Tryz.results85, go_sem]; rfl) rfl ?_
  refine ⟨?_, (by repeat (first | with_reducible exact Below.refl _ _ | with_reducible apply Below.ofExt | with_reducible apply Below.ofAlloc | with_reducible apply Below.drew | with_reducible apply Below.ofDrewN | with_reducible assumption | (with_reducible refine Below.setCell ?_ (by first | exact Nat.le_refl _ | (simp [go_sem]; done) | (simp [go_sem]; omega)) _)))⟩
  unfold hexT
  rw [if_pos (by omega), decide_eq_true (by omega)]
theorem impl_hexOf (s : ByteArray) (w : World) (hs : s.size ≤ 9223372036854775807) :
    Calls Tryz.prog 55 #[.string s] w fun e w' => e = .returned (.string (hexT s)) ∧ Below w.heap.size w w' := by
  go_enter Tryz.func55, Tryz.ntmps55
  go_wp2_with fail
  (go_at_call 85; refine (impl_Hex s w hs).mono ?_; rintro e w' ⟨rfl, hb⟩; obtain ⟨X, rfl⟩ := hb.ext; clear hb)
  go_wp2
  go_ret
  exact ⟨rfl, (by repeat (first | with_reducible exact Below.refl _ _ | with_reducible apply Below.ofExt | with_reducible apply Below.ofAlloc | with_reducible apply Below.drew | with_reducible apply Below.ofDrewN | with_reducible assumption | (with_reducible refine Below.setCell ?_ (by first | exact Nat.le_refl _ | (simp [go_sem]; done) | (simp [go_sem]; omega)) _)))⟩
end Go.Proofs.YtedgenmbdjadkaaGreatDoor
namespace Go.Proofs.YtedgenmbdjadkaaGreatDoor
open Go.ChangeShapes Go.WideShapes Go.ChangeAt Go.RowKit
/-- block b holds a Builder of the call's own (all that it has lies at B or later), with the bytes l -/
def IsB (w : World) (B b : Nat) (l : List UInt8) : Prop := Lib.IsBuilderF 79 5 B b (bytesOf l) w
theorem IsB.fresh (w : World) : IsB (w.alloc (.cells #[.pointer none, .slice none 0 0] 79)) w.heap.size w.heap.size [] := Lib.IsBuilderF.of (Lib.fresh_isBuilder _ _ w)
theorem IsB.ext {w : World} {B b : Nat} {l : List UInt8} (h : IsB w B b l) (X : Ext) : IsB (w.ext X) B b l := by
  have go : ∀ p, Lib.BuilderAtF 79 5 B b p (bytesOf l) w → Lib.BuilderAtF 79 5 B b p (bytesOf l) (w.ext X) := by
    rintro p ⟨hB, v, hb, ho, hne⟩
    refine ⟨hB, v, (w.ext_get X (World.lt_of_get hb)).trans hb, ?_, hne⟩
    refine ho.kept (row := none) ⟨rfl, rfl, rfl, by rw [World.ext_size]; omega, fun k hk _ => w.ext_get X hk⟩ (by cases hv : v.ownBlock <;> simp)
  exact h.elim (fun x => .inl (go _ x)) (fun x => .inr (go _ x))
theorem IsB.alloc {w : World} {B b : Nat} {l : List UInt8} (h : IsB w B b l) (o : Obj) : IsB (w.alloc o) B b l := by
  have go : ∀ p, Lib.BuilderAtF 79 5 B b p (bytesOf l) w → Lib.BuilderAtF 79 5 B b p (bytesOf l) (w.alloc o) := fun p x => Lib.BuilderAtF.alloc x o
  exact h.elim (fun x => .inl (go _ x)) (fun x => .inr (go _ x))
theorem IsB.below {w w' : World} {B b : Nat} {l : List UInt8} (h : IsB w B b l) (hb : Below w.heap.size w w') : IsB w' B b l := by
  obtain ⟨X, rfl⟩ := hb.ext
  exact h.ext X
theorem IsB.same {w : World} {bs : Array Obj} {d0 dr : Nat} {B b : Nat} {l : List UInt8} (h : IsB (w.ext ⟨bs, d0⟩) B b l) : IsB (w.ext ⟨bs, dr⟩) B b l := by
  have := h.ext ⟨#[], dr⟩
  rwa [World.ext_ext, Array.append_empty] at this
theorem IsB.merge {w : World} {bs cs : Array Obj} {d0 dr : Nat} {B b : Nat} {l : List UInt8} (h : IsB (w.ext ⟨bs, d0⟩) B b l) : IsB (w.ext ⟨bs ++ cs, dr⟩) B b l := by
  have := h.ext ⟨cs, dr⟩
  rwa [World.ext_ext] at this
theorem sb_len (B b : Nat) (l : List UInt8) (w : World) (h : IsB w B b l) :
    Calls Tryz.prog 54 #[.pointer (some ⟨b, 0, none⟩)] w fun e w' => e = .returned (.int .i64 l.length) ∧ w' = w := by
  have := Tryz.Builder_Len_f B b (bytesOf l) w h
  rwa [bytesOf_length] at this
theorem sb_write (B b : Nat) (l : List UInt8) (s : ByteArray) (w : World) (h : IsB w B b l) (hlen : l.length + s.size ≤ 140737488355328) (hB : B ≤ w.heap.size) :
    Calls Tryz.prog 51 #[.pointer (some ⟨b, 0, none⟩), .string s] w fun e w' => e = .returned (.tuple #[.int .i64 s.size, .nilIface]) ∧ IsB w' B b (l ++ s.data.toList) ∧ Below B w w' := by
  refine (Tryz.Builder_WriteString_f B b (bytesOf l) s w h (by rw [bytesOf_length]; exact hlen) hB).mono ?_
  rintro e w' ⟨rfl, h1, h2⟩
  refine ⟨rfl, ?_, h2⟩
  unfold IsB
  rw [bytesOf_append, ← strCells_bytes]
  exact .inr h1
theorem sb_string (B b : Nat) (l : List UInt8) (w : World) (h : IsB w B b l) (hB : B ≤ w.heap.size) :
    Calls Tryz.prog 56 #[.pointer (some ⟨b, 0, none⟩)] w fun e w' => e = .returned (.string (strOf l)) ∧ IsB w' B b l ∧ Below B w w' :=
  Tryz.Builder_String_any_f B b l w h hB
end Go.Proofs.YtedgenmbdjadkaaGreatDoor
namespace Go.Proofs.YtedgenmbdjadkaaGreatDoor
open Go.ChangeShapes Go.WideShapes Go.ChangeAt Go.RowKit
theorem opqC {P : Program} {c : Code} {Q : Exit → Act → World → Prop} {a : Act} {W : World} (S : World → Prop) (h : S W) (H : ∀ W0, S W0 → c.wp P Q a W0) : c.wp P Q a W := H W h
theorem recStep_fits (l : List UInt8) (a b : ByteArray) (hl : (l.length : Int) ≤ 4000) (h1 : a.size ≤ 40000) (h2 : b.size ≤ 40000) : l.length + (⟨#[32]⟩ ++ a ++ ⟨#[61]⟩ ++ b : ByteArray).size ≤ 140737488355328 := by
  have e1 : (⟨#[32]⟩ : ByteArray).size = 1 := rfl
  have e2 : (⟨#[61]⟩ : ByteArray).size = 1 := rfl
  simp only [ByteArray.size_append]
  omega
theorem recStep_list (l : List UInt8) (dk dv : ByteArray) : l ++ (⟨#[32]⟩ ++ hexT dk ++ ⟨#[61]⟩ ++ hexT dv : ByteArray).data.toList = recAdd l ⟨dk, dv⟩ := by simp [recAdd, ByteArray.data_append]
theorem vt0 (w : World) {X Y : Ext} (h : Tab10 w) : Tab10 (w.ext X) := h.below (Below.ofExt (Below.refl _ _) _)
set_option maxRecDepth 100000 in
set_option maxHeartbeats 4000000 in
theorem impl_RecordText (seq : Int) (v : Value) (ds : List CellD) (w : World) {e : TypeId} (ht : Tab10 w) (hs : (vSlice vCell e).rd w [v] ds) (hlen : ds.length ≤ 1048576) :
    Calls Tryz.prog 18 #[.int .i64 seq, v] w fun e w' => e = .returned (.string (recText seq ds)) ∧ Below w.heap.size w w' := by
  obtain ⟨ao, cap, rfl, hc1, hc2, hnil, hcell⟩ := vSlice.shape hs
  have HX := Lib.hid hcell
  have HT := Lib.hid ht
  clear hcell hnil ht
  unfold maxLen at hc2
  clear hs
  go_enter Tryz.func18, Tryz.ntmps18
  go_wp2_with fail
  (go_at_call 38; refine (impl_in _ _ _ _).mono ?_; rintro e w' ⟨rfl, rfl⟩)
  cases hin : inB seq 1 100000 with
  | false =>
    go_wp2
    go_ret
    refine ⟨?_, (by repeat (first | with_reducible exact Below.refl _ _ | with_reducible apply Below.ofExt | with_reducible apply Below.ofAlloc | with_reducible apply Below.drew | with_reducible apply Below.ofDrewN | with_reducible assumption | (with_reducible refine Below.setCell ?_ (by first | exact Nat.le_refl _ | (simp [go_sem]; done) | (simp [go_sem]; omega)) _)))⟩
    unfold recText
    rw [hin]
    rfl
  | true =>
    have hq1 : 1 ≤ seq := by unfold inB at hin; simp at hin; omega
    have hq2 : seq ≤ 100000 := by unfold inB at hin; simp at hin; omega
    have HIN := Lib.hid hin
    clear hin
    go_wp2_with fail
    (go_at_call 52; refine (impl_Decimal seq _ (by omega) (by omega) (HT.out.below (by repeat (first | with_reducible exact Below.refl _ _ | with_reducible apply Below.ofExt | with_reducible apply Below.ofAlloc | with_reducible apply Below.drew | with_reducible apply Below.ofDrewN | with_reducible assumption | (with_reducible refine Below.setCell ?_ (by first | exact Nat.le_refl _ | (simp [go_sem]; done) | (simp [go_sem]; omega)) _))))).mono ?_; rintro e w' ⟨rfl, hb⟩; obtain ⟨X, rfl⟩ := hb.ext; clear hb)
    have hsm := small_itoa seq hq1 hq2
    go_wp2_with fail
    (go_at_call 51; refine (sb_write w.heap.size w.heap.size [] (strOf (Lib.itoa seq)) _ ((IsB.fresh w).ext X) (by rw [strOf_size]; simp; omega) (by simp [World.ext_size]; omega)).mono ?_; rintro e w' ⟨rfl, ho, hb⟩)
    have hb0 : Below w.heap.size w w' := Below.trans (by repeat (first | with_reducible exact Below.refl _ _ | with_reducible apply Below.ofExt | with_reducible apply Below.ofAlloc | with_reducible apply Below.drew | with_reducible apply Below.ofDrewN | with_reducible assumption | (with_reducible refine Below.setCell ?_ (by first | exact Nat.le_refl _ | (simp [go_sem]; done) | (simp [go_sem]; omega)) _))) hb
    obtain ⟨X1, rfl⟩ := hb0.ext
    rw [strOf_list, List.nil_append] at ho
    have HO := Lib.hid ho
    clear ho hb hb0
    go_wp2
    go_loopw [4, 7, 17] (fun r _ k wr => ∃ (n : Nat) (l : List UInt8), r = .string ⟨#[]⟩ ∧ k = .int .i64 n ∧ n ≤ ds.length ∧ Below w.heap.size w wr ∧ IsB wr w.heap.size w.heap.size l ∧ l.length ≤ 90000 ∧ recGo (Lib.itoa seq) ds = recGo l (ds.drop n)) (fun _ _ k _ => ds.length - (intOf k).toNat)
    case atStart => exact ⟨0, _, rfl, rfl, by omega, (by repeat (first | with_reducible exact Below.refl _ _ | with_reducible apply Below.ofExt | with_reducible apply Below.ofAlloc | with_reducible apply Below.drew | with_reducible apply Below.ofDrewN | with_reducible assumption | (with_reducible refine Below.setCell ?_ (by first | exact Nat.le_refl _ | (simp [go_sem]; done) | (simp [go_sem]; omega)) _))), HO.out, by omega, rfl⟩
    case round =>
      obtain ⟨n, l, rfl, rfl, hn, hbel, ho, hll, hgo⟩ := hrel
      obtain ⟨X2, rfl⟩ := hbel.ext
      have HO := Lib.hid ho
      have HGO := Lib.hid hgo
      clear ho hgo
      by_cases hlt : (n : Int) < ds.length
      case pos =>
        have hk : n < ds.length := by omega
        have hst := recGo_drop hk l
        obtain ⟨b, off, csy, rfl, hbly, hrdy, hcelly⟩ := HX.out n hk
        generalize ds[n] = d at hrdy hst
        obtain ⟨rfl, hoky⟩ := hrdy
        obtain ⟨dk, dv⟩ := d
        have y0 := hcelly 0 _ rfl
        have y1 := hcelly 1 _ rfl
        clear hcelly
        simp only [show vCell.k = 2 from rfl, Nat.add_zero] at y0 y1
        have hz1 : dk.size ≤ 9223372036854775807 := hoky.1
        have hz2 : dv.size ≤ 9223372036854775807 := hoky.2
        clear hoky
        cases hkk : keyOk dk with
        | false =>
          rw [recOne_false1 hkk, if_neg (by decide)] at hst
          have HS := Lib.hid (hst)
          have HK := Lib.hid hkk
          clear hst hkk
          go_wp2_with fail
          (go_at_call 53; refine (impl_KeyOk dk _ hz1).mono ?_; rintro e w' ⟨rfl, rfl⟩)
          rw [HK.out]
          go_wp2
          go_ret
          exact ⟨by rw [recText_none (HGO.out.trans HS.out)]; rfl, (by repeat (first | with_reducible exact Below.refl _ _ | with_reducible apply Below.ofExt | with_reducible apply Below.ofAlloc | with_reducible apply Below.drew | with_reducible apply Below.ofDrewN | with_reducible assumption | (with_reducible refine Below.setCell ?_ (by first | exact Nat.le_refl _ | (simp [go_sem]; done) | (simp [go_sem]; omega)) _)))⟩
        | true =>
          have HK := Lib.hid hkk
          by_cases hv : 60 < (dv.size : Int)
          · rw [recOne_false2 hv, if_neg (by decide)] at hst
            have HS := Lib.hid (hst)
            clear hst hkk
            go_wp2_with fail
            (go_at_call 53; refine (impl_KeyOk dk _ hz1).mono ?_; rintro e w' ⟨rfl, rfl⟩)
            rw [HK.out]
            go_wp2
            go_ret
            exact ⟨by rw [recText_none (HGO.out.trans HS.out)]; rfl, (by repeat (first | with_reducible exact Below.refl _ _ | with_reducible apply Below.ofExt | with_reducible apply Below.ofAlloc | with_reducible apply Below.drew | with_reducible apply Below.ofDrewN | with_reducible assumption | (with_reducible refine Below.setCell ?_ (by first | exact Nat.le_refl _ | (simp [go_sem]; done) | (simp [go_sem]; omega)) _)))⟩
          by_cases hl4 : 4000 < (l.length : Int)
          · rw [recOne_false3 hl4, if_neg (by decide)] at hst
            have HS := Lib.hid (hst)
            clear hst hkk
            go_wp2_with fail
            (go_at_call 53; refine (impl_KeyOk dk _ hz1).mono ?_; rintro e w' ⟨rfl, rfl⟩)
            rw [HK.out]
            go_wp2_with fail
            (go_at_call 54; refine (sb_len w.heap.size w.heap.size l _ (HO.out.alloc _)).mono ?_; rintro e w' ⟨rfl, rfl⟩)
            go_wp2
            go_ret
            exact ⟨by rw [recText_none (HGO.out.trans HS.out)]; rfl, (by repeat (first | with_reducible exact Below.refl _ _ | with_reducible apply Below.ofExt | with_reducible apply Below.ofAlloc | with_reducible apply Below.drew | with_reducible apply Below.ofDrewN | with_reducible assumption | (with_reducible refine Below.setCell ?_ (by first | exact Nat.le_refl _ | (simp [go_sem]; done) | (simp [go_sem]; omega)) _)))⟩
          rw [recOne_true hkk (by omega) (by omega), if_pos rfl] at hst
          have HS := Lib.hid (hst)
          clear hst hkk
          have hs1 := hexT_size dk
          have hs2 := hexT_size dv
          go_wp2_with fail
          (go_at_call 53; refine (impl_KeyOk dk _ hz1).mono ?_; rintro e w' ⟨rfl, rfl⟩)
          rw [HK.out]
          go_wp2_with fail
          (go_at_call 54; refine (sb_len w.heap.size w.heap.size l _ (HO.out.alloc _)).mono ?_; rintro e w' ⟨rfl, rfl⟩)
          go_wp2
          refine opqC (fun W => Below w.heap.size w W ∧ IsB W w.heap.size w.heap.size l ∧ W.heap[w.heap.size + X2.bs.size]? = some (.cells #[.string dk, .string dv] 39)) ⟨(by repeat (first | with_reducible exact Below.refl _ _ | with_reducible apply Below.ofExt | with_reducible apply Below.ofAlloc | with_reducible apply Below.drew | with_reducible apply Below.ofDrewN | with_reducible assumption | (with_reducible refine Below.setCell ?_ (by first | exact Nat.le_refl _ | (simp [go_sem]; done) | (simp [go_sem]; omega)) _))), HO.out.alloc _, alloc_newA' _ _ _ (by simp [World.ext_size])⟩ ?_
          rintro W0 ⟨hbW, hoW, heW⟩
          have d0 : W0.cell? ⟨w.heap.size + X2.bs.size, 0, none⟩ = some (.string dk) := World.cell?_of_get heW
          have d1 : W0.cell? ⟨w.heap.size + X2.bs.size, 1, none⟩ = some (.string dv) := World.cell?_of_get heW
          have HO := Lib.hid hoW
          have HBW := Lib.hid hbW
          have hzW := hbW.size
          clear hbW hoW
          have hlt2 := World.lt_of_get heW
          clear heW
          refine wp_region_ordT [(0,true),(1,true),(5,true),(6,true),(2,false),(3,true),(4,true),(7,false),(8,true),(9,false)] 9 (by kernel_rfl) (by kernel_rfl) ?_
          repeat (refine wpOrd_quiet rfl (fun K hK => ?_); go_simp; (try simp (disch := omega) only [IntWalk.i64_in]); refine hK _ ?_; clear hK K)
          refine wpOrd_grow rfl (fun K hK => ?_); go_simp; go_at_call 55; refine (impl_hexOf dk _ hz1).mono ?_; rintro e w' ⟨rfl, hb⟩; obtain ⟨X3, rfl⟩ := hb.ext; clear hb; try go_simp; refine hK _ _ (by show Sx _ _; (try simp only [← Array.append_assoc]); repeat (first | with_reducible exact Sx.drew _ | with_reducible exact Sx.same _ _ _ _ | with_reducible exact ⟨_, rfl⟩ | with_reducible apply Sx.more | with_reducible apply Sx.ext | with_reducible apply Sx.alloc | with_reducible apply Sx.draw | with_reducible exact Sx.refl _)) ?_; clear hK K
          refine wpOrd_quiet rfl (fun K hK => ?_); go_simp; refine ⟨Value.string (⟨#[32]⟩ ++ hexT dk), fun x => ?_, ?_⟩; (rw [if_neg (by omega)]); (try go_simp); refine hK _ ?_; clear hK K
          refine wpOrd_quiet rfl (fun K hK => ?_); go_simp; refine ⟨Value.string (⟨#[32]⟩ ++ hexT dk ++ ⟨#[61]⟩), fun x => ?_, ?_⟩; (rw [if_neg (by omega)]); (try go_simp); refine hK _ ?_; clear hK K
          refine wpOrd_grow rfl (fun K hK => ?_); go_simp; go_at_call 55; refine (impl_hexOf dv _ hz2).mono ?_; rintro e w' ⟨rfl, hb⟩; obtain ⟨X4, rfl⟩ := hb.ext; clear hb; try go_simp; refine hK _ _ (by show Sx _ _; (try simp only [← Array.append_assoc]); repeat (first | with_reducible exact Sx.drew _ | with_reducible exact Sx.same _ _ _ _ | with_reducible exact ⟨_, rfl⟩ | with_reducible apply Sx.more | with_reducible apply Sx.ext | with_reducible apply Sx.alloc | with_reducible apply Sx.draw | with_reducible exact Sx.refl _)) ?_; clear hK K
          refine wpOrd_quiet rfl (fun K hK => ?_); go_simp; refine ⟨Value.string (⟨#[32]⟩ ++ hexT dk ++ ⟨#[61]⟩ ++ hexT dv), fun x => ?_, ?_⟩; (rw [if_neg (by omega)]); (try go_simp); refine hK _ ?_; clear hK K
          refine wpOrd_tail rfl rfl (fun K hK => ?_)
          go_simp
          go_at_call 51
          have A := HO.out.ext (⟨X3.bs ++ X4.bs, X4.dr⟩ : Ext)
          have B := recStep_fits l _ _ hl4 hs1 hs2
          have C : w.heap.size ≤ (W0.ext (⟨X3.bs ++ X4.bs, X4.dr⟩ : Ext)).heap.size := Nat.le_trans hzW (by rw [World.ext_size]; exact Nat.le_add_right _ _)
          have D := sb_write w.heap.size w.heap.size l _ _ A B C
          refine D.mono ?_
          clear A B C D
          rintro e w' ⟨rfl, ho4, hb4⟩
          try go_simp
          refine hK _ _ ?_
          clear hK K
          have hb5 : Below w.heap.size w w' := Below.trans (Below.then HBW.out (Below.ofExt (Below.refl _ _) _)) hb4
          obtain ⟨X5, rfl⟩ := hb5.ext
          rw [recStep_list] at ho4
          have HO4 := Lib.hid ho4
          clear ho4 hb4 hb5
          repeat (refine wpOrd_tail rfl rfl (fun K hK => ?_); go_simp; refine hK _ _ ?_; clear hK K)
          refine wpOrd_nil ?_
          go_wp2
          go_roundw
          case rel => exact ⟨n + 1, _, rfl, by go_num, by omega, (by repeat (first | with_reducible exact Below.refl _ _ | with_reducible apply Below.ofExt | with_reducible apply Below.ofAlloc | with_reducible apply Below.drew | with_reducible apply Below.ofDrewN | with_reducible assumption | (with_reducible refine Below.setCell ?_ (by first | exact Nat.le_refl _ | (simp [go_sem]; done) | (simp [go_sem]; omega)) _))), HO4.out, recAdd_len _ _ (by omega), HGO.out.trans HS.out⟩
          case measure => simp [intOf]; omega
      case neg =>
        have e : n = ds.length := by omega
        have hgo := HGO.out
        rw [e, List.drop_length] at hgo
        have hsl : (strOf l).size ≤ 90000 := by rw [strOf_size]; exact hll
        have hbs := bsum_bd l
        have hsi : (strOf (Lib.itoa (bsum l))).size ≤ 4611686018427387920 := by rw [strOf_size]; exact itoa_len _ (by omega) (by omega)
        have HF := Lib.hid hgo
        clear hgo HGO
        go_wp2_with fail
        (go_at_call 56; refine (sb_string w.heap.size w.heap.size l _ HO.out (by simp [World.ext_size])).mono ?_; rintro e w' ⟨rfl, ho3, hb3⟩)
        have hb3' : Below w.heap.size w w' := Below.trans (by repeat (first | with_reducible exact Below.refl _ _ | with_reducible apply Below.ofExt | with_reducible apply Below.ofAlloc | with_reducible apply Below.drew | with_reducible apply Below.ofDrewN | with_reducible assumption | (with_reducible refine Below.setCell ?_ (by first | exact Nat.le_refl _ | (simp [go_sem]; done) | (simp [go_sem]; omega)) _))) hb3
        obtain ⟨X3, rfl⟩ := hb3'.ext
        have HO3 := Lib.hid ho3
        clear ho3 hb3 hb3'
        go_wp2_with fail
        (go_at_call 56; refine (sb_string w.heap.size w.heap.size l _ HO3.out (by simp [World.ext_size])).mono ?_; rintro e w' ⟨rfl, ho3, hb3⟩)
        have hb3' : Below w.heap.size w w' := Below.trans (by repeat (first | with_reducible exact Below.refl _ _ | with_reducible apply Below.ofExt | with_reducible apply Below.ofAlloc | with_reducible apply Below.drew | with_reducible apply Below.ofDrewN | with_reducible assumption | (with_reducible refine Below.setCell ?_ (by first | exact Nat.le_refl _ | (simp [go_sem]; done) | (simp [go_sem]; omega)) _))) hb3
        obtain ⟨X4, rfl⟩ := hb3'.ext
        clear ho3 hb3 hb3'
        go_wp2_with fail
        (go_at_call 57; refine (impl_bsum l _ hll).mono ?_; rintro e w' ⟨rfl, rfl⟩)
        go_wp2_with fail
        (go_at_call 52; refine (impl_Decimal (bsum l) _ (by omega) (by omega) (HT.out.below (by repeat (first | with_reducible exact Below.refl _ _ | with_reducible apply Below.ofExt | with_reducible apply Below.ofAlloc | with_reducible apply Below.drew | with_reducible apply Below.ofDrewN | with_reducible assumption | (with_reducible refine Below.setCell ?_ (by first | exact Nat.le_refl _ | (simp [go_sem]; done) | (simp [go_sem]; omega)) _))))).mono ?_; rintro e w' ⟨rfl, hb⟩; obtain ⟨X5, rfl⟩ := hb.ext; clear hb)
        have hre := recEnd_str l
        have HRE := Lib.hid hre
        clear hre
        have hsz := strOf_size (recEnd l)
        have HRT := Lib.hid (recText_some HIN.out HF.out)
        have hse : (strOf l ++ ⟨#[32, 35]⟩ ++ strOf (Lib.itoa (bsum l)) ++ ⟨#[10]⟩ : ByteArray).size = (strOf (recEnd l)).size := by rw [HRE.out]
        by_cases h4 : ((recEnd l).length : Int) ≤ 4000
        · have h4' : ((strOf l ++ ⟨#[32, 35]⟩ ++ strOf (Lib.itoa (bsum l)) ++ ⟨#[10]⟩ : ByteArray).size : Int) ≤ 4000 := by omega
          have h5 : ((strOf l).size : Int) + 2 + ((strOf (Lib.itoa (bsum l))).size : Int) + 1 ≤ 4000 := by simp only [ByteArray.size_append] at h4'; simp at h4'; exact h4'
          clear hsz hse
          go_wp2
          go_ret
          exact ⟨by rw [HRT.out, if_pos h4, ← HRE.out]; rfl, (by repeat (first | with_reducible exact Below.refl _ _ | with_reducible apply Below.ofExt | with_reducible apply Below.ofAlloc | with_reducible apply Below.drew | with_reducible apply Below.ofDrewN | with_reducible assumption | (with_reducible refine Below.setCell ?_ (by first | exact Nat.le_refl _ | (simp [go_sem]; done) | (simp [go_sem]; omega)) _)))⟩
        · have h4' : 4000 < ((strOf l ++ ⟨#[32, 35]⟩ ++ strOf (Lib.itoa (bsum l)) ++ ⟨#[10]⟩ : ByteArray).size : Int) := by omega
          have h5 : 4000 < ((strOf l).size : Int) + 2 + ((strOf (Lib.itoa (bsum l))).size : Int) + 1 := by simp only [ByteArray.size_append] at h4'; simp at h4'; exact h4'
          clear hsz hse
          go_wp2
          go_ret
          exact ⟨by rw [HRT.out, if_neg (by omega)]; rfl, (by repeat (first | with_reducible exact Below.refl _ _ | with_reducible apply Below.ofExt | with_reducible apply Below.ofAlloc | with_reducible apply Below.drew | with_reducible apply Below.ofDrewN | with_reducible assumption | (with_reducible refine Below.setCell ?_ (by first | exact Nat.le_refl _ | (simp [go_sem]; done) | (simp [go_sem]; omega)) _)))⟩
end Go.Proofs.YtedgenmbdjadkaaGreatDoor
namespace Go.Proofs.YtedgenmbdjadkaaGreatDoor
open Go.ChangeShapes Go.WideShapes Go.ChangeAt Go.RowKit

/-- what the library's variables hold -/
structure Glob (w : World) : Prop where
  tab : Tab10 w
  max : ∃ m, w.cell? ⟨0, 0, none⟩ = some (.int .i64 m)
  odd : ∃ ev, w.cell? ⟨1, 0, none⟩ = some ev ∧ (ev = .nilIface ∨ ∃ te pe, ev = .iface te pe)
  syn : ∃ ev, w.cell? ⟨4, 0, none⟩ = some ev ∧ (ev = .nilIface ∨ ∃ te pe, ev = .iface te pe)
  rng : ∃ ev, w.cell? ⟨5, 0, none⟩ = some ev ∧ (ev = .nilIface ∨ ∃ te pe, ev = .iface te pe)
theorem cell_below {w w' : World} (hb : Below w.heap.size w w') {a : Addr} {v : Value} (h : w.cell? a = some v) : w'.cell? a = some v := (Grew.below hb).cell h
theorem Glob.below {w w' : World} (h : Glob w) (hb : Below w.heap.size w w') : Glob w' := by
  obtain ⟨e1, h1, g1⟩ := h.odd
  obtain ⟨e2, h2, g2⟩ := h.syn
  obtain ⟨e3, h3, g3⟩ := h.rng
  exact {
    tab := h.tab.below hb
    max := (by obtain ⟨m, hm⟩ := h.max; exact ⟨m, cell_below hb hm⟩)
    odd := ⟨e1, cell_below hb h1, g1⟩
    syn := ⟨e2, cell_below hb h2, g2⟩
    rng := ⟨e3, cell_below hb h3, g3⟩ }
theorem Glob.ext {w : World} (h : Glob w) (X : Ext) : Glob (w.ext X) := h.below (Below.ofExt (Below.refl _ _) _)
theorem Glob.alloc {w : World} (h : Glob w) (o : Obj) : Glob (w.alloc o) := h.below (Below.ofAlloc (Below.refl _ _) _)
theorem own_bytes {w w' : World} {v : Value} {l : List UInt8} (h : w'.ownsRow w.heap.size 5 1 v l.length (l.map fun b => Value.int .u8 (b.toNat : Int))) : OwnB 5 w' w.heap.size v l := by
  refine OwnB.ofL ?_
  unfold OwnL
  rw [flat_B]
  exact h
theorem num_ends (x : Lib.NumEnd Int) : x = Lib.atoiAll [] ∨ x = .range ∨ ∃ n, x = .ok n := by
  cases x
  case ok n => exact .inr (.inr ⟨n, rfl⟩)
  case range => exact .inr (.inl rfl)
  exact .inl rfl
theorem str_ne {l : List UInt8} {s : ByteArray} (h : ¬ l = s.data.toList) : ((strOf l).toList == s.toList) = false := by
  rw [beq_eq_false_iff_ne, bl1, bl1]
  exact fun e => h (by rw [← e, strOf_list])
set_option maxRecDepth 100000 in
set_option maxHeartbeats 1000000 in
theorem impl_Unhex (s : ByteArray) (w : World) (hg : Glob w) (hs : s.size ≤ 1048576) :
    Calls Tryz.prog 75 #[.string s] w (UnhP s w) := by
  obtain ⟨ev, hE, hev⟩ := hg.odd
  clear hg
  have D := Tryz.hex_DecodeString_owns s w ev hE (by omega)
  obtain ⟨d, x, hdx⟩ : ∃ d x, Lib.Hx.decode s.data.toList = (d, x) := ⟨_, _, rfl⟩
  rw [hdx] at D
  obtain ⟨E, hEE⟩ : ∃ E, E = Lib.Hx.errVal 146 ev x := ⟨_, rfl⟩
  simp only [← hEE] at D
  have HD := Lib.hid D
  have hdl := Lib.Hx.decode_len s.data.toList
  rw [hdx] at hdl
  have hsl : s.data.toList.length = s.size := by simp
  have hdl2 : d.length ≤ 1048576 := by
    have : d.length ≤ s.data.toList.length / 2 := by simpa using hdl
    omega
  have hno : (x ≠ .ok ∨ 20000 < d.length ∨ Lib.Hx.encode d ≠ s.data.toList) → ∀ r, Unh s.data.toList r := fun h r => Unh.no hdx h r
  have HNO := Lib.hid hno
  have hyes : x = .ok → Unh s.data.toList (strOf d) := fun h => Unh.dec (by rw [hdx, h])
  have HY := Lib.hid hyes
  have hcs : x = .ok ∧ E = .nilIface ∨ x ≠ .ok ∧ (E = .nilIface ∨ ∃ te pe, E = .iface te pe) := by
    cases x with
    | ok => exact .inl ⟨rfl, hEE⟩
    | bad c => exact .inr ⟨by simp, .inr ⟨_, _, hEE⟩⟩
    | odd => exact .inr ⟨by simp, by rw [hEE]; exact hev⟩
  have HCS := Lib.hid hcs
  clear D hdx hE hdl hsl hno hyes hcs hEE hev
  go_enter Tryz.func75, Tryz.ntmps75
  go_wp2_with fail
  (go_at_call 100; refine HD.out.mono ?_; rintro e w1 ⟨v, rfl, ho, hb⟩)
  have HB := Lib.hid (own_bytes ho)
  have HBW := Lib.hid hb
  clear ho hb HD
  obtain ⟨oa, oc, rfl⟩ := HB.out.form
  by_cases hif : ∃ te pe, E = .iface te pe
  · obtain ⟨te, pe, rfl⟩ := hif
    have hx : x ≠ .ok := by
      rcases HCS.out with ⟨_, h⟩ | ⟨h, _⟩
      · cases h
      · exact h
    have hu := HNO.out (.inl hx) ⟨#[]⟩
    have HU := Lib.hid hu
    clear hu hx
    go_wp2
    refine bodyPost_ret (by simp [results, Tryz.results75, go_sem]; rfl) rfl ?_
    exact UnhP.mk (by decide) HU.out HBW.out
  have hE : E = .nilIface := by
    rcases HCS.out with ⟨_, h⟩ | ⟨_, h | h⟩
    · exact h
    · exact h
    · exact absurd h hif
  subst hE
  clear hif
  by_cases hlen : (20000 : Int) < d.length
  · have hu := HNO.out (.inr (.inl (by omega))) ⟨#[]⟩
    have HU := Lib.hid hu
    clear hu
    go_wp2
    refine bodyPost_ret (by simp [results, Tryz.results75, go_sem]; rfl) rfl ?_
    exact UnhP.mk (by decide) HU.out HBW.out
  have henc := lib_enc (.slice oa d.length oc) d w.heap.size w1 HB.out (by omega)
  have HENC := Lib.hid henc
  clear henc
  go_wp2_with fail
  (go_at_call 101; refine HENC.out.mono ?_; rintro e w2 ⟨rfl, hb2⟩)
  have hbw2 : Below w.heap.size w w2 := Below.then HBW.out hb2
  by_cases he : Lib.Hx.encode d = s.data.toList
  · have hxo : x = .ok ∨ x ≠ .ok := by cases x <;> simp
    rcases hxo with hxo | hxo
    · have HU := Lib.hid (HY.out hxo)
      have hr := run_string_of (P := Tryz.prog) w2 Tryz.byteT Tryz.underlying9 (HB.out.below hb2).sl
      have heq : strOf (Lib.Hx.encode d) = s := by rw [he, strOf_data]
      have hsz : (strOf d).size ≤ 20000 := by rw [strOf_size]; omega
      have HSZ := Lib.hid hsz
      clear hxo he hsz
      rw [heq]
      go_wp2
      refine bodyPost_ret (by simp [results, Tryz.results75, go_sem]; rfl) rfl ?_
      exact UnhP.mk HSZ.out HU.out hbw2
    · have HU := Lib.hid (HNO.out (.inl hxo) (strOf d))
      have hr := run_string_of (P := Tryz.prog) w2 Tryz.byteT Tryz.underlying9 (HB.out.below hb2).sl
      have heq : strOf (Lib.Hx.encode d) = s := by rw [he, strOf_data]
      have hsz : (strOf d).size ≤ 20000 := by rw [strOf_size]; omega
      have HSZ := Lib.hid hsz
      clear hxo he hsz
      rw [heq]
      go_wp2
      refine bodyPost_ret (by simp [results, Tryz.results75, go_sem]; rfl) rfl ?_
      exact UnhP.mk HSZ.out HU.out hbw2
  · have HU := Lib.hid (HNO.out (.inr (.inr he)) ⟨#[]⟩)
    have heq := str_ne he
    clear he
    go_wp2
    refine bodyPost_ret (by simp [results, Tryz.results75, go_sem]; rfl) rfl ?_
    exact UnhP.mk (by decide) HU.out hbw2
set_option maxRecDepth 100000 in
set_option maxHeartbeats 1000000 in
theorem impl_ReadDecimal (s : ByteArray) (w : World) (hg : Glob w) (hs : s.size ≤ 1048576) :
    Calls Tryz.prog 73 #[.string s] w (NumP s w) := by
  have HG := Lib.hid hg
  obtain ⟨e2, h2, g2⟩ := hg.syn
  obtain ⟨e3, h3, g3⟩ := hg.rng
  clear hg
  go_enter Tryz.func73, Tryz.ntmps73
  rcases num_ends (Lib.atoiAll s.data.toList) with ha | ha | ⟨n, ha⟩
  ·
    have hn := Num.atoi (l := s.data.toList) (fun n => by rw [ha]; intro h; cases h)
    have HN := Lib.hid hn
    have D := Tryz.strconv_Atoi_syntax s (by omega) ha e2 w h2 g2
    clear hn
    go_wp2_with fail
    (go_at_call 98; refine D.mono ?_; rintro e w1 ⟨N, rfl, _, _, hb⟩)
    clear D
    go_wp2
    refine bodyPost_ret (by simp [results, Tryz.results73, go_sem]; rfl) rfl ?_
    exact NumP.mk HN.out hb
  ·
    have hn := Num.atoi (l := s.data.toList) (fun n => by rw [ha]; intro h; cases h)
    have HN := Lib.hid hn
    have D := Tryz.strconv_Atoi_range s (by omega) ha e3 w h3 g3
    clear hn
    go_wp2_with fail
    (go_at_call 98; refine D.mono ?_; rintro e w1 ⟨N, rfl, _, _, hb⟩)
    clear D
    go_wp2
    refine bodyPost_ret (by simp [results, Tryz.results73, go_sem]; rfl) rfl ?_
    exact NumP.mk HN.out hb
  ·
    have hbd := Lib.atoiAll_bounds ha
    have D := Tryz.strconv_Atoi_ok s (by omega) n ha w
    have HA := Lib.hid ha
    clear ha
    go_wp2_with fail
    (go_at_call 98; refine D.mono ?_; rintro e w1 ⟨rfl, hww⟩)
    have hb : Below w.heap.size w w1 := by
      rcases hww with rfl | ⟨t, rfl⟩
      · exact (by repeat (first | with_reducible exact Below.refl _ _ | with_reducible apply Below.ofExt | with_reducible apply Below.ofAlloc | with_reducible apply Below.drew | with_reducible apply Below.ofDrewN | with_reducible assumption | (with_reducible refine Below.setCell ?_ (by first | exact Nat.le_refl _ | (simp [go_sem]; done) | (simp [go_sem]; omega)) _)))
      · exact Lib.bytesWorld_below _ _ _
    clear D hww h2 h3 g2 g3
    cases hin : inB n 0 1000000000 with
    | false =>
      have hn := Num.atoiNo HA.out (by unfold inB at hin; simp at hin; omega)
      have HN := Lib.hid hn
      have HIN := Lib.hid hin
      clear hn hin
      go_wp2_with fail
      (go_at_call 38; refine (impl_in _ _ _ _).mono ?_; rintro e w' ⟨rfl, rfl⟩)
      rw [HIN.out]
      go_wp2
      refine bodyPost_ret (by simp [results, Tryz.results73, go_sem]; rfl) rfl ?_
      exact NumP.mk HN.out hb
    | true =>
      have hi2 : 0 ≤ n ∧ n ≤ 1000000000 := by unfold inB at hin; simp at hin; omega
      have HIN := Lib.hid hin
      clear hin
      go_wp2_with fail
      (go_at_call 38; refine (impl_in _ _ _ _).mono ?_; rintro e w' ⟨rfl, rfl⟩)
      rw [HIN.out]
      have DD := Lib.hid (impl_Decimal n w1 (by omega) (by omega) (HG.out.below hb).tab)
      go_wp2_with fail
      (go_at_call 52; refine DD.out.mono ?_; rintro e w2 ⟨rfl, hb2⟩)
      have hbw2 : Below w.heap.size w w2 := Below.then hb hb2
      by_cases he : Lib.itoa n = s.data.toList
      · have HU := Lib.hid (Num.atoiOk HA.out hi2.1 hi2.2)
        have heq : strOf (Lib.itoa n) = s := by rw [he, strOf_data]
        clear he
        rw [heq]
        go_wp2
        refine bodyPost_ret (by simp [results, Tryz.results73, go_sem]; rfl) rfl ?_
        exact NumP.mk HU.out hbw2
      · have HU := Lib.hid (Num.atoiNo HA.out (.inr (.inr he)))
        have heq := str_ne he
        clear he
        go_wp2
        refine bodyPost_ret (by simp [results, Tryz.results73, go_sem]; rfl) rfl ?_
        exact NumP.mk HU.out hbw2
end Go.Proofs.YtedgenmbdjadkaaGreatDoor
namespace Go.Proofs.YtedgenmbdjadkaaGreatDoor
open Go.ChangeShapes Go.WideShapes Go.ChangeAt Go.RowKit

theorem lib_split (s : ByteArray) (c : UInt8) (w : World) (hg : Glob w) (hs : s.size ≤ 1048576) :
    Calls Tryz.prog 72 #[.string s, .string ⟨#[c]⟩] w (SplP 9 c s w) := by
  obtain ⟨m, hm⟩ := hg.max
  refine (Tryz.strings_Split s ⟨#[c]⟩ m w (by omega) hm (Nat.le_refl 1)).mono ?_
  rintro e w' ⟨rfl, rfl⟩
  have hx := splitB_eq c s
  have hl : (Lib.splitB ⟨#[c]⟩ 0 (Lib.countB s ⟨#[c]⟩) s).length = Lib.countB s ⟨#[c]⟩ + 1 := Lib.splitB_all ⟨#[c]⟩ (Nat.le_refl 1) 0 _ s rfl
  have hle : Lib.countB s ⟨#[c]⟩ + 1 ≤ 1048577 := by
    have := splitL_length c s.data.toList
    rw [← hx, List.length_map, hl] at this
    have e : s.data.toList.length = s.size := by simp
    omega
  refine SplP.mk (OwnL.lit rStr w (Lib.splitB ⟨#[c]⟩ 0 (Lib.countB s ⟨#[c]⟩) s) _ hl.symm (by unfold maxLen; omega) _ ?_ 9) hx (by repeat (first | with_reducible exact Below.refl _ _ | with_reducible apply Below.ofExt | with_reducible apply Below.ofAlloc | with_reducible apply Below.drew | with_reducible apply Below.ofDrewN | with_reducible assumption | (with_reducible refine Below.setCell ?_ (by first | exact Nat.le_refl _ | (simp [go_sem]; done) | (simp [go_sem]; omega)) _)))
  congr 1
  generalize Lib.splitB ⟨#[c]⟩ 0 (Lib.countB s ⟨#[c]⟩) s = xs
  induction xs with
  | nil => rfl
  | cons x xs ih => rw [List.map_cons, List.flatMap_cons, ih]; rfl
theorem lib_cut (s : ByteArray) (c : UInt8) (w : World) (hg : Glob w) (hs : s.size ≤ 1048576) :
    Calls Tryz.prog 74 #[.string s, .string ⟨#[c]⟩] w fun e w' => ∃ b, e = .returned (.tuple #[.string (strOf (Lib.cut s.data.toList [c]).1), .string (strOf (Lib.cut s.data.toList [c]).2.1), .bool b]) ∧ Below w.heap.size w w' := by
  obtain ⟨m, hm⟩ := hg.max
  refine (Tryz.strings_Cut s ⟨#[c]⟩ m w (by omega) hm).mono ?_
  rintro e w' ⟨rfl, k, rfl⟩
  exact ⟨_, rfl, (by repeat (first | with_reducible exact Below.refl _ _ | with_reducible apply Below.ofExt | with_reducible apply Below.ofAlloc | with_reducible apply Below.drew | with_reducible apply Below.ofDrewN | with_reducible assumption | (with_reducible refine Below.setCell ?_ (by first | exact Nat.le_refl _ | (simp [go_sem]; done) | (simp [go_sem]; omega)) _)))⟩
theorem cut_len (l : List UInt8) (c : UInt8) : (Lib.cut l [c]).1.length ≤ l.length ∧ (Lib.cut l [c]).2.1.length ≤ l.length := by
  rw [Lib.cut_eq]
  split
  · simp only [List.length_take, List.length_drop]
    omega
  · simp
theorem size_nil {s : ByteArray} (h : s.toList = []) : s.size = 0 := by
  rw [bl1] at h
  have : s.data.toList.length = s.size := by simp
  rw [h] at this
  exact this.symm
theorem size_ne {s : ByteArray} (h : ¬ s.toList = []) : s.size ≠ 0 := fun e => h (by
  rw [bl1]
  apply List.eq_nil_of_length_eq_zero
  have : s.data.toList.length = s.size := by simp
  rw [this, e])
theorem str_same {r s : ByteArray} (h : (r.toList == s.toList) = true) : r = s := by
  apply ByteArray.ext
  apply Array.toList_inj.1
  rw [← bl1, ← bl1]
  exact eq_of_beq h
set_option maxRecDepth 100000 in
set_option maxHeartbeats 4000000 in
theorem impl_ReadRecord (s : ByteArray) (w : World) (hg : Glob w) (hs : s.size ≤ 1048576) :
    Calls Tryz.prog 39 #[.string s] w (RrP s w) := by
  have HG := Lib.hid hg
  clear hg
  go_enter Tryz.func39, Tryz.ntmps39
  by_cases hbig : (4000 : Int) < s.size
  · have hr := readI_big (t := s) (by omega)
    have HR := Lib.hid hr
    clear hr
    go_wp2
    refine bodyPost_ret (by simp [results, Tryz.results39, go_sem]; rfl) rfl ?_
    exact RrP.mk (OwnL.nil rCell _ _ _) (RrOk.no HR.out) (by repeat (first | with_reducible exact Below.refl _ _ | with_reducible apply Below.ofExt | with_reducible apply Below.ofAlloc | with_reducible apply Below.drew | with_reducible apply Below.ofDrewN | with_reducible assumption | (with_reducible refine Below.setCell ?_ (by first | exact Nat.le_refl _ | (simp [go_sem]; done) | (simp [go_sem]; omega)) _)))
  go_wp2_with fail
  (go_at_call 72; refine (lib_split s 32 _ HG.out hs).mono ?_; rintro e w1 ⟨pv, xs, rfl, hp, hxs, hb1⟩)
  have hbw : Below w.heap.size w w1 := hb1
  have HG1 := Lib.hid (HG.out.below hb1)
  obtain ⟨pa, pc, rfl⟩ := hp.rd.form
  obtain ⟨ws, hws⟩ : ∃ ws, ws = splitL 32 s.data.toList := ⟨_, rfl⟩
  rw [← hws] at hxs
  have HXS := Lib.hid hxs
  have hwl : ws.length = xs.length := by rw [← hxs, List.length_map]
  have hne : 0 < xs.length := by
    rw [← hwl, hws]
    have := splitL_ne 32 s.data.toList
    cases hh : splitL 32 s.data.toList with
    | nil => exact absurd hh this
    | cons a b => simp
  have hxl : xs.length ≤ 4001 := by
    rw [← hwl, hws]
    have := splitL_length 32 s.data.toList
    have e : s.data.toList.length = s.size := by simp
    omega
  have hh0 : ws.headD [] = xs[0].data.toList := by
    obtain ⟨h2, h3⟩ := map_get xs ws hxs hne
    rw [← h3]
    cases ws with
    | nil => simp at h2
    | cons a b => rfl
  obtain ⟨_, pb, po, rfl, hpl, y0⟩ := str_at hp hne
  have hpc : xs.length ≤ pc := by
    obtain ⟨_, _, hv, h1, _⟩ := hp.rd.shapeS
    cases hv
    exact h1
  have HWS := Lib.hid hws
  have HH0 := Lib.hid hh0
  have hsm : ∀ x ∈ xs, x.size ≤ s.size := split_small (c := 32) (by rw [hxs, hws])
  have hsz0 : xs[0].size ≤ 1048576 := Nat.le_trans (hsm _ (List.getElem_mem hne)) hs
  have HSM := Lib.hid hsm
  have HP := Lib.hid hp
  clear hsm
  generalize xs[0] = x0 at *
  clear hp hb1 hxs hws hh0
  rw [Nat.add_zero] at y0
  go_wp2_with fail
  (go_at_call 73; refine (impl_ReadDecimal x0 _ HG1.out hsz0).mono ?_; rintro e w2 ⟨n, ok, rfl, hnum, hb2⟩)
  have hb2s := hb2.size
  have hbw2 : Below w.heap.size w w2 := Below.then hbw hb2
  have hnr : 0 ≤ n ∧ n ≤ 1000000000 := hnum.1
  have HG2 := Lib.hid (HG.out.below hbw2)
  have HP2 := Lib.hid (own_bel HP.out hb2)
  rw [← HH0.out] at hnum
  have HN := Lib.hid hnum
  clear hnum hb2 HP HH0 y0 hpl hbw HG1
  have hKK : (max (xs.length : Int) 2).toNat - 1 - 1 = xs.length - 2 := by omega
  by_cases hp1 : pc = 1
  · go_wp2
    go_loopw [8, 10, 11, 12, 13, 14, 15, 16, 17, 37] (fun o _ _ _ _ _ _ _ _ k wr => ∃ (j : Nat) (cs : List CellD), k = .int .i64 j ∧ j ≤ xs.length - 2 ∧ Below w.heap.size w wr ∧ OwnL rCell 39 wr w.heap.size o cs ∧ OwnL rStr 9 wr w.heap.size (.slice (some ⟨pb, po, none⟩) xs.length pc) xs ∧ ReadsTo ((midL ws).take j) cs ∧ Sm cs ∧ cs.length ≤ j) (fun _ _ _ _ _ _ _ _ _ k _ => xs.length - (intOf k).toNat)
    case atStart => exact ⟨0, [], rfl, by omega, hbw2, OwnL.nil _ _ _ _, HP2.out, by rw [List.take_zero]; exact ReadsTo.nil, Sm.nil, by simp⟩
    case round =>
      clear HP2
      obtain ⟨j, cs, rfl, hj, hbel, ho, hp, hrt, hsmc, hcl⟩ := hrel
      rename_i wr
      obtain ⟨oa, oc, rfl⟩ := ho.rd.form
      have HO := Lib.hid ho
      have HP := Lib.hid hp
      have HRT := Lib.hid hrt
      have HSC := Lib.hid hsmc
      have hws := hbel.size
      clear ho hrt hsmc
      by_cases hlt : (j : Int) < ((xs.length - 2 : Nat) : Int)
      case pos =>
        exact absurd hlt (by omega)
      case neg =>
        have hall := mid_all (ws := ws) (j := j) (by omega)
        have hrt := HRT.out
        rw [hall] at hrt
        have hml := mid_len ws
        have hcs := hrt.length
        have hrd := cells_rdS HO.out HSC.out
        rw [HWS.out] at hrt
        have hnum := HN.out
        rw [HWS.out] at hnum
        have HNO := Lib.hid (fun h => read_no (t := s) hnum hrt h)
        have hcl2 : cs.length ≤ 1048576 := by omega
        have D := impl_RecordText n (.slice oa cs.length oc) cs wr (HG.out.below hbel).tab hrd hcl2
        have HD := Lib.hid D
        clear hrt hnum hp D hrd hall hml hcs
        by_cases h0 : s.toList = []
        · have h1 : s.toList.isEmpty = true := by rw [h0]; rfl
          have hno := HNO.out (.inr (.inl (size_nil h0)))
          have HNN := Lib.hid hno
          clear hno HNO
          go_wp2
          refine bodyPost_ret (by simp [results, Tryz.results39, go_sem]; rfl) rfl ?_
          exact RrP.mk (OwnL.nil rCell _ _ _) (RrOk.no HNN.out) hbel
        have h1 : s.toList.isEmpty = false := by rw [List.isEmpty_eq_false_iff]; exact h0
        go_wp2_with fail
        (go_at_call 18; refine HD.out.mono ?_; rintro e w3 ⟨rfl, hb3⟩)
        have hbw3 : Below w.heap.size w w3 := Below.then hbel hb3
        have HO3 := Lib.hid (own_bel HO.out hb3)
        obtain ⟨r, hr⟩ : ∃ r, r = recText n cs := ⟨_, rfl⟩
        rw [← hr] at HNO ⊢
        have HR := Lib.hid hr
        clear hb3 HO hr HD
        cases h2 : (r.toList == s.toList) with
        | false =>
          have hno := HNO.out (.inl (fun e => by rw [e] at h2; simp at h2))
          have HNN := Lib.hid hno
          clear hno HNO
          go_wp2
          refine bodyPost_ret (by simp [results, Tryz.results39, go_sem]; rfl) rfl ?_
          exact RrP.mk (OwnL.nil rCell _ _ _) (RrOk.no HNN.out) hbw3
        | true =>
          have hyes := str_same h2
          have HY := Lib.hid (RrOk.yes (n := n) (cs := cs) (s := s) (by rw [← HR.out]; exact hyes) (size_ne h0))
          clear hyes HNO
          go_wp2
          refine bodyPost_ret (by simp [results, Tryz.results39, go_sem]; rfl) rfl ?_
          exact RrP.mk HO3.out HY.out hbw3
  · go_wp2
    go_loopw [8, 10, 11, 12, 13, 14, 15, 16, 17, 37] (fun o _ _ _ _ _ _ _ _ k wr => ∃ (j : Nat) (cs : List CellD), k = .int .i64 j ∧ j ≤ xs.length - 2 ∧ Below w.heap.size w wr ∧ OwnL rCell 39 wr w.heap.size o cs ∧ OwnL rStr 9 wr w.heap.size (.slice (some ⟨pb, po, none⟩) xs.length pc) xs ∧ ReadsTo ((midL ws).take j) cs ∧ Sm cs ∧ cs.length ≤ j) (fun _ _ _ _ _ _ _ _ _ k _ => xs.length - (intOf k).toNat)
    case atStart => exact ⟨0, [], rfl, by omega, hbw2, OwnL.nil _ _ _ _, HP2.out, by rw [List.take_zero]; exact ReadsTo.nil, Sm.nil, by simp⟩
    case round =>
      clear HP2
      obtain ⟨j, cs, rfl, hj, hbel, ho, hp, hrt, hsmc, hcl⟩ := hrel
      rename_i wr
      obtain ⟨oa, oc, rfl⟩ := ho.rd.form
      have HO := Lib.hid ho
      have HP := Lib.hid hp
      have HRT := Lib.hid hrt
      have HSC := Lib.hid hsmc
      have hws := hbel.size
      clear ho hrt hsmc
      by_cases hlt : (j : Int) < ((xs.length - 2 : Nat) : Int)
      case pos =>
        have hk : j + 1 < xs.length := by omega
        obtain ⟨hk2, hwx⟩ := map_get xs ws HXS.out hk
        obtain ⟨_, pb', po', hpe, hpl, y0⟩ := str_at hp hk
        cases hpe
        rw [show po + (j + 1) = po + 1 + j by omega] at y0
        have hsx : xs[j + 1].size ≤ 1048576 := Nat.le_trans (HSM.out _ (List.getElem_mem hk)) hs
        have hms := mid_step (ws := ws) (j := j) (by omega)
        rw [hwx] at hms
        have HMS := Lib.hid hms
        generalize xs[j + 1] = x at *
        clear hp hms
        have hgw := HG.out.below hbel
        have HGW := Lib.hid hgw
        clear hgw
        have hcl := cut_len x.data.toList 61
        have hxe : x.data.toList.length = x.size := by simp
        have hk1 : (strOf (Lib.cut x.data.toList [61]).1).size ≤ 1048576 := by rw [strOf_size]; omega
        have hk2' : (strOf (Lib.cut x.data.toList [61]).2.1).size ≤ 1048576 := by rw [strOf_size]; omega
        have DC := Lib.hid (lib_cut x 61 wr HGW.out hsx)
        have hcr : ∀ k v, Unh (Lib.cut x.data.toList [61]).1 k → Unh (Lib.cut x.data.toList [61]).2.1 v → CellR x.data.toList ⟨k, v⟩ := fun k v a b => cellR_cut a b
        obtain ⟨ca, hca⟩ : ∃ ca, ca = (Lib.cut x.data.toList [61]).1 := ⟨_, rfl⟩
        obtain ⟨cb, hcb⟩ : ∃ cb, cb = (Lib.cut x.data.toList [61]).2.1 := ⟨_, rfl⟩
        rw [← hca, ← hcb] at hcr
        rw [← hca] at hk1
        rw [← hcb] at hk2'
        simp only [← hca, ← hcb] at DC
        have HCR := Lib.hid hcr
        clear hcl hcr hca hcb hxe
        go_wp2_with fail
        (go_at_call 74; refine DC.out.mono ?_; rintro e w3 ⟨cok, rfl, hb3⟩)
        have hbw3 : Below w.heap.size w w3 := Below.then hbel hb3
        have HP3 := Lib.hid (own_bel HP.out hb3)
        have HO3 := Lib.hid (own_bel HO.out hb3)
        clear hb3 HP HO hbel y0 hpl DC HGW
        have DU := Lib.hid (impl_Unhex (strOf ca) w3 (HG.out.below hbw3) hk1)
        go_wp2_with fail
        (go_at_call 75; refine DU.out.mono ?_; rintro e w4 ⟨rk, okk, rfl, hrk, huk, hb4⟩)
        have hbw4 : Below w.heap.size w w4 := Below.then hbw3 hb4
        have HP4 := Lib.hid (own_bel HP3.out hb4)
        have HO4 := Lib.hid (own_bel HO3.out hb4)
        rw [strOf_list] at huk
        have HUK := Lib.hid huk
        clear hb4 HP3 HO3 hbw3 huk DU
        have DV := Lib.hid (impl_Unhex (strOf cb) w4 (HG.out.below hbw4) hk2')
        go_wp2_with fail
        (go_at_call 75; refine DV.out.mono ?_; rintro e w5 ⟨rv, okv, rfl, hrv, huv, hb5⟩)
        have hbw5 : Below w.heap.size w w5 := Below.then hbw4 hb5
        have HP5 := Lib.hid (own_bel HP4.out hb5)
        have HO5 := Lib.hid (own_bel HO4.out hb5)
        have hws5 := hbw5.size
        rw [strOf_list] at huv
        have hrt2 := HRT.out.snoc (HCR.out rk rv HUK.out huv)
        rw [← HMS.out] at hrt2
        have HRT2 := Lib.hid hrt2
        have HAP := Lib.hid (own_apart HP5.out HO5.out (by decide))
        clear hb5 HP4 HO4 hbw4 huv hrt2 DV
        go_wp2_with (at_builtin; refine Stop.here ?_)
        refine wpList_appL rfl _ _ _ rfl (R := rCell) (e := 39) Tryz.elemCellS (B := w.heap.size) (v := .slice oa cs.length oc) (xs := cs) (HO5.out.alloc _) rfl (ys := [⟨rk, rv⟩]) (RdL.oneAt rCell _ ⟨rk, rv⟩ _ rfl _ _ rfl) rfl (by simp only [List.length_singleton]; omega) (by simp only [List.length_singleton]; unfold maxLen; omega) (by rw [World.size_alloc]; omega) ?_
        intro w6v w6 ho6 hg6 _
        have hb6 : Below w.heap.size w w6 := Below.appL (a := w) (R := rCell) (e := 39) (v := .slice oa cs.length oc) (xs := cs) (by repeat (first | with_reducible exact Below.refl _ _ | with_reducible apply Below.ofExt | with_reducible apply Below.ofAlloc | with_reducible apply Below.drew | with_reducible apply Below.ofDrewN | with_reducible assumption | (with_reducible refine Below.setCell ?_ (by first | exact Nat.le_refl _ | (simp [go_sem]; done) | (simp [go_sem]; omega)) _))) hg6 (HO5.out.alloc _)
        have hp6 := OwnL.kept (v := .slice (some ⟨pb, po, none⟩) xs.length pc) (HP5.out.alloc _) hg6 HAP.out
        have HO6 := Lib.hid ho6
        have HP6 := Lib.hid hp6
        clear ho6 hp6 hg6 HO5 HP5 HAP
        go_wp2
        go_roundw
        case rel => exact ⟨j + 1, _, by go_num, by omega, hb6, HO6.out, HP6.out, HRT2.out, HSC.out.snoc hrk hrv, by rw [List.length_append, List.length_singleton]; omega⟩
        case measure => simp [intOf]; omega
      case neg =>
        have hall := mid_all (ws := ws) (j := j) (by omega)
        have hrt := HRT.out
        rw [hall] at hrt
        have hml := mid_len ws
        have hcs := hrt.length
        have hrd := cells_rdS HO.out HSC.out
        rw [HWS.out] at hrt
        have hnum := HN.out
        rw [HWS.out] at hnum
        have HNO := Lib.hid (fun h => read_no (t := s) hnum hrt h)
        have hcl2 : cs.length ≤ 1048576 := by omega
        have D := impl_RecordText n (.slice oa cs.length oc) cs wr (HG.out.below hbel).tab hrd hcl2
        have HD := Lib.hid D
        clear hrt hnum hp D hrd hall hml hcs
        by_cases h0 : s.toList = []
        · have h1 : s.toList.isEmpty = true := by rw [h0]; rfl
          have hno := HNO.out (.inr (.inl (size_nil h0)))
          have HNN := Lib.hid hno
          clear hno HNO
          go_wp2
          refine bodyPost_ret (by simp [results, Tryz.results39, go_sem]; rfl) rfl ?_
          exact RrP.mk (OwnL.nil rCell _ _ _) (RrOk.no HNN.out) hbel
        have h1 : s.toList.isEmpty = false := by rw [List.isEmpty_eq_false_iff]; exact h0
        go_wp2_with fail
        (go_at_call 18; refine HD.out.mono ?_; rintro e w3 ⟨rfl, hb3⟩)
        have hbw3 : Below w.heap.size w w3 := Below.then hbel hb3
        have HO3 := Lib.hid (own_bel HO.out hb3)
        obtain ⟨r, hr⟩ : ∃ r, r = recText n cs := ⟨_, rfl⟩
        rw [← hr] at HNO ⊢
        have HR := Lib.hid hr
        clear hb3 HO hr HD
        cases h2 : (r.toList == s.toList) with
        | false =>
          have hno := HNO.out (.inl (fun e => by rw [e] at h2; simp at h2))
          have HNN := Lib.hid hno
          clear hno HNO
          go_wp2
          refine bodyPost_ret (by simp [results, Tryz.results39, go_sem]; rfl) rfl ?_
          exact RrP.mk (OwnL.nil rCell _ _ _) (RrOk.no HNN.out) hbw3
        | true =>
          have hyes := str_same h2
          have HY := Lib.hid (RrOk.yes (n := n) (cs := cs) (s := s) (by rw [← HR.out]; exact hyes) (size_ne h0))
          clear hyes HNO
          go_wp2
          refine bodyPost_ret (by simp [results, Tryz.results39, go_sem]; rfl) rfl ?_
          exact RrP.mk HO3.out HY.out hbw3
end Go.Proofs.YtedgenmbdjadkaaGreatDoor
