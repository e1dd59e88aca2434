/- The reference's readers of words: hexadecimal, decimal, splitting. Each condition stands in its theorem. -/
import Derived.Test.YtedgenmbdjadkaaGreatDoorReadP
set_option linter.unusedVariables false
set_option linter.unusedSimpArgs false
namespace Go.Proofs.YtedgenmbdjadkaaGreatDoor
open Go.ChangeShapes Go.WideShapes Go.ChangeAt Go.RowKit

theorem bl1 (s : ByteArray) : s.toList = s.data.toList := ByteArray.toList_eq s
theorem Tryz.elemStrR : Elem Tryz.prog 61 9 1 16 := Elem.of (.string ⟨#[]⟩) Tryz.underlying61 (by kernel_rfl) rfl (by decide)
theorem cut_list (s : ByteArray) (j i : Nat) : (s.extract j i).data.toList = (s.data.toList.drop j).take (i - j) := by
  rw [ByteArray.data_extract, Array.toList_extract]
theorem pow10_le {n : Nat} (h : n ≤ 10) : (10 : Int) ^ n ≤ 10 ^ 10 := by
  have hall : ∀ x : Fin 11, (10 : Int) ^ x.val ≤ 10 ^ 10 := by decide
  exact hall ⟨n, by omega⟩
theorem spec_l01Value (c : UInt8) (w : World) :
    Calls Tryz.prog 96 #[.int .u8 (c.toNat : Int)] w fun e w' => e = .returned (.int .i64 (valI c)) ∧ w = w' := by
  have hc : (c.toNat : Int) ≤ 255 := by have := c.toNat_lt; omega
  have hc0 : 0 ≤ (c.toNat : Int) := by omega
  obtain ⟨x, hx⟩ : ∃ x, x = valI c := ⟨_, rfl⟩
  rw [← hx]
  unfold valI at hx
  go_enter Tryz.func96, Tryz.ntmps96
  by_cases h1 : 48 ≤ (c.toNat : Int)
  · by_cases h2 : (c.toNat : Int) ≤ 57
    · rw [if_pos ⟨h1, h2⟩] at hx
      subst hx
      go_wp2
      go_ret
      exact ⟨rfl, rfl⟩
    · rw [if_neg (by omega)] at hx
      by_cases h3 : 97 ≤ (c.toNat : Int)
      · by_cases h4 : (c.toNat : Int) ≤ 102
        · rw [if_pos ⟨h3, h4⟩] at hx
          subst hx
          go_wp2
          go_ret
          exact ⟨rfl, rfl⟩
        · rw [if_neg (by omega)] at hx
          subst hx
          go_wp2
          go_ret
          exact ⟨rfl, rfl⟩
      · rw [if_neg (by omega)] at hx
        subst hx
        go_wp2
        go_ret
        exact ⟨rfl, rfl⟩
  · rw [if_neg (by omega), if_neg (by omega)] at hx
    subst hx
    go_wp2
    go_ret
    exact ⟨rfl, rfl⟩
set_option maxRecDepth 100000 in
set_option maxHeartbeats 2000000 in
theorem spec_Unhex (s : ByteArray) (w : World) (hs : s.size ≤ 1048576) :
    Calls Tryz.prog 71 #[.string s] w (UnhP s w) := by
  have hsl : s.data.toList.length = s.size := by simp
  go_enter Tryz.func71, Tryz.ntmps71
  by_cases hb : (40000 : Int) < s.size
  · have hu := Unh.long (L := s.data.toList) (.inl (by omega)) ⟨#[]⟩
    clear hsl
    go_wp2
    refine bodyPost_ret (by simp [results, Tryz.results71, go_sem]; rfl) rfl ?_
    exact UnhP.mk (by decide) hu (by repeat (first | with_reducible exact Below.refl _ _ | with_reducible apply Below.ofExt | with_reducible apply Below.ofAlloc | with_reducible apply Below.drew | with_reducible apply Below.ofDrewN | with_reducible assumption | (with_reducible refine Below.setCell ?_ (by first | exact Nat.le_refl _ | (simp [go_sem]; done) | (simp [go_sem]; omega)) _)))
  by_cases hodd : (s.size : Int) % 2 = 0
  case neg =>
    have hu := Unh.long (L := s.data.toList) (.inr (by omega)) ⟨#[]⟩
    clear hsl
    go_wp2
    refine bodyPost_ret (by simp [results, Tryz.results71, go_sem]; rfl) rfl ?_
    exact UnhP.mk (by decide) hu (by repeat (first | with_reducible exact Below.refl _ _ | with_reducible apply Below.ofExt | with_reducible apply Below.ofAlloc | with_reducible apply Below.drew | with_reducible apply Below.ofDrewN | with_reducible assumption | (with_reducible refine Below.setCell ?_ (by first | exact Nat.le_refl _ | (simp [go_sem]; done) | (simp [go_sem]; omega)) _)))
  go_wp2
  go_loopw [4, 5, 6, 7] (fun o k _ _ wr => ∃ (m : Nat) (l : List UInt8), k = .int .i64 (2 * m : Nat) ∧ 2 * m ≤ s.size ∧ Below w.heap.size w wr ∧ OwnB 5 wr w.heap.size o l ∧ l.length = m ∧ UnhTo s.data.toList l m) (fun _ k _ _ _ => s.size - (intOf k).toNat)
  case atStart => exact ⟨0, [], rfl, by omega, (by repeat (first | with_reducible exact Below.refl _ _ | with_reducible apply Below.ofExt | with_reducible apply Below.ofAlloc | with_reducible apply Below.drew | with_reducible apply Below.ofDrewN | with_reducible assumption | (with_reducible refine Below.setCell ?_ (by first | exact Nat.le_refl _ | (simp [go_sem]; done) | (simp [go_sem]; omega)) _))), OwnB.empty _ _, rfl, UnhTo.nil _⟩
  case round =>
    obtain ⟨m, l, rfl, hn, hbel, ho, hll, hu⟩ := hrel
    obtain ⟨X, rfl⟩ := hbel.ext
    subst hll
    have HU := Lib.hid hu
    have HSL := Lib.hid hsl
    clear hu hsl
    by_cases hlt : ((2 * l.length : Nat) : Int) < s.size
    case pos =>
      have hk : 2 * l.length + 1 < s.data.toList.length := by rw [HSL.out]; omega
      have hk1 : 2 * l.length < s.size := by omega
      have hk2 : 2 * l.length + 1 < s.size := by omega
      have hv1 := valI_le s[2 * l.length]
      have hv2 := valI_le s[2 * l.length + 1]
      have e1 : s.data.toList[2 * l.length]'(by omega) = s[2 * l.length] := rfl
      have e2 : s.data.toList[2 * l.length + 1]'hk = s[2 * l.length + 1] := rfl
      obtain ⟨oa, oc, rfl⟩ := ho.form
      have HO := Lib.hid ho
      clear ho
      have hc1 : (s[2 * l.length].toNat : Int) ≤ 255 := by have := s[2 * l.length].toNat_lt; omega
      have hc2 : (s[2 * l.length + 1].toNat : Int) ≤ 255 := by have := s[2 * l.length + 1].toNat_lt; omega
      have HB := Lib.hid (fun h r => UnhTo.bad (L := s.data.toList) hk h r)
      have HST := Lib.hid (fun c hc => UnhTo.step HU.out hk (c := c) hc)
      rw [e1, e2] at HB HST
      go_wp2_with fail
      (go_at_call 96; refine (spec_l01Value _ _).mono ?_; rintro e w' ⟨rfl, rfl⟩)
      go_wp2_with fail
      (go_at_call 96; refine (spec_l01Value _ _).mono ?_; rintro e w' ⟨rfl, rfl⟩)
      obtain ⟨cc, hcc⟩ : ∃ cc : UInt8, 0 ≤ valI s[2 * l.length] → 0 ≤ valI s[2 * l.length + 1] → (cc.toNat : Int) = 16 * valI s[2 * l.length] + valI s[2 * l.length + 1] := by
        refine ⟨UInt8.ofNat (16 * valI s[2 * l.length] + valI s[2 * l.length + 1]).toNat, fun h1 h2 => ?_⟩
        rw [UInt8.toNat_ofNat']
        omega
      generalize valI s[2 * l.length] = x at *
      generalize valI s[2 * l.length + 1] = y at *
      have HCC := Lib.hid hcc
      clear hcc
      by_cases hx : x < 0
      · go_wp2
        refine bodyPost_ret (by simp [results, Tryz.results71, go_sem]; rfl) rfl ?_
        exact UnhP.mk (by decide) (HB.out (.inl hx) _) (by repeat (first | with_reducible exact Below.refl _ _ | with_reducible apply Below.ofExt | with_reducible apply Below.ofAlloc | with_reducible apply Below.drew | with_reducible apply Below.ofDrewN | with_reducible assumption | (with_reducible refine Below.setCell ?_ (by first | exact Nat.le_refl _ | (simp [go_sem]; done) | (simp [go_sem]; omega)) _)))
      by_cases hy : y < 0
      · go_wp2
        refine bodyPost_ret (by simp [results, Tryz.results71, go_sem]; rfl) rfl ?_
        exact UnhP.mk (by decide) (HB.out (.inr hy) _) (by repeat (first | with_reducible exact Below.refl _ _ | with_reducible apply Below.ofExt | with_reducible apply Below.ofAlloc | with_reducible apply Below.drew | with_reducible apply Below.ofDrewN | with_reducible assumption | (with_reducible refine Below.setCell ?_ (by first | exact Nat.le_refl _ | (simp [go_sem]; done) | (simp [go_sem]; omega)) _)))
      have hcc := HCC.out (by omega) (by omega)
      go_wp2_with (at_builtin; refine Stop.here ?_)
      refine wpList_appB _ Tryz.byteT rfl (.tmp 39) (.tmp 45) rfl (B := w.heap.size) (l := l) (m := [cc]) (HO.out.alloc _) rfl (Sl.lit1 _ cc (16 * x + y) hcc.symm _ _ (by simp [World.ext_size])) rfl (by simp; omega) (by simp [World.ext_size]; omega) ?_
      intro v4 w4 ho4 hg4
      have hb4 : Below w.heap.size w w4 := Below.appB (by repeat (first | with_reducible exact Below.refl _ _ | with_reducible apply Below.ofExt | with_reducible apply Below.ofAlloc | with_reducible apply Below.drew | with_reducible apply Below.ofDrewN | with_reducible assumption | (with_reducible refine Below.setCell ?_ (by first | exact Nat.le_refl _ | (simp [go_sem]; done) | (simp [go_sem]; omega)) _))) hg4 (HO.out.alloc _)
      obtain ⟨Y, rfl⟩ := hb4.ext
      have HO4 := Lib.hid ho4
      clear ho4 hg4 hb4
      have hstep := HST.out cc hcc
      have HSTEP := Lib.hid hstep
      clear hstep
      go_wp2
      go_roundw
      case rel => exact ⟨l.length + 1, _, by go_num, by omega, (by repeat (first | with_reducible exact Below.refl _ _ | with_reducible apply Below.ofExt | with_reducible apply Below.ofAlloc | with_reducible apply Below.drew | with_reducible apply Below.ofDrewN | with_reducible assumption | (with_reducible refine Below.setCell ?_ (by first | exact Nat.le_refl _ | (simp [go_sem]; done) | (simp [go_sem]; omega)) _))), HO4.out, by simp, HSTEP.out⟩
      case measure => simp [intOf]; omega
    case neg =>
      have e : s.size ≤ 2 * l.length := by omega
      have hua := UnhTo.all HU.out (by rw [HSL.out]; exact e)
      have HUA := Lib.hid hua
      have hr := run_string_of (P := Tryz.prog) (w.ext X) Tryz.byteT Tryz.underlying9 ho.sl
      have hsz : (strOf l).size ≤ 20000 := by rw [strOf_size]; omega
      have HSZ := Lib.hid hsz
      obtain ⟨oa, oc, rfl⟩ := ho.form
      clear ho hua hsz
      go_wp2
      refine bodyPost_ret (by simp [results, Tryz.results71, go_sem]; rfl) rfl ?_
      exact UnhP.mk HSZ.out HUA.out (by repeat (first | with_reducible exact Below.refl _ _ | with_reducible apply Below.ofExt | with_reducible apply Below.ofAlloc | with_reducible apply Below.drew | with_reducible apply Below.ofDrewN | with_reducible assumption | (with_reducible refine Below.setCell ?_ (by first | exact Nat.le_refl _ | (simp [go_sem]; done) | (simp [go_sem]; omega)) _)))
set_option maxRecDepth 100000 in
set_option maxHeartbeats 2000000 in
theorem spec_ReadDecimal (s : ByteArray) (w : World) (hs : s.size ≤ 1048576) :
    Calls Tryz.prog 70 #[.string s] w (NumP s w) := by
  have hsl : s.data.toList.length = s.size := by simp
  go_enter Tryz.func70, Tryz.ntmps70
  by_cases hb : (10 : Int) < s.size
  · have hu := Num.long (l := s.data.toList) (by omega)
    clear hsl
    go_wp2
    refine bodyPost_ret (by simp [results, Tryz.results70, go_sem]; rfl) rfl ?_
    exact NumP.mk hu (by repeat (first | with_reducible exact Below.refl _ _ | with_reducible apply Below.ofExt | with_reducible apply Below.ofAlloc | with_reducible apply Below.drew | with_reducible apply Below.ofDrewN | with_reducible assumption | (with_reducible refine Below.setCell ?_ (by first | exact Nat.le_refl _ | (simp [go_sem]; done) | (simp [go_sem]; omega)) _)))
  go_wp2
  go_loopw [4, 5] (fun o k wr => ∃ (m : Nat) (n : Int), k = .int .i64 m ∧ m ≤ s.size ∧ Below w.heap.size w wr ∧ o = .int .i64 n ∧ n = valD (s.data.toList.take m) ∧ ∀ c ∈ s.data.toList.take m, digL c) (fun _ k _ => s.size - (intOf k).toNat)
  case atStart => exact ⟨0, 0, rfl, by omega, (by repeat (first | with_reducible exact Below.refl _ _ | with_reducible apply Below.ofExt | with_reducible apply Below.ofAlloc | with_reducible apply Below.drew | with_reducible apply Below.ofDrewN | with_reducible assumption | (with_reducible refine Below.setCell ?_ (by first | exact Nat.le_refl _ | (simp [go_sem]; done) | (simp [go_sem]; omega)) _))), rfl, by simp [valD], by simp⟩
  case round =>
    obtain ⟨m, n, rfl, hn, hbel, rfl, hv, hd⟩ := hrel
    obtain ⟨X, rfl⟩ := hbel.ext
    have hbd := valD_bd _ hd
    rw [← hv] at hbd
    have hp : (10 : Int) ^ (s.data.toList.take m).length ≤ 10 ^ 10 := pow10_le (by rw [List.length_take]; omega)
    have hn0 := hbd.1
    have hn1 : n < 10000000000 := Int.lt_of_lt_of_le hbd.2 hp
    have HV := Lib.hid hv
    have HD := Lib.hid hd
    have HSL := Lib.hid hsl
    clear hv hd hbd hp hsl
    by_cases hlt : (m : Int) < s.size
    case pos =>
      have hk : m < s.data.toList.length := by rw [HSL.out]; omega
      have hk1 : m < s.size := by omega
      have e1 : s.data.toList[m]'hk = s[m] := rfl
      have hst := valD_snoc (s.data.toList.take m) (s.data.toList[m]'hk)
      rw [← List.take_succ_eq_append_getElem hk, ← HV.out, e1] at hst
      have hmem : s[m] ∈ s.data.toList := by rw [← e1]; exact List.getElem_mem hk
      have HST := Lib.hid hst
      have HM := Lib.hid hmem
      clear hst hmem
      have hc1 : (s[m].toNat : Int) ≤ 255 := by have := s[m].toNat_lt; omega
      have hc0 : 0 ≤ (s[m].toNat : Int) := by omega
      by_cases h1 : (s[m].toNat : Int) < 48
      · have hu := Num.bad HM.out (by unfold digL; omega)
        have HUN := Lib.hid hu
        clear hu
        go_wp2
        refine bodyPost_ret (by simp [results, Tryz.results70, go_sem]; rfl) rfl ?_
        exact NumP.mk HUN.out (by repeat (first | with_reducible exact Below.refl _ _ | with_reducible apply Below.ofExt | with_reducible apply Below.ofAlloc | with_reducible apply Below.drew | with_reducible apply Below.ofDrewN | with_reducible assumption | (with_reducible refine Below.setCell ?_ (by first | exact Nat.le_refl _ | (simp [go_sem]; done) | (simp [go_sem]; omega)) _)))
      by_cases h2 : (57 : Int) < s[m].toNat
      · have hu := Num.bad HM.out (by unfold digL; omega)
        have HUN := Lib.hid hu
        clear hu
        go_wp2
        refine bodyPost_ret (by simp [results, Tryz.results70, go_sem]; rfl) rfl ?_
        exact NumP.mk HUN.out (by repeat (first | with_reducible exact Below.refl _ _ | with_reducible apply Below.ofExt | with_reducible apply Below.ofAlloc | with_reducible apply Below.drew | with_reducible apply Below.ofDrewN | with_reducible assumption | (with_reducible refine Below.setCell ?_ (by first | exact Nat.le_refl _ | (simp [go_sem]; done) | (simp [go_sem]; omega)) _)))
      have hd2 : ∀ c ∈ s.data.toList.take (m + 1), digL c := by
        rw [List.take_succ_eq_append_getElem hk, e1]
        intro c hc
        rcases List.mem_append.1 hc with hc | hc
        · exact HD.out c hc
        · rw [List.mem_singleton.1 hc]
          unfold digL
          omega
      have HD2 := Lib.hid hd2
      clear hd2 e1
      go_wp2
      go_roundw
      case rel => exact ⟨m + 1, _, by go_num, by omega, (by repeat (first | with_reducible exact Below.refl _ _ | with_reducible apply Below.ofExt | with_reducible apply Below.ofAlloc | with_reducible apply Below.drew | with_reducible apply Below.ofDrewN | with_reducible assumption | (with_reducible refine Below.setCell ?_ (by first | exact Nat.le_refl _ | (simp [go_sem]; done) | (simp [go_sem]; omega)) _))), rfl, by rw [HST.out]; omega, HD2.out⟩
      case measure => simp [intOf]; omega
    case neg =>
      have e : m = s.size := by omega
      have hv2 : n = valD s.data.toList := by have := HV.out; rw [List.take_of_length_le (by rw [HSL.out]; omega)] at this; exact this
      have HV2 := Lib.hid hv2
      clear hv2
      by_cases h1 : 1000000000 < n
      · have hu := Num.other HV2.out (.inl h1)
        have HUN := Lib.hid hu
        clear hu
        go_wp2
        refine bodyPost_ret (by simp [results, Tryz.results70, go_sem]; rfl) rfl ?_
        exact NumP.mk HUN.out (by repeat (first | with_reducible exact Below.refl _ _ | with_reducible apply Below.ofExt | with_reducible apply Below.ofAlloc | with_reducible apply Below.drew | with_reducible apply Below.ofDrewN | with_reducible assumption | (with_reducible refine Below.setCell ?_ (by first | exact Nat.le_refl _ | (simp [go_sem]; done) | (simp [go_sem]; omega)) _)))
      go_wp2_with fail
      (go_at_call 47; refine (spec_Decimal n _ (by omega) (by omega)).mono ?_; rintro e w' ⟨rfl, hb⟩; obtain ⟨X, rfl⟩ := hb.ext; clear hb)
      by_cases he : Lib.itoa n = s.data.toList
      · have hu := Num.good hn0 (by omega) HV2.out
        have HUN := Lib.hid hu
        have heq : strOf (Lib.itoa n) = s := by rw [he, strOf_data]
        clear hu he
        rw [heq]
        go_wp2
        refine bodyPost_ret (by simp [results, Tryz.results70, go_sem]; rfl) rfl ?_
        exact NumP.mk HUN.out (by repeat (first | with_reducible exact Below.refl _ _ | with_reducible apply Below.ofExt | with_reducible apply Below.ofAlloc | with_reducible apply Below.drew | with_reducible apply Below.ofDrewN | with_reducible assumption | (with_reducible refine Below.setCell ?_ (by first | exact Nat.le_refl _ | (simp [go_sem]; done) | (simp [go_sem]; omega)) _)))
      · have hu := Num.other HV2.out (.inr he)
        have HUN := Lib.hid hu
        have heq : (((strOf (Lib.itoa n)).toList == s.toList)) = false := by
          rw [beq_eq_false_iff_ne, bl1, bl1]
          exact fun e => he (by rw [← e, strOf_list])
        clear hu he
        go_wp2
        refine bodyPost_ret (by simp [results, Tryz.results70, go_sem]; rfl) rfl ?_
        exact NumP.mk HUN.out (by repeat (first | with_reducible exact Below.refl _ _ | with_reducible apply Below.ofExt | with_reducible apply Below.ofAlloc | with_reducible apply Below.drew | with_reducible apply Below.ofDrewN | with_reducible assumption | (with_reducible refine Below.setCell ?_ (by first | exact Nat.le_refl _ | (simp [go_sem]; done) | (simp [go_sem]; omega)) _)))
set_option maxRecDepth 100000 in
set_option maxHeartbeats 2000000 in
theorem spec_l21Split (s : ByteArray) (c : UInt8) (w : World) (hs : s.size ≤ 1048576) :
    Calls Tryz.prog 69 #[.string s, .int .u8 (c.toNat : Int)] w (SplP 9 c s w) := by
  have hsl : s.data.toList.length = s.size := by simp
  go_enter Tryz.func69, Tryz.ntmps69
  go_wp2
  go_loopw [5, 6, 7] (fun o b k wr => ∃ (i j : Nat) (xs : List ByteArray), k = .int .i64 i ∧ b = .int .i64 j ∧ i ≤ s.size + 1 ∧ xs.length ≤ i ∧ Below w.heap.size w wr ∧ OwnL rStr 9 wr w.heap.size o xs ∧ CutTo c s.data.toList xs j i) (fun _ _ k _ => s.size + 1 - (intOf k).toNat)
  case atStart => exact ⟨0, 0, [], rfl, rfl, by omega, by simp, (by repeat (first | with_reducible exact Below.refl _ _ | with_reducible apply Below.ofExt | with_reducible apply Below.ofAlloc | with_reducible apply Below.drew | with_reducible apply Below.ofDrewN | with_reducible assumption | (with_reducible refine Below.setCell ?_ (by first | exact Nat.le_refl _ | (simp [go_sem]; done) | (simp [go_sem]; omega)) _))), OwnL.empty _ _ _, CutTo.nil _ _⟩
  case round =>
    obtain ⟨i, j, xs, rfl, rfl, hi, hxl, hbel, ho, hc⟩ := hrel
    obtain ⟨X, rfl⟩ := hbel.ext
    obtain ⟨oa, oc, rfl⟩ := ho.rd.form
    have HO := Lib.hid ho
    have HC := Lib.hid hc
    have HSL := Lib.hid hsl
    clear ho hc hsl
    by_cases hlt : (i : Int) ≤ s.size
    case pos =>
      have hji := HC.out.lo (by rw [HSL.out]; omega)
      by_cases he : (i : Int) = s.size
      · have hst := HC.out.last (by rw [HSL.out]; omega) (cut_list s j i)
        have ei : i = s.size := by omega
        rw [show s.extract j i = s.extract j s.size by rw [ei]] at hst
        have HST := Lib.hid hst
        clear hst
        go_wp2_with (at_builtin; refine Stop.here ?_)
        refine wpList_appL rfl (.tmp 26) (.tmp 31) _ rfl (R := rStr) (e := 9) Tryz.elemStrR (B := w.heap.size) (v := .slice oa xs.length oc) (xs := xs) (HO.out.alloc _) rfl (ys := [s.extract j s.size]) (RdL.oneAt rStr _ (s.extract j s.size) _ rfl _ _ (by simp [World.ext_size])) rfl (by simp only [List.length_singleton]; omega) (by simp only [List.length_singleton]; unfold maxLen; omega) (by simp [World.ext_size]; omega) ?_
        intro v4 w4 hown4 hgr4 _
        have hb4 : Below w.heap.size w w4 := Below.appL (a := w) (R := rStr) (e := 9) (v := .slice oa xs.length oc) (xs := xs) (by repeat (first | with_reducible exact Below.refl _ _ | with_reducible apply Below.ofExt | with_reducible apply Below.ofAlloc | with_reducible apply Below.drew | with_reducible apply Below.ofDrewN | with_reducible assumption | (with_reducible refine Below.setCell ?_ (by first | exact Nat.le_refl _ | (simp [go_sem]; done) | (simp [go_sem]; omega)) _))) hgr4 (HO.out.alloc _)
        obtain ⟨Y, rfl⟩ := hb4.ext
        have HO4 := Lib.hid hown4
        clear hown4 hgr4 hb4
        go_wp2
        go_roundw
        case rel => exact ⟨i + 1, i + 1, _, by go_num, by go_num, by omega, by rw [List.length_append, List.length_singleton]; omega, (by repeat (first | with_reducible exact Below.refl _ _ | with_reducible apply Below.ofExt | with_reducible apply Below.ofAlloc | with_reducible apply Below.drew | with_reducible apply Below.ofDrewN | with_reducible assumption | (with_reducible refine Below.setCell ?_ (by first | exact Nat.le_refl _ | (simp [go_sem]; done) | (simp [go_sem]; omega)) _))), HO4.out, HST.out⟩
        case measure => simp [intOf]; omega
      · have hk : i < s.size := by omega
        have hk2 : i < s.data.toList.length := by rw [HSL.out]; omega
        have e1 : s.data.toList[i]'hk2 = s[i] := rfl
        by_cases hcc : s[i] = c
        · have hcc2 : ((s[i].toNat : Int) == (c.toNat : Int)) = true := by rw [hcc]; simp
          have hst := HC.out.cut hk2 (by rw [e1]; exact hcc) (cut_list s j i)
          have HST := Lib.hid hst
          clear e1 hst
          go_wp2_with (at_builtin; refine Stop.here ?_)
          refine wpList_appL rfl (.tmp 26) (.tmp 31) _ rfl (R := rStr) (e := 9) Tryz.elemStrR (B := w.heap.size) (v := .slice oa xs.length oc) (xs := xs) (HO.out.alloc _) rfl (ys := [s.extract j i]) (RdL.oneAt rStr _ (s.extract j i) _ rfl _ _ (by simp [World.ext_size])) rfl (by simp only [List.length_singleton]; omega) (by simp only [List.length_singleton]; unfold maxLen; omega) (by simp [World.ext_size]; omega) ?_
          intro v4 w4 hown4 hgr4 _
          have hb4 : Below w.heap.size w w4 := Below.appL (a := w) (R := rStr) (e := 9) (v := .slice oa xs.length oc) (xs := xs) (by repeat (first | with_reducible exact Below.refl _ _ | with_reducible apply Below.ofExt | with_reducible apply Below.ofAlloc | with_reducible apply Below.drew | with_reducible apply Below.ofDrewN | with_reducible assumption | (with_reducible refine Below.setCell ?_ (by first | exact Nat.le_refl _ | (simp [go_sem]; done) | (simp [go_sem]; omega)) _))) hgr4 (HO.out.alloc _)
          obtain ⟨Y, rfl⟩ := hb4.ext
          have HO4 := Lib.hid hown4
          clear hown4 hgr4 hb4
          go_wp2
          go_roundw
          case rel => exact ⟨i + 1, i + 1, _, by go_num, by go_num, by omega, by rw [List.length_append, List.length_singleton]; omega, (by repeat (first | with_reducible exact Below.refl _ _ | with_reducible apply Below.ofExt | with_reducible apply Below.ofAlloc | with_reducible apply Below.drew | with_reducible apply Below.ofDrewN | with_reducible assumption | (with_reducible refine Below.setCell ?_ (by first | exact Nat.le_refl _ | (simp [go_sem]; done) | (simp [go_sem]; omega)) _))), HO4.out, HST.out⟩
          case measure => simp [intOf]; omega
        · have hcc2 : ((s[i].toNat : Int) == (c.toNat : Int)) = false := by
            rw [beq_eq_false_iff_ne]
            exact fun e => hcc (UInt8.toNat_inj.1 (by omega))
          have hst := HC.out.same hk2 (by rw [e1]; exact hcc)
          have HST := Lib.hid hst
          clear hst hcc e1
          go_wp2
          go_roundw
          case rel => exact ⟨i + 1, j, xs, by go_num, rfl, by omega, by omega, (by repeat (first | with_reducible exact Below.refl _ _ | with_reducible apply Below.ofExt | with_reducible apply Below.ofAlloc | with_reducible apply Below.drew | with_reducible apply Below.ofDrewN | with_reducible assumption | (with_reducible refine Below.setCell ?_ (by first | exact Nat.le_refl _ | (simp [go_sem]; done) | (simp [go_sem]; omega)) _))), HO.out, HST.out⟩
          case measure => simp [intOf]; omega
    case neg =>
      have hx := HC.out.all (by rw [HSL.out]; omega)
      have HX := Lib.hid hx
      clear hx
      go_wp2
      go_ret
      exact SplP.mk HO.out HX.out (by repeat (first | with_reducible exact Below.refl _ _ | with_reducible apply Below.ofExt | with_reducible apply Below.ofAlloc | with_reducible apply Below.drew | with_reducible apply Below.ofDrewN | with_reducible assumption | (with_reducible refine Below.setCell ?_ (by first | exact Nat.le_refl _ | (simp [go_sem]; done) | (simp [go_sem]; omega)) _)))
end Go.Proofs.YtedgenmbdjadkaaGreatDoor
