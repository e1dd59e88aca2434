/- Texts of this claim, merged: the walks and what they stand on. Each condition stands in its theorem. -/
import Derived.Test.YtieenbnmfaekiaaGreatDoorSS14
set_option linter.unusedVariables false
set_option linter.unusedSimpArgs false
set_option maxRecDepth 100000
set_option maxHeartbeats 8000000
namespace Go.Proofs.YtieenbnmfaekiaaGreatDoor
open Go.ChangeShapes Go.WideShapes Go.ChangeAt Go.RowKit
def kidEnd (a : ByteArray) : Bool := decide (2 ≤ a.size) && ((a.extract (a.size - 2) a.size).toList == [47, 112])
theorem lite_HasSuffixP (a : ByteArray) (w : World) (ha : a.size ≤ 1048576) : Calls Tryz.prog 179 #[.string a, .string ⟨#[47, 112]⟩] w fun e w' => e = .returned (.bool (kidEnd a)) ∧ w = w' := by
 by_cases h : 2 ≤ a.size
 ·have h' : (2 : Int) ≤ a.size := by omega
  go_enter Tryz.func179, Tryz.ntmps179
  go_wp2
  go_ret
  exact ⟨by simp [kidEnd, h], rfl⟩
 ·have h' : ¬ (2 : Int) ≤ a.size := by omega
  go_enter Tryz.func179, Tryz.ntmps179
  go_wp2
  go_ret
  exact ⟨by simp [kidEnd, h], rfl⟩
theorem strings_CutSuffixP (a : ByteArray) (w : World) (ha : a.size ≤ 1048576) : Calls Tryz.prog 106 #[.string a, .string ⟨#[47, 112]⟩] w fun e w' => e = .returned (.tuple #[.string (if kidEnd a then a.extract 0 (a.size - 2) else a), .bool (kidEnd a)]) ∧ w = w' := by
 have H : Calls Tryz.prog 151 #[.string a, .string ⟨#[47, 112]⟩] w fun e w' => e = .returned (.tuple #[.string (if kidEnd a then a.extract 0 (a.size - 2) else a), .bool (kidEnd a)]) ∧ w = w' := by
  have PH := Lib.hid (lite_HasSuffixP a w ha)
  cases ho : kidEnd a with
  | true =>
   have h1 : 2 ≤ a.size := by
    unfold kidEnd at ho
    simp at ho
    exact ho.1
   have h2 : (2 : Int) ≤ a.size := by omega
   have HO := Lib.hid ho
   clear ho
   go_enter Tryz.func151, Tryz.ntmps151
   go_wp2_with fail
   (go_at_call 179; refine PH.out.mono ?_; rintro e w' ⟨rfl, rfl⟩)
   rw [HO.out]
   go_wp2
   refine bodyPost_ret (by simp [results, Tryz.results151, go_sem]; rfl) rfl ?_
   exact ⟨by simp, rfl⟩
  | false =>
   have HO := Lib.hid ho
   clear ho
   go_enter Tryz.func151, Tryz.ntmps151
   go_wp2_with fail
   (go_at_call 179; refine PH.out.mono ?_; rintro e w' ⟨rfl, rfl⟩)
   rw [HO.out]
   go_wp2
   refine bodyPost_ret (by simp [results, Tryz.results151, go_sem]; rfl) rfl ?_
   exact ⟨by simp, rfl⟩
 generalize (if kidEnd a then a.extract 0 (a.size - 2) else a) = r at H ⊢
 generalize kidEnd a = bb at H ⊢
 have HH := Lib.hid H
 clear H
 go_enter Tryz.func106, Tryz.ntmps106
 go_wp2_with fail
 (go_at_call 151; refine HH.out.mono ?_; rintro e w' ⟨rfl, rfl⟩)
 go_wp2
 refine bodyPost_ret (by simp [results, Tryz.results106, go_sem]; rfl) rfl ?_
 exact ⟨rfl, rfl⟩
theorem kid_text {a : ByteArray} (h : 2 ≤ a.size) : (a.extract 0 (a.size - 2)).extract 2 (a.extract 0 (a.size - 2)).size = a.extract 2 (a.size - 2) := by
 apply ByteArray.ext
 apply Array.toList_inj.1
 simp only [ByteArray.data_extract, Array.toList_extract, ByteArray.size_extract, List.extract_eq_take_drop, List.drop_zero]
 rw [List.drop_take, List.take_take]
 congr 1
 omega
theorem impl_kids (parent : Int) (p0 : -9223372036854775808 ≤ parent) (p1 : parent ≤ 9223372036854775807) : ICL rInt 3 55 (fun x => #[x, .int .i64 parent]) (K.kids parent) := by
 refine ICLgo (fun w0 w fp b m res mres HM HT HL => ?_)
 have HB0 := Lib.hid HM.out.bel.size
 unfold K.kids at HL
 go_enter Tryz.func55, Tryz.ntmps55
 (repeat (first | go_skip | go_guarded | go_step | go_upon | go_back))
 (go_at_call 96; refine (under_use (by first | exact HL.out | exact HL.out.last) HM.out).mono ?_; rintro e w2 ⟨al, nl, ks, m2, fp2, rfl, hks, hm, ht, hkl, HL2⟩; have HK := Lib.hid (KL.lower hkl HT.out.up.size); have HM' := Lib.hid hm; have HT' := Lib.hid (HT.out.trans ht); clear HM HT hm ht hkl; have HM := HM'; have HT := HT'; clear HM' HT'; clear HL; have HL := Lib.hid HL2; clear HL2; (try simp only []))
 (repeat (first | go_skip | go_guarded | go_step | go_upon | go_back))
 have hkl := hks.1
 go_loopw [5, 7, 8, 9, 13] (fun o _ _ _ k wr => ∃ (n : Nat) (xs : List Int) (m1 : MachD) (fp1 : List Nat), k = .int .i64 n ∧ n ≤ ks.length ∧ xs.length ≤ n ∧ IM w0 wr b fp1 m1 ∧ IT w fp wr fp1 ∧ KL rStr 9 wr w.heap.size fp1 (.slice al ks.length nl) ks ∧ KL rInt 3 wr w.heap.size fp1 o xs ∧ Lft (Mp.fold (K.kid parent) xs (ks.drop n) >>= pure) m1 (res, mres)) (fun _ _ _ _ k _ => ks.length - (intOf k).toNat)
 case atStart => exact ⟨0, [], _, _, rfl, Nat.zero_le _, Nat.le_refl _, HM.out, HT.out, HK.out, ⟨OwnL.nil rInt _ w2 _, fun j hj => by cases hj⟩, HL.out.last⟩
 case round =>
  clear HL HM HT HK
  obtain ⟨n, xs, m1, fp1, rfl, hn, hxl, hm, ht, hkk, ho, hl⟩ := hrel
  obtain ⟨oa, oc, rfl⟩ := ho.1.rd.form
  have HM := Lib.hid hm
  have HT := Lib.hid ht
  have HK := Lib.hid hkk
  have HO := Lib.hid ho
  clear hm ht hkk ho
  by_cases hlt : (n : Int) < ks.length
  case neg =>
   have HL := Lib.hid (Lft.fold_end (κ := pure) (by omega) hl)
   (repeat (first | go_skip | go_guarded | go_step | go_upon | go_back))
   obtain ⟨rfl, rfl⟩ := HL.out.end
   refine bodyPost_ret (by simp [results, Tryz.results55, go_sem]; rfl) rfl ?_
   exact ⟨_, rfl, _, HM.out, HT.out, HO.out⟩
  case pos =>
   have hk : n < ks.length := by omega
   have hl2 := Lft.fold_at (κ := pure) hk hl
   clear hl
   obtain ⟨b', off, rfl, hbl, y0⟩ := HK.out.at_ hk
   have hkz := hks.2.1 _ (List.getElem_mem hk)
   generalize ks[n] = key at hl2 y0 hkz
   have PC := Lib.hid (fun w => strings_CutSuffixP key w hkz)
   unfold K.kid at hl2
   cases hke : kidEnd key with
   | false =>
    have hik : K.isKidKey key = false := by
     by_cases h5 : key.size < 5
     ·exact isKid_no h5
     ·rw [isKid_is (by omega)]
      unfold kidEnd at hke
      simpa [show 2 ≤ key.size by omega] using hke
    rw [hik, if_neg (by decide), Mp.pure_bind] at hl2
    have HL := Lib.hid hl2
    have HE := Lib.hid hke
    clear hl2 hik hke
    (repeat (first | go_skip | go_guarded | go_step | go_upon | go_back))
    (go_at_call 106; refine (PC.out _).mono ?_; rintro e w' ⟨rfl, rfl⟩)
    rw [HE.out, if_neg (by decide)]
    by_cases h5 : (5 : Int) ≤ key.size
    all_goals (
     ((try simp only []); repeat (first | go_skip | go_guarded | go_step | go_upon | go_back))
     go_roundw
     case rel => exact ⟨n + 1, xs, m1, fp1, by go_num, by omega, by omega, HM.out, HT.out, HK.out, HO.out, HL.out⟩
     case measure => simp [intOf]; omega)
   | true =>
    have h2 : 2 ≤ key.size := by
     unfold kidEnd at hke
     simp at hke
     exact hke.1
    have HE := Lib.hid hke
    by_cases h5 : (5 : Int) ≤ key.size
    case neg =>
     rw [isKid_no (by omega), if_neg (by decide), Mp.pure_bind] at hl2
     have HL := Lib.hid hl2
     clear hl2 hke
     (repeat (first | go_skip | go_guarded | go_step | go_upon | go_back))
     (go_at_call 106; refine (PC.out _).mono ?_; rintro e w' ⟨rfl, rfl⟩)
     rw [HE.out, if_pos rfl]
     ((try simp only []); repeat (first | go_skip | go_guarded | go_step | go_upon | go_back))
     go_roundw
     case rel => exact ⟨n + 1, xs, m1, fp1, by go_num, by omega, by omega, HM.out, HT.out, HK.out, HO.out, HL.out⟩
     case measure => simp [intOf]; omega
    case pos =>
     have hik : K.isKidKey key = true := by
      rw [isKid_is (by omega)]
      unfold kidEnd at hke
      simpa [h2] using hke
     rw [hik, if_pos rfl, Mp.bind_assoc] at hl2
     have HL := Lib.hid hl2
     have hKT := kid_text h2
     have hq : (key.extract 0 (key.size - 2)).size = key.size - 2 := by rw [ByteArray.size_extract]; omega
     have hq2 : (2 : Int) ≤ ((key.extract 0 (key.size - 2)).size : Int) := by omega
     have hze : (key.extract 2 (key.size - 2)).size ≤ 1048576 := by rw [ByteArray.size_extract]; omega
     have HKT := Lib.hid hKT
     clear hl2 hke hik hKT hq
     (repeat (first | go_skip | go_guarded | go_step | go_upon | go_back))
     (go_at_call 106; refine (PC.out _).mono ?_; rintro e w' ⟨rfl, rfl⟩)
     rw [HE.out, if_pos rfl]
     generalize key.extract 0 (key.size - 2) = idt at hq2 HKT ⊢
     ((try simp only []); repeat (first | go_skip | go_guarded | go_step | go_upon | go_back))
     clear y0
     ((((go_at_call 84; refine (IC.use (impl_num _) (fun a => 0 ≤ a ∧ a ≤ 999) (fun m _ => num_bd _ m) (by first | exact HL.out | exact HL.out.last) HM.out).mono ?_); (rintro e w2 ⟨x, m2, fp2, rfl, hx, hm, ht, HL2⟩); (have HM' := Lib.hid hm; have HT' := Lib.hid (HT.out.trans ht); (try (have HK' := Lib.hid (HK.out.step ht); clear HK; have HK := HK'; clear HK')); (try (have HO' := Lib.hid (HO.out.step ht); clear HO; have HO := HO'; clear HO')); clear HM HT hm ht; have HM := HM'; have HT := HT'; clear HM' HT'; clear HL; have HL := Lib.hid HL2; clear HL2; (try simp only []); (all_goals ((repeat' ((rcases HL.out.ite with ⟨hg, HL2⟩ | ⟨hg, HL2⟩ <;> (clear HL; have HL := Lib.hid HL2; clear HL2))))))))))
     by_cases hpu : x = parent
     case neg =>
      have hl3 := HL.out
      rw [if_neg hpu, Mp.pure_bind] at hl3
      clear HL
      have HL := Lib.hid hl3
      clear hl3
      (repeat (first | go_skip | go_guarded | go_step | go_upon | go_back))
      go_roundw
      case rel => exact ⟨n + 1, xs, _, _, by go_num, by omega, by omega, HM.out, HT.out, HK.out, HO.out, HL.out⟩
      case measure => simp [intOf]; omega
     case pos =>
      have hl3 := HL.out
      rw [if_pos hpu, Mp.pure_bind] at hl3
      clear HL
      have HL := Lib.hid hl3
      clear hl3
      (repeat (first | go_skip | go_guarded | go_step | go_upon | go_back))
      rw [HKT.out]
      ((((go_at_call 107; refine (impl_NumOf _ _ HM.out.globs (by omega)).mono ?_); rintro e w2 ⟨rfl, hb⟩; (have HM' := Lib.hid (HM.out.below hb); have HT' := Lib.hid (HT.out.trans (IT.below hb)); (try (have HK' := Lib.hid (HK.out.below hb); clear HK; have HK := HK'; clear HK')); (try (have HO' := Lib.hid (HO.out.below hb); clear HO; have HO := HO'; clear HO')); clear HM HT hb; have HM := HM'; have HT := HT'; clear HM' HT'; (try simp only [])))))
      generalize numOf (key.extract 2 (key.size - 2)) = val at HL ⊢
      go_wp2_with (at_builtin; refine Stop.here ?_)
      refine wpList_appF rfl _ _ _ rfl Tryz.elemIntQ (B := w.heap.size) (v := .slice oa xs.length oc) (R := rInt) (xs := xs) (HO.out.1.alloc _) rfl (RdL.oneAt rInt _ val _ rfl _ _ rfl) rfl (by simp only [List.length_singleton]; omega) (by simp only [List.length_singleton]; unfold maxLen; omega) (by have := HT.out.up.size; simp; omega) ?_
      intro v7 w7 hown hg hfr
      have hBo := fun j hj => (HO.out.1.lt j hj).1
      have hu := upon_grown hg
      have hba := Below.ofAlloc (Below.refl w2.heap.size w2) (.cells #[.int .i64 val] 3)
      have hm1 := HM.out.below hba
      have hm7 := hm1.upon hu (fun j hj => HO.out.2 j (by simpa using hj)) (fun j hj => Nat.le_trans HB0.out (hBo j (by simpa using hj)))
      have ht7 := (HT.out.trans (IT.below hba)).upon hu (fun j hj => hBo j (by simpa using hj))
      have hk7 := (HK.out.below hba).upon hu (fun j hj => by simpa using fun h => own_off HK.out.1 HO.out.1 (by decide) j hj h)
      have ho7 : KL rInt 3 w7 w.heap.size _ v7 (xs ++ [val]) := ⟨hown, fun j hj hx => by
       rcases hfr with h | h
       ·exact HO.out.2 j (by rw [← hj, h]) hx
       ·rw [hj] at h
        have h1 := Option.some.inj h
        have h2 := hm1.hi j hx
        omega⟩
      obtain ⟨oa7, oc7, rfl⟩ := hown.rd.form
      clear hown hg hfr hu hba hm1
      simp only [List.length_append, List.length_singleton] at ho7
      have HM7 := Lib.hid hm7
      have HT7 := Lib.hid ht7
      have HK7 := Lib.hid hk7
      have HO7 := Lib.hid ho7
      clear hm7 ht7 hk7 ho7 hBo
      ((try simp only []); repeat (first | go_skip | go_guarded | go_step | go_upon | go_back))
      go_roundw
      case rel => exact ⟨n + 1, xs ++ [val], _, _, by go_num, by omega, by simp; omega, HM7.out, HT7.out, HK7.out, HO7.out, HL.out⟩
      case measure => simp [intOf]; omega
theorem impl_forkPages (frm : Int) (frm0 : -9223372036854775808 ≤ frm) (frm1 : frm ≤ 9223372036854775807) (to : Int) (to0 : -9223372036854775808 ≤ to) (to1 : to ≤ 9223372036854775807) : IC 51 (fun x => #[x, .int .i64 frm, .int .i64 to]) (K.forkPages frm to) (fun _ => .tuple #[]) := by
 refine ICgo (fun w0 w fp b m res mres HM HT HL => ?_)
 have hk1 := pagesKey_small frm frm0 frm1
 have hk2 := pagesKey_small to to0 to1
 unfold K.forkPages at HL
 go_enter Tryz.func51, Tryz.ntmps51
 (repeat (first | go_skip | go_guarded | go_step | go_upon | go_back))
 ((((go_at_call 104; refine (impl_pagesKey _ (by omega) (by omega) _ HM.out.globs).mono ?_); rintro e w2 ⟨rfl, hb⟩; (replace HM := Lib.hid (HM.out.below hb); replace HT := Lib.hid (HT.out.trans (IT.below hb)); clear hb; (try simp only [])))))
 (repeat (first | go_skip | go_guarded | go_step | go_upon | go_back))
 (go_at_call 96; refine (under_use (by first | exact HL.out | exact HL.out.last) HM.out).mono ?_; rintro e w2 ⟨al, nl, ks, m2, fp2, rfl, hks, hm, ht, hkl, HL2⟩; have HK := Lib.hid (KL.lower hkl HT.out.up.size); have HM' := Lib.hid hm; have HT' := Lib.hid (HT.out.trans ht); clear HM HT hm ht hkl; have HM := HM'; have HT := HT'; clear HM' HT'; clear HL; have HL := Lib.hid HL2; clear HL2; (try simp only []))
 (repeat (first | go_skip | go_guarded | go_step | go_upon | go_back))
 go_loopw [7, 13] (fun _ k wr => ∃ (n : Nat) (m1 : MachD) (fp1 : List Nat), k = .int .i64 n ∧ n ≤ ks.length ∧ IM w0 wr b fp1 m1 ∧ IT w fp wr fp1 ∧ KL rStr 9 wr w.heap.size fp1 (.slice al ks.length nl) ks ∧ Lft (Mp.each (K.forkOne frm to) (ks.drop n)) m1 (res, mres)) (fun _ k _ => ks.length - (intOf k).toNat)
 case atStart => exact ⟨0, _, _, rfl, Nat.zero_le _, HM.out, HT.out, HK.out, HL.out⟩
 case round =>
  clear HL HM HT HK
  obtain ⟨n, m1, fp1, rfl, hn, hm, ht, hkk, hl⟩ := hrel
  have HM := Lib.hid hm
  have HT := Lib.hid ht
  have HK := Lib.hid hkk
  clear hm ht hkk
  have hkl := hks.1
  by_cases hlt : (n : Int) < ks.length
  case pos =>
   have hk : n < ks.length := by omega
   have hl2 := hl.each_at hk
   clear hl
   obtain ⟨b', off, rfl, hbl, y0⟩ := HK.out.at_ hk
   have hkz := hks.2.1 _ (List.getElem_mem hk)
   have hky := hks.2.2 _ (List.getElem_mem hk)
   generalize ks[n] = key at y0 hkz hky hl2
   have hl2 : Lft (K.look key >>= fun v => K.lay (K.pagesKey to ++ key.extract (K.pagesKey frm).size key.size) v >>= fun _ => Mp.each (K.forkOne frm to) (ks.drop (n + 1))) m1 (res, mres) := by
    rw [← Mp.bind_assoc]
    exact hl2
   have HL := Lib.hid hl2
   clear hl2
   have hze : (key.extract (K.pagesKey frm).size key.size).size ≤ 1048576 := by rw [ByteArray.size_extract]; omega
   have hcc : ¬ 9223372036854775807 < (K.pagesKey to).size + (key.extract (K.pagesKey frm).size key.size).size := by omega
   have hcc2 : ¬ 9223372036854775807 < (K.pagesKey to).size + (key.size - (K.pagesKey frm).size) := by omega
   have hky2 : ((K.pagesKey frm).size : Int) ≤ key.size := by omega
   (repeat (first | go_skip | go_guarded | go_step | go_upon | go_back))
   clear y0
   (refine wp_region_ordUF (fun W : World => W) (id := 3) [(0, true), (1, true), (3, true), (4, true), (9, true), (10, true), (2, false), (5, false), (6, true), (7, true), (8, true), (11, false), (12, false)] 13 (by kernel_rfl) (by kernel_rfl) ⟨_, rfl⟩ ?_; have HM' := Lib.hid (HM.out.below (Below.drew (Below.refl _ _))); have HT' := Lib.hid (HT.out.trans (IT.below (Below.drew (Below.refl _ _)))); (try (have HK' := Lib.hid (HK.out.below (Below.drew (Below.refl _ _))); clear HK; have HK := HK'; clear HK')); clear HM HT; have HM := HM'; have HT := HT'; clear HM' HT'; (repeat (first | (refine wpOrd_quiet rfl (fun K hK => ?_); go_simp; refine hK _ ?_; clear hK K) | (refine wpOrd_grow rfl (fun K hK => ?_); go_simp; (first | ((go_at_call 104; refine (impl_pagesKey _ (by omega) (by omega) _ HM.out.globs).mono ?_); rintro e w2 ⟨rfl, hb⟩; (have HM' := Lib.hid (HM.out.below hb); have HT' := Lib.hid (HT.out.trans (IT.below hb)); (try (have HK' := Lib.hid (HK.out.below hb); clear HK; have HK := HK'; clear HK')); clear HM HT hb; have HM := HM'; have HT := HT'; clear HM' HT'; (try simp only []))) | ((first | (go_at_call 93; refine (IC.use (impl_lay _ _) (fun _ => True) (fun _ _ => trivial) (by first | exact HL.out | exact HL.out.last) HM.out).mono ?_) | (go_at_call 105; refine (IC.use (impl_look _) (fun a => a.size ≤ 1048576) (fun m h => getC_size h.1 _) (by first | exact HL.out | exact HL.out.last) HM.out).mono ?_)); rintro e w2 ⟨x, m2, fp2, rfl, hx, hm, ht, HL2⟩; (have HM' := Lib.hid hm; have HT' := Lib.hid (HT.out.trans ht); (try (have HK' := Lib.hid (HK.out.step ht); clear HK; have HK := HK'; clear HK')); clear HM HT hm ht; have HM := HM'; have HT := HT'; clear HM' HT'; clear HL; have HL := Lib.hid HL2; clear HL2; (try simp only [])))); (try go_simp); refine hK _ _ ⟨_, rfl⟩ ?_; clear hK K))); refine wpOrd_nil ?_)
   (repeat (first | go_skip | go_guarded | go_step | go_upon | go_back))
   go_roundw
   case rel => exact ⟨n + 1, _, _, by go_num, by omega, HM.out, HT.out, HK.out, HL.out⟩
   case measure => simp [intOf]; omega
  case neg =>
   have HL := Lib.hid (hl.each_end (by omega))
   (repeat (first | go_skip | go_guarded | go_step | go_upon | go_back))
   all_goals (obtain ⟨rfl, rfl⟩ := HL.out.end; ((refine bodyPost_end (by simp [results, Tryz.results51, go_sem]; rfl) rfl ?_)); exact ⟨rfl, _, HM.out, HT.out⟩)
theorem impl_cutFile (id : Int) (id0 : -9223372036854775808 ≤ id) (id1 : id ≤ 9223372036854775807) (n : Int) (n0 : -9223372036854775808 ≤ n) (n1 : n ≤ 9223372036854775807) : IC 99 (fun x => #[x, .int .i64 id, .int .i64 n]) (K.cutFile id n) (fun r => .int .i64 r) := by
  refine ICgo (fun w0 w fp b m res mres HM HT HL => ?_)
  unfold K.cutFile at HL
  go_enter Tryz.func99, Tryz.ntmps99
  (try simp only [])
  ((repeat' (first | go_skip | go_guarded | go_step | go_upon | go_back | ((first | ((first | (go_at_call 146; refine (IC.use (impl_block _ (by omega) (by omega) _ (by omega) (by omega)) (fun a => a.size ≤ 20000) (fun m _ => unhexT_size _) (by first | exact HL.out | exact HL.out.last) HM.out).mono ?_) | (go_at_call 84; refine (IC.use (impl_num _) (fun a => 0 ≤ a ∧ a ≤ 999) (fun m _ => num_bd _ m) (by first | exact HL.out | exact HL.out.last) HM.out).mono ?_)); (rintro e w2 ⟨x, m2, fp2, rfl, hx, hm, ht, HL2⟩); (replace HM := Lib.hid hm; replace HT := Lib.hid (HT.out.trans ht); clear hm ht; clear HL; have HL := Lib.hid HL2; clear HL2; (try simp only []); (all_goals ((repeat' ((rcases HL.out.ite with ⟨hg, HL2⟩ | ⟨hg, HL2⟩ <;> (clear HL; have HL := Lib.hid HL2; clear HL2)))))))) | ((go_at_call 86; refine (impl_within _ _ _ _).mono ?_); rintro e w2 ⟨rfl, rfl⟩; (try simp only []); (try rw [HN.out]); (try rw [HP.out]); (try simp (disch := omega) only [inB_yes, inB_no])) | (((go_at_call 145; refine (impl_sizeKey _ (by omega) (by omega) _ HM.out.globs).mono ?_)); rintro e w2 ⟨rfl, hb⟩; (replace HM := Lib.hid (HM.out.below hb); replace HT := Lib.hid (HT.out.trans (IT.below hb)); clear hb; (try simp only []))))) | (exfalso; (simp only [bne_eq_false_iff_eq, beq_eq_false_iff_ne, beq_iff_eq, bne_iff_ne] at *); omega))))
  all_goals first
    | (obtain ⟨rfl, rfl⟩ := HL.out.end; refine bodyPost_ret (by simp [results, Tryz.results99, go_sem]; rfl) rfl ?_; exact ⟨rfl, _, HM.out, HT.out⟩)
    | skip
  · obtain ⟨q, hq⟩ : ∃ q : Nat, q = min (n % 8).toNat x.size := ⟨_, rfl⟩
    have hl1 := HL.out
    rw [← hq] at hl1
    clear HL
    have HL := Lib.hid hl1
    clear hl1
    have hmin : min (n % 8) (x.size : Int) = (q : Int) := by omega
    have hq1 : (q : Int) ≤ x.size := by omega
    have hq3 : (x.extract 0 q).size ≤ 1048576 := by rw [ByteArray.size_extract]; omega
    clear hq
    (refine wp_region_ordUF (fun W : World => W) (id := 7) [(0, true), (1, true), (2, true), (4, true), (5, true), (6, true), (7, true), (8, true), (9, true), (10, true), (3, false), (11, false), (12, false)] 13 (by kernel_rfl) (by kernel_rfl) ⟨_, rfl⟩ ?_; have HM' := Lib.hid (HM.out.below (Below.drew (Below.refl _ _))); have HT' := Lib.hid (HT.out.trans (IT.below (Below.drew (Below.refl _ _)))); clear HM HT; have HM := HM'; have HT := HT'; clear HM' HT'; (repeat (first | (refine wpOrd_quiet rfl (fun K hK => ?_); go_simp; (try simp (disch := omega) only [IntWalk.i64_in, Int.tmod_eq_emod_of_nonneg, Int.tdiv_eq_ediv_of_nonneg]); refine hK _ ?_; clear hK K) | (refine wpOrd_grow rfl (fun K hK => ?_); go_simp; (first | ((first | (go_at_call 102; refine (impl_hexOf _ _ (by omega)).mono ?_) | (go_at_call 147; refine (impl_blockKey _ _ (by omega) (by omega) (by omega) (by omega) _ HM.out.globs).mono ?_)); rintro e w2 ⟨rfl, hb⟩; (replace HM := Lib.hid (HM.out.below hb); replace HT := Lib.hid (HT.out.trans (IT.below hb)); clear hb; (try simp only []))) | (((go_at_call 93; refine (IC.use (impl_lay _ _) (fun _ => True) (fun _ _ => trivial) (by first | exact HL.out | exact HL.out.last) HM.out).mono ?_)); rintro e w2 ⟨x, m2, fp2, rfl, hx, hm, ht, HL2⟩; (replace HM := Lib.hid hm; replace HT := Lib.hid (HT.out.trans ht); clear hm ht; clear HL; have HL := Lib.hid HL2; clear HL2; (try simp only [])))); (try go_simp); refine hK _ _ ⟨_, rfl⟩ ?_; clear hK K))); refine wpOrd_nil ?_)
    (repeat (first | go_skip | go_guarded | go_step | go_upon | go_back))
    rename Int => sz
    have hs0 : n / 8 + 1 = ((((n / 8).toNat + 1 : Nat)) : Int) := by omega
    rw [hs0]
    clear hs0
    have hsb : (n / 8).toNat + 1 ≤ 200 := by omega
    generalize (n / 8).toNat + 1 = s at HL hsb ⊢
    generalize hcd : (sz.toNat + 7) / 8 - s = cnt at HL
    have hlen : (List.range' s cnt).length = cnt := List.length_range'
    go_loopw [8] (fun k wr => ∃ (i : Nat) (m1 : MachD) (fp1 : List Nat), k = .int .i64 ((s + i : Nat) : Int) ∧ i ≤ cnt ∧ IM w0 wr b fp1 m1 ∧ IT w fp wr fp1 ∧ Lft (Mp.each (fun p : Nat => K.lay (K.blockKey id (p : Int)) ⟨#[]⟩) ((List.range' s cnt).drop i) >>= fun _ => K.setNum (K.sizeKey id) n >>= fun _ => pure (0 : Int)) m1 (res, mres)) (fun k _ => cnt - ((intOf k).toNat - s))
    case atStart => exact ⟨0, _, _, rfl, Nat.zero_le _, HM.out, HT.out, HL.out⟩
    case round =>
      clear HL HM HT
      obtain ⟨i, m1, fp1, rfl, hi, hm, ht, hl⟩ := hrel
      have HM := Lib.hid hm
      have HT := Lib.hid ht
      clear hm ht
      by_cases hlt : i < cnt
      case pos =>
        have hl2 := hl.eachB_at (by rw [hlen]; exact hlt)
        rw [List.getElem_range', Nat.one_mul] at hl2
        have HL := Lib.hid hl2
        clear hl hl2
        have hpl : ((s + i : Nat) : Int) * 8 < sz := by omega
        have hpb : ((s + i : Nat) : Int) ≤ 400 := by omega
        generalize hpp : s + i = pl at HL hpl hpb ⊢
        (repeat (first | go_skip | go_guarded | go_step | go_upon | go_back))
        (((((go_at_call 147; refine (impl_blockKey _ _ (by omega) (by omega) (by omega) (by omega) _ HM.out.globs).mono ?_)); rintro e w2 ⟨rfl, hb⟩; (replace HM := Lib.hid (HM.out.below hb); replace HT := Lib.hid (HT.out.trans (IT.below hb)); clear hb; (try simp only [])))))
        (repeat (first | go_skip | go_guarded | go_step | go_upon | go_back))
        (((((go_at_call 93; refine (IC.use (impl_lay _ _) (fun _ => True) (fun _ _ => trivial) (by first | exact HL.out | exact HL.out.last) HM.out).mono ?_)); (rintro e w2 ⟨x, m2, fp2, rfl, hx, hm, ht, HL2⟩); (replace HM := Lib.hid hm; replace HT := Lib.hid (HT.out.trans ht); clear hm ht; clear HL; have HL := Lib.hid HL2; clear HL2; (try simp only []); (all_goals ((repeat' ((rcases HL.out.ite with ⟨hg, HL2⟩ | ⟨hg, HL2⟩ <;> (clear HL; have HL := Lib.hid HL2; clear HL2))))))))))
        (repeat (first | go_skip | go_guarded | go_step | go_upon | go_back))
        go_roundw
        case rel => exact ⟨i + 1, _, _, by have : s + (i + 1) = pl + 1 := by omega
                                           rw [this]; go_num, by omega, HM.out, HT.out, HL.out⟩
        case measure => simp [intOf]; omega
      case neg =>
        have HL := Lib.hid (hl.eachB_end (by rw [hlen]; omega))
        clear hl
        have hpl : ¬ ((s + i : Nat) : Int) * 8 < sz := by omega
        have hpb : ((s + i : Nat) : Int) ≤ 400 := by omega
        generalize hpp : s + i = pl at HL hpl hpb ⊢
        (repeat (first | go_skip | go_guarded | go_step | go_upon | go_back))
        (((((go_at_call 145; refine (impl_sizeKey _ (by omega) (by omega) _ HM.out.globs).mono ?_)); rintro e w2 ⟨rfl, hb⟩; (replace HM := Lib.hid (HM.out.below hb); replace HT := Lib.hid (HT.out.trans (IT.below hb)); clear hb; (try simp only [])))))
        (repeat (first | go_skip | go_guarded | go_step | go_upon | go_back))
        (((((go_at_call 90; refine (IC.use (impl_setNum _ _ (by omega) (by omega)) (fun _ => True) (fun _ _ => trivial) (by first | exact HL.out | exact HL.out.last) HM.out).mono ?_)); (rintro e w2 ⟨x, m2, fp2, rfl, hx, hm, ht, HL2⟩); (replace HM := Lib.hid hm; replace HT := Lib.hid (HT.out.trans ht); clear hm ht; clear HL; have HL := Lib.hid HL2; clear HL2; (try simp only []); (all_goals ((repeat' ((rcases HL.out.ite with ⟨hg, HL2⟩ | ⟨hg, HL2⟩ <;> (clear HL; have HL := Lib.hid HL2; clear HL2))))))))))
        (repeat (first | go_skip | go_guarded | go_step | go_upon | go_back))
        all_goals (obtain ⟨rfl, rfl⟩ := HL.out.end; ((refine bodyPost_ret (by simp [results, Tryz.results99, go_sem]; rfl) rfl ?_)); exact ⟨rfl, _, HM.out, HT.out⟩)
  · skip
    rename Int => sz
    have hs0 : n / 8 = ((((n / 8).toNat : Nat)) : Int) := by omega
    rw [hs0]
    clear hs0
    have hsb : (n / 8).toNat ≤ 200 := by omega
    generalize (n / 8).toNat = s at HL hsb ⊢
    generalize hcd : (sz.toNat + 7) / 8 - s = cnt at HL
    have hlen : (List.range' s cnt).length = cnt := List.length_range'
    go_loopw [8] (fun k wr => ∃ (i : Nat) (m1 : MachD) (fp1 : List Nat), k = .int .i64 ((s + i : Nat) : Int) ∧ i ≤ cnt ∧ IM w0 wr b fp1 m1 ∧ IT w fp wr fp1 ∧ Lft (Mp.each (fun p : Nat => K.lay (K.blockKey id (p : Int)) ⟨#[]⟩) ((List.range' s cnt).drop i) >>= fun _ => K.setNum (K.sizeKey id) n >>= fun _ => pure (0 : Int)) m1 (res, mres)) (fun k _ => cnt - ((intOf k).toNat - s))
    case atStart => exact ⟨0, _, _, rfl, Nat.zero_le _, HM.out, HT.out, HL.out⟩
    case round =>
      clear HL HM HT
      obtain ⟨i, m1, fp1, rfl, hi, hm, ht, hl⟩ := hrel
      have HM := Lib.hid hm
      have HT := Lib.hid ht
      clear hm ht
      by_cases hlt : i < cnt
      case pos =>
        have hl2 := hl.eachB_at (by rw [hlen]; exact hlt)
        rw [List.getElem_range', Nat.one_mul] at hl2
        have HL := Lib.hid hl2
        clear hl hl2
        have hpl : ((s + i : Nat) : Int) * 8 < sz := by omega
        have hpb : ((s + i : Nat) : Int) ≤ 400 := by omega
        generalize hpp : s + i = pl at HL hpl hpb ⊢
        (repeat (first | go_skip | go_guarded | go_step | go_upon | go_back))
        (((((go_at_call 147; refine (impl_blockKey _ _ (by omega) (by omega) (by omega) (by omega) _ HM.out.globs).mono ?_)); rintro e w2 ⟨rfl, hb⟩; (replace HM := Lib.hid (HM.out.below hb); replace HT := Lib.hid (HT.out.trans (IT.below hb)); clear hb; (try simp only [])))))
        (repeat (first | go_skip | go_guarded | go_step | go_upon | go_back))
        (((((go_at_call 93; refine (IC.use (impl_lay _ _) (fun _ => True) (fun _ _ => trivial) (by first | exact HL.out | exact HL.out.last) HM.out).mono ?_)); (rintro e w2 ⟨x, m2, fp2, rfl, hx, hm, ht, HL2⟩); (replace HM := Lib.hid hm; replace HT := Lib.hid (HT.out.trans ht); clear hm ht; clear HL; have HL := Lib.hid HL2; clear HL2; (try simp only []); (all_goals ((repeat' ((rcases HL.out.ite with ⟨hg, HL2⟩ | ⟨hg, HL2⟩ <;> (clear HL; have HL := Lib.hid HL2; clear HL2))))))))))
        (repeat (first | go_skip | go_guarded | go_step | go_upon | go_back))
        go_roundw
        case rel => exact ⟨i + 1, _, _, by have : s + (i + 1) = pl + 1 := by omega
                                           rw [this]; go_num, by omega, HM.out, HT.out, HL.out⟩
        case measure => simp [intOf]; omega
      case neg =>
        have HL := Lib.hid (hl.eachB_end (by rw [hlen]; omega))
        clear hl
        have hpl : ¬ ((s + i : Nat) : Int) * 8 < sz := by omega
        have hpb : ((s + i : Nat) : Int) ≤ 400 := by omega
        generalize hpp : s + i = pl at HL hpl hpb ⊢
        (repeat (first | go_skip | go_guarded | go_step | go_upon | go_back))
        (((((go_at_call 145; refine (impl_sizeKey _ (by omega) (by omega) _ HM.out.globs).mono ?_)); rintro e w2 ⟨rfl, hb⟩; (replace HM := Lib.hid (HM.out.below hb); replace HT := Lib.hid (HT.out.trans (IT.below hb)); clear hb; (try simp only [])))))
        (repeat (first | go_skip | go_guarded | go_step | go_upon | go_back))
        (((((go_at_call 90; refine (IC.use (impl_setNum _ _ (by omega) (by omega)) (fun _ => True) (fun _ _ => trivial) (by first | exact HL.out | exact HL.out.last) HM.out).mono ?_)); (rintro e w2 ⟨x, m2, fp2, rfl, hx, hm, ht, HL2⟩); (replace HM := Lib.hid hm; replace HT := Lib.hid (HT.out.trans ht); clear hm ht; clear HL; have HL := Lib.hid HL2; clear HL2; (try simp only []); (all_goals ((repeat' ((rcases HL.out.ite with ⟨hg, HL2⟩ | ⟨hg, HL2⟩ <;> (clear HL; have HL := Lib.hid HL2; clear HL2))))))))))
        (repeat (first | go_skip | go_guarded | go_step | go_upon | go_back))
        all_goals (obtain ⟨rfl, rfl⟩ := HL.out.end; ((refine bodyPost_ret (by simp [results, Tryz.results99, go_sem]; rfl) rfl ?_)); exact ⟨rfl, _, HM.out, HT.out⟩)
structure GSt {α : Type} (R : RowOf α) (w : World) (m2 : MachD) (s0 s2 : Value) (wr : World) (m1 : MachD) (a1 : Option Addr) (n1 : Nat) (o : Value) (xs : List α) (t : TypeId) : Prop where
 bel : Below w.heap.size w wr
 at0 : wr.heap[w.heap.size]? = some (.cells #[s0, .slice a1 m1.rd.length n1, s2] 60)
 at1 : wr.heap[w.heap.size + 1]? = some (.cells #[.slice none 0 0, .slice none 0 0, .slice none 0 0] 60)
 r0 : RdL rCell wr s0 m2.cells
 r1 : RdL rStr wr (.slice a1 m1.rd.length n1) m1.rd
 r2 : RdL rStr wr s2 m2.wr
 own : OwnL R t wr (w.heap.size + 2) o xs
 o0 : Off m2.cells s0 o
 o1 : Off m1.rd (.slice a1 m1.rd.length n1) o
 o2 : Off m2.wr s2 o
 cl : m1.cells = m2.cells
 wl : m1.wr = m2.wr
theorem GSt.app {α : Type} {R : RowOf α} {w : World} {m2 : MachD} {s0 s2 : Value} {wr : World} {m1 : MachD} {a1 : Option Addr} {n1 : Nat} {o : Value} {xs xs' : List α} {t : TypeId} (h : GSt R w m2 s0 s2 wr m1 a1 n1 o xs t) {c : Obj} {v7 : Value} {w7 : World} (hown : OwnL R t w7 (w.heap.size + 2) v7 xs') (hg : (wr.alloc c).grownBy w7 o.ownBlock) (hfr : v7.ownBlock = o.ownBlock ∨ v7.ownBlock = some (wr.alloc c).heap.size) : GSt R w m2 s0 s2 w7 m1 a1 n1 v7 xs' t := by
 have hlt := fun k hk => h.own.lt k hk
 have k0 := h.r0.alloc c
 have k1 := h.r1.alloc c
 have k2 := h.r2.alloc c
 refine ⟨Below.appL (h.bel.ofAlloc _) hg (OwnL.base (h.own.alloc _) (by omega)), ?_, ?_, k0.keptO h.o0 hg, k1.keptO h.o1 hg, k2.keptO h.o2 hg, hown, h.o0.next (by decide) k0 hfr, h.o1.next (by decide) k1 hfr, h.o2.next (by decide) k2 hfr, h.cl, h.wl⟩
 ·have hz := World.lt_of_get h.at0
  exact (hg.block _ (by simp; omega) (fun e => by have := (hlt _ e.symm).1; omega)).trans ((heap_alloc_old _ _ hz).trans h.at0)
 ·have hz := World.lt_of_get h.at1
  exact (hg.block _ (by simp; omega) (fun e => by have := (hlt _ e.symm).1; omega)).trans ((heap_alloc_old _ _ hz).trans h.at1)
theorem Tryz.elemByteQ : Elem Tryz.prog 78 5 1 1 := Elem.of (.int .u8 0) Tryz.underlying78 (by kernel_rfl) rfl (by decide)
theorem Tryz.byteTQ : ByteT Tryz.prog 78 5 := Tryz.byteT
theorem sl_bytes {w : World} {v : Value} {l : List UInt8} (h : RdL rByte w v l) : Sl w v l.length (bytesOf l) := by
 have h1 : Sl w v l.length (l.flatMap rByte.row) := h
 rwa [flat_B] at h1
theorem bytes_drew {W : World} {B : Nat} {oa : Option Addr} {oc : Nat} {out : ByteArray} (h : OwnL rByte 5 W B (.slice oa out.data.toList.length oc) out.data.toList) : Sem.run Tryz.prog (convert 78 9 (.slice oa out.size oc)) W.drew = .ok (.string out) W.drew := by
 have h1 := run_string_of (P := Tryz.prog) W.drew Tryz.byteTQ Tryz.underlying9 (sl_bytes (RdL.drew h.rd))
 rw [show out.data.toList.length = out.size by simp, show (⟨out.data.toList.toArray⟩ : ByteArray) = out from strOf_data out] at h1
 exact h1
def cutG (l : List UInt8) (lo hi i : Nat) : List UInt8 := (l.take (min i hi)).drop lo
theorem cutG_yes {l : List UInt8} {lo hi i : Nat} (hl : i < l.length) (h1 : lo ≤ i) (h2 : i < hi) : cutG l lo hi (i + 1) = cutG l lo hi i ++ [l[i]] := by
 unfold cutG
 rw [Nat.min_eq_left (by omega), Nat.min_eq_left (by omega), List.take_succ_eq_append_getElem hl, List.drop_append_of_le_length (by rw [List.length_take]; omega)]
theorem cutG_no {l : List UInt8} {lo hi i : Nat} (h : ¬ (lo ≤ i ∧ i < hi)) : cutG l lo hi (i + 1) = cutG l lo hi i := by
 unfold cutG
 by_cases h2 : i < hi
 ·rw [Nat.min_eq_left (by omega), Nat.min_eq_left (by omega), List.drop_eq_nil_of_le (by rw [List.length_take]; omega), List.drop_eq_nil_of_le (by rw [List.length_take]; omega)]
 ·rw [Nat.min_eq_right (by omega), Nat.min_eq_right (by omega)]
theorem cutG_zero (l : List UInt8) (lo hi : Nat) : cutG l lo hi 0 = [] := by
 unfold cutG
 rw [Nat.zero_min]
 simp
theorem cutG_end (s : ByteArray) (lo hi i : Nat) (h : hi ≤ i) : strOf (cutG s.data.toList lo hi i) = s.extract lo hi := by
 unfold cutG
 rw [Nat.min_eq_right h]
 have e := cut_list s lo hi
 have e2 : (s.data.toList.take hi).drop lo = (s.data.toList.drop lo).take (hi - lo) := List.drop_take
 rw [e2, ← e, strOf_data]
theorem rb_out (out s : ByteArray) (lo hi i : Nat) (h : hi ≤ i) : (if lo < hi then out ++ s.extract lo hi else out).data.toList = out.data.toList ++ cutG s.data.toList lo hi i := by
 split
 ·rw [← cutG_end s lo hi i h]
  simp [strOf]
 ·rename_i hn
  unfold cutG
  rw [List.drop_eq_nil_of_le (by rw [List.length_take]; omega)]
  simp
theorem rb_size {out s : ByteArray} {lo hi : Nat} {n : Nat} (h : out.size ≤ n) (hh : hi ≤ 8) : (if lo < hi then out ++ s.extract lo hi else out).size ≤ n + 8 := by
 split
 ·rw [ByteArray.size_append, ByteArray.size_extract]; omega
 ·omega
theorem spec_l07ReadFile (id : Int) (id0 : -9223372036854775808 ≤ id) (id1 : id ≤ 9223372036854775807) (a : Int) (aa0 : -9223372036854775808 ≤ a) (aa1 : a ≤ 9223372036854775807) (n : Int) (n0 : -9223372036854775808 ≤ n) (n1 : n ≤ 9223372036854775807) : SC 121 (fun x => #[x, .int .i64 id, .int .i64 a, .int .i64 n]) (K.readFile id a n) (fun v' t => .tuple #[v', .string t]) := by
 refine SCgo (fun w m a0 c0 a1 c1 a2 c2 res mres H0 H1 H2 HL => ?_)
 unfold K.readFile at HL
 go_enter Tryz.func121, Tryz.ntmps121
 (try simp only [])
 ((repeat (first | ((with_reducible refine opqM2 w (.cells #[.slice a0 m.cells.length c0, .slice a1 m.rd.length c1, .slice a2 m.wr.length c2] 60) (.cells #[.slice none 0 0, .slice none 0 0, .slice none 0 0] 60) ?_ ?_); (· with_reducible exact box_first w (.cells #[.slice a0 m.cells.length c0, .slice a1 m.rd.length c1, .slice a2 m.wr.length c2] 60) (.cells #[.slice none 0 0, .slice none 0 0, .slice none 0 0] 60) (by repeat (first | with_reducible exact Below.refl _ _ | with_reducible apply Below.ofAlloc)))) | go_skip | go_guarded | go_step | go_upon | go_back)); (rintro w1 ⟨B, P, R⟩; have Z := World.lt_of_get R; have e1 := setB_two P R; rw [← e1]; have HW0 := Lib.hid (fun o r => H0.out.below (S_of B o r)); have HW1 := Lib.hid (fun o r => H1.out.below (S_of B o r)); have HW2 := Lib.hid (fun o r => H2.out.below (S_of B o r)); have Zp := Nat.lt_of_succ_lt Z; clear e1 P R H0 H1 H2; ((repeat' ((rcases HL.out.ite with ⟨hg, HL2⟩ | ⟨hg, HL2⟩ <;> (clear HL; have HL := Lib.hid HL2; clear HL2)))))))
 ((repeat' (first | go_skip | go_guarded | go_step | go_upon | go_back | ((((go_at_call 155; refine (SC.use (spec_l07SizeFile _ (by omega) (by omega)) (fun a => 0 ≤ a ∧ a ≤ 999) (fun m _ => num_bd _ m) (by first | exact HL.out | exact HL.out.last) (⟨_, _, _, rfl, HW0.out _ _, HW1.out _ _, HW2.out _ _⟩ : MRd _ _ _)).mono ?_)); (rintro e w2 ⟨v2, x, m2, rfl, hx, hm, hb, HL2⟩); (obtain ⟨b0, d0, b1, d1, b2, d2, rfl, q0, q1, q2⟩ := hm.form; obtain ⟨B', P, R, Z', Zx⟩ := box_later B Z hb; clear Zx; clear hm hb; (clear HW0 HW1 HW2 B Z; have e1 := setB_two P R; rw [← e1]; clear e1; have HW0 := Lib.hid (fun o r => rdl_two (str_cells _) q0 P R o r); have HW1 := Lib.hid (fun o r => rdl_two (str_strs _) q1 P R o r); have HW2 := Lib.hid (fun o r => rdl_two (str_strs _) q2 P R o r); have B := B'; have Z := Z'; (try clear Zp); have Zp := Nat.lt_of_succ_lt Z; clear B' Z' P R q0 q1 q2; (try simp only [])); clear HL; have HL := Lib.hid HL2; clear HL2; (all_goals ((repeat' ((rcases HL.out.ite with ⟨hg, HL2⟩ | ⟨hg, HL2⟩ <;> (clear HL; have HL := Lib.hid HL2; clear HL2; try first | (have hgz : _ ∨ _ := hg; clear hg; rcases hgz with hg | hg <;> (skip)) | (have hgz := not_or.1 hg; clear hg; obtain ⟨hg, hgo⟩ := hgz; try replace hgo := Decidable.not_not.1 hgo)))))))))) | (refine wp_region_ordU (id := 19) [(0, true)] 3 (by kernel_rfl) (by kernel_rfl) ?_; (repeat (fail)); have Q0' := Q0.out; have Q1' := Q1.out; have Q2' := Q2.out; clear Q0 Q1 Q2; refine wpOrd_nilT w m2 f0 g0 f1 g1 f2 g2 ⟨(S_of B _ _).ofExt _, (two_ext Z _ _ _).1, (two_ext Z _ _ _).2, both_set (str_cells _) Z Q0' _ _, both_set (str_strs _) Z Q1' _ _, both_set (str_strs _) Z Q2' _ _, World.lt_of_get (two_ext Z _ _ _).2⟩ ?_; clear Q0' Q1' Q2'; rintro w3 ⟨B', P, R, q0, q1, q2, Z'⟩; (clear HW0 HW1 HW2 B Z; have e1 := setB_two P R; rw [← e1]; clear e1; have HW0 := Lib.hid (fun o r => rdl_two (str_cells _) q0 P R o r); have HW1 := Lib.hid (fun o r => rdl_two (str_strs _) q1 P R o r); have HW2 := Lib.hid (fun o r => rdl_two (str_strs _) q2 P R o r); have B := B'; have Z := Z'; (try clear Zp); have Zp := Nat.lt_of_succ_lt Z; clear B' Z' P R q0 q1 q2); (all_goals ((repeat' ((rcases HL.out.ite with ⟨hg, HL2⟩ | ⟨hg, HL2⟩ <;> (clear HL; have HL := Lib.hid HL2; clear HL2))))))) | (exfalso; (simp only [bne_eq_false_iff_eq, beq_eq_false_iff_ne, beq_iff_eq, bne_iff_ne] at *); omega))))
 all_goals first
  | (obtain ⟨rfl, rfl⟩ := HL.out.end; refine bodyPost_ret (by simp [results, Tryz.results121, go_sem, Z]; rfl) rfl ?_; exact ⟨_, rfl, ⟨_, _, _, rfl, HW0.out _ _, HW1.out _ _, HW2.out _ _⟩, S_of B _ _⟩)
  | skip
 all_goals (
  rename Int => sz
  have ha : 0 ≤ a := by omega
  obtain ⟨na, rfl⟩ := Int.eq_ofNat_of_zero_le ha
  rw [Int.toNat_natCast] at HL
  have hbz : (((na : Int) + min n (sz - na)).toNat : Int) = na + min n (sz - na) := by omega
  generalize (((na : Int) + min n (sz - na)).toNat) = b at HL hbz
  first
   | have hend : (na : Int) + n ≤ b ∧ (b : Int) ≤ na + n := by omega
   | have hend : sz ≤ (b : Int) ∧ (b : Int) ≤ sz := by omega
  have hbs : (b : Int) ≤ 999 ∧ (na : Int) < b := by omega
  clear hbz
  unfold K.places at HL
  generalize hcd : (b + 7) / 8 - na / 8 = cnt at HL
  have hlen : (List.range' (na / 8) cnt).length = cnt := List.length_range'
  have hz : w.heap.size + 2 ≤ w2.heap.size := Z
  (try generalize decide (n < 1) = bb1)
  (try generalize decide (sz ≤ (na : Int)) = bb2)
  (try generalize (bb1 || bb2) = bb4)
  (try generalize decide (n < sz - (na : Int)) = bb3)
  go_loopw [12, 13, 14, 15, 16] (fun o k u14 u15 u16 wr => ∃ (i : Nat) (out : ByteArray) (m1 : MachD) (a1 : Option Addr) (n1 : Nat), k = .int .i64 ((na / 8 + i : Nat) : Int) ∧ i ≤ cnt ∧ out.size ≤ 8 * i ∧ GSt rByte w m2 (.slice b0 m2.cells.length d0) (.slice b2 m2.wr.length d2) wr m1 a1 n1 o out.data.toList 5 ∧ Lft (Mp.fold (K.readBlock id na b) out ((List.range' (na / 8) cnt).drop i) >>= pure) m1 (res, mres)) (fun _ k _ _ _ _ => cnt - ((intOf k).toNat - na / 8))
  case atStart =>
   refine ⟨0, ⟨#[]⟩, m2, b1, d1, rfl, Nat.zero_le _, Nat.le_refl _, ⟨(S_of B _ _).ofAlloc _, ?_, ?_, (HW0.out _ _).alloc _, (HW1.out _ _).alloc _, (HW2.out _ _).alloc _, ?_, ?_, ?_, ?_, rfl, rfl⟩, HL.out.last⟩
   ·have h := (two_at Z (.cells #[.slice b0 m2.cells.length d0, .slice b1 m2.rd.length d1, .slice b2 m2.wr.length d2] 60) (.cells #[.slice none 0 0, .slice none 0 0, .slice none 0 0] 60)).1
    exact (heap_alloc_old _ _ (World.lt_of_get h)).trans h
   ·have h := (two_at Z (.cells #[.slice b0 m2.cells.length d0, .slice b1 m2.rd.length d1, .slice b2 m2.wr.length d2] 60) (.cells #[.slice none 0 0, .slice none 0 0, .slice none 0 0] 60)).2
    exact (heap_alloc_old _ _ (World.lt_of_get h)).trans h
   ·have h := OwnL.empty rByte 5 ((w2.setB (w.heap.size + 1) (.cells #[.slice none 0 0, .slice none 0 0, .slice none 0 0] 60)).setB w.heap.size (.cells #[.slice b0 m2.cells.length d0, .slice b1 m2.rd.length d1, .slice b2 m2.wr.length d2] 60))
    rw [World.setB_size, World.setB_size] at h
    exact OwnL.base h hz
   ·exact Off.fresh (by decide) (HW0.out (.cells #[] 0) (.cells #[] 0)) (fun k hk => by cases hk; rw [World.setB_size, World.setB_size]; exact Nat.le_refl _)
   ·exact Off.fresh (by decide) (HW1.out (.cells #[] 0) (.cells #[] 0)) (fun k hk => by cases hk; rw [World.setB_size, World.setB_size]; exact Nat.le_refl _)
   ·exact Off.fresh (by decide) (HW2.out (.cells #[] 0) (.cells #[] 0)) (fun k hk => by cases hk; rw [World.setB_size, World.setB_size]; exact Nat.le_refl _)
  case round =>
   clear HL
   obtain ⟨i, out, m1, a1, n1, rfl, hi, hos, hst, hl⟩ := hrel
   (obtain ⟨B', P, R, q0, q1, q2, qo, f0, f1, f2, hcl, hwl⟩ := hst; have Z' := World.lt_of_get R; obtain ⟨oa, oc, rfl⟩ := qo.rd.form; have HF := Lib.hid (And.intro f0 (And.intro f1 (And.intro f2 (And.intro hcl hwl)))); clear f0 f1 f2 hcl hwl; (try clear HW0) ; (try clear HW1); (try clear HW2); (try clear HO); (try clear B); (try clear Z); (try clear Zp); have e1 := setB_two P R; rw [← e1]; clear e1; have HW0 := Lib.hid (fun o r => rdl_two (str_cells _) q0 P R o r); have HW1 := Lib.hid (fun o r => rdl_two (str_strs _) q1 P R o r); have HW2 := Lib.hid (fun o r => rdl_two (str_strs _) q2 P R o r); have HO := Lib.hid (fun o r => two_own qo (p := w.heap.size) (by omega) o r); have B := B'; have Z := Z'; have Zp := Nat.lt_of_succ_lt Z; clear B' Z' P R q0 q1 q2 qo)
   by_cases hlt : i < cnt
   case neg =>
    have HL := Lib.hid (Lft.fold_end (κ := pure) (by rw [hlen]; omega) hl)
    clear hl
    have hpl : ¬ ((na / 8 + i : Nat) : Int) * 8 < (b : Int) := by omega
    have hpb : ((na / 8 + i : Nat) : Int) ≤ 400 := by omega
    generalize hpp : na / 8 + i = pl at hpl hpb ⊢
    have HC := Lib.hid (fun o r => bytes_drew (HO.out o r))
    (repeat (first | go_skip | go_guarded | go_step | go_upon | go_back))
    obtain ⟨rfl, rfl⟩ := HL.out.end
    have hc := HC.out
    go_region
    all_goals (repeat (first | go_skip | go_guarded | go_step | go_upon | go_back))
    all_goals (
     refine bodyPost_ret (by simp [results, Tryz.results121, go_sem, Z]; rfl) rfl ?_
     have hcl := HF.out.2.2.2.1
     have hwl := HF.out.2.2.2.2
     exact ⟨_, rfl, ⟨_, _, _, rfl, by rw [hcl]; exact HW0.out _ _, HW1.out _ _, by rw [hwl]; exact HW2.out _ _⟩, by first | exact S_of B _ _ | exact Below.drew (S_of B _ _)⟩)
   case pos =>
    have hl2 := Lft.fold_at (κ := pure) (by rw [hlen]; exact hlt) hl
    rw [List.getElem_range', Nat.one_mul] at hl2
    unfold K.readBlock at hl2
    rw [Mp.bind_assoc] at hl2
    have HL := Lib.hid hl2
    clear hl hl2
    have hpl : ((na / 8 + i : Nat) : Int) * 8 < (b : Int) := by omega
    have hpb : ((na / 8 + i : Nat) : Int) ≤ 400 := by omega
    have hpm : cnt - (((na / 8 + i : Nat) + 1) - na / 8) < cnt - ((na / 8 + i : Nat) - na / 8) := by omega
    have hpn : na / 8 + (i + 1) = na / 8 + i + 1 := by omega
    generalize hpp : na / 8 + i = pl at HL hpl hpb hpm hpn ⊢
    have hcl := HF.out.2.2.2.1
    have hwl := HF.out.2.2.2.2
    (repeat (first | go_skip | go_guarded | go_step | go_upon | go_back))
    (go_at_call 156; refine (SCA.use (specA_l07BlockOf _ (by omega) (by omega) _ (by omega) (by omega)) (looks_block _ _) (fun a => a.size ≤ 20000) (fun m _ => unhexT_size _) HL.out (by rw [hcl]; exact HW0.out _ _) (HW1.out _ _) (by rw [hwl]; exact HW2.out _ _)).mono ?_)
    rintro e w5 ⟨a3, n3, s, m3, rfl, hsz, ho3, hb, hcw, HL2⟩
    have hoff := Off.later (xs := m3.rd) ho3 (fun k hk => ((HO.out _ _).lt k hk).2)
    have q0 := (HW0.out _ _).below hb
    have q1 := ho3.rd
    have q2 := (HW2.out _ _).below hb
    have qo := own_belM (HO.out _ _) hb
    have HF := Lib.hid (And.intro HF.out.1 (And.intro hoff (And.intro HF.out.2.2.1 (And.intro (hcw.1.trans hcl) (hcw.2.trans hwl)))))
    obtain ⟨B', P, R, Z', Zx⟩ := box_later B Z hb
    clear Zx hb ho3 hcl hwl hcw hoff
    (try dsimp only at HL2); clear HL; have HL := Lib.hid HL2; clear HL2
    (clear HW0 HW1 HW2 HO B Z Zp; have e1 := setB_two P R; rw [← e1]; clear e1; have HW0 := Lib.hid (fun o r => rdl_two (str_cells _) q0 P R o r); have HW1 := Lib.hid (fun o r => rdl_two (str_strs _) q1 P R o r); have HW2 := Lib.hid (fun o r => rdl_two (str_strs _) q2 P R o r); have HO := Lib.hid (fun o r => two_own qo (p := w.heap.size) (by omega) o r); have B := B'; have Z := Z'; have Zp := Nat.lt_of_succ_lt Z; clear B' Z' P R q0 q1 q2 qo; (try simp only []))
    (repeat (first | go_skip | go_guarded | go_step | go_upon | go_back))
    have hsl : s.data.toList.length = s.size := by simp
    obtain ⟨xs, hxs⟩ : ∃ xs, xs = out.data.toList := ⟨_, rfl⟩
    rw [← hxs] at HO HF ⊢
    have hxl : xs.length ≤ 8 * cnt := by rw [hxs]; simp; omega
    have HX := Lib.hid hxs
    clear hxs
    generalize hlo : na - pl * 8 = lo
    generalize hhi : min (b - pl * 8) (min 8 s.size) = hi
    have hoR := HL.out
    rw [hlo, hhi] at hoR
    clear HL
    have HL := Lib.hid hoR
    clear hoR
    have hm : min 8 s.size ≤ 8 := Nat.min_le_left _ _
    generalize hmm : min 8 s.size = mm at hm hhi
    have hmz : (mm : Int) ≤ s.size := by omega
    (try generalize decide ((pl : Int) * 8 < (na : Int) + n) = bb5)
    (try generalize decide ((pl : Int) * 8 < sz) = bb5)
    go_loopw [12, 15, 16] (fun o k u16 wr => ∃ (j : Nat) (ys : List UInt8), k = .int .i64 j ∧ j ≤ mm ∧ ys = xs ++ cutG s.data.toList lo hi j ∧ ys.length ≤ xs.length + j ∧ GSt rByte w m2 (.slice b0 m2.cells.length d0) (.slice b2 m2.wr.length d2) wr m3 a3 n3 o ys 5) (fun _ k _ _ => mm - (intOf k).toNat)
    case atStart => exact ⟨0, xs, rfl, Nat.zero_le _, by rw [cutG_zero, List.append_nil], Nat.le_refl _, (⟨S_of B _ _, (two_at Z _ _).1, (two_at Z _ _).2, HW0.out _ _, HW1.out _ _, HW2.out _ _, HO.out _ _, HF.out.1, HF.out.2.1, HF.out.2.2.1, HF.out.2.2.2.1, HF.out.2.2.2.2⟩ : GSt _ _ _ _ _ _ _ _ _ _ _ _)⟩
    case round =>
     obtain ⟨j, ys, rfl, hj, hys, hyl, hst⟩ := hrel
     (obtain ⟨B', P, R, q0, q1, q2, qo, f0, f1, f2, hcl, hwl⟩ := hst; have Z' := World.lt_of_get R; obtain ⟨oa, oc, rfl⟩ := qo.rd.form; have HF := Lib.hid (And.intro f0 (And.intro f1 (And.intro f2 (And.intro hcl hwl)))); clear f0 f1 f2 hcl hwl; (try clear HW0) ; (try clear HW1); (try clear HW2); (try clear HO); (try clear B); (try clear Z); (try clear Zp); have e1 := setB_two P R; rw [← e1]; clear e1; have HW0 := Lib.hid (fun o r => rdl_two (str_cells _) q0 P R o r); have HW1 := Lib.hid (fun o r => rdl_two (str_strs _) q1 P R o r); have HW2 := Lib.hid (fun o r => rdl_two (str_strs _) q2 P R o r); have HO := Lib.hid (fun o r => two_own qo (p := w.heap.size) (by omega) o r); have B := B'; have Z := Z'; have Zp := Nat.lt_of_succ_lt Z; clear B' Z' P R q0 q1 q2 qo)
     have HYS := Lib.hid hys
     clear hys
     by_cases hjl : j < mm
     case neg =>
      have hj2 : (s.size : Int) ≤ j ∨ ((j : Int) < s.size ∧ (8 : Int) ≤ j) := by omega
      have hjm : j = mm := by omega
      have ho := rb_out out s lo hi j (by omega)
      rw [HX.out.symm, ← HYS.out] at ho
      have hos2 := rb_size (s := s) (lo := lo) (n := 8 * i) hos (show hi ≤ 8 by omega)
      have HOUT := Lib.hid ho
      clear ho hjm
      generalize hout : (if lo < hi then out ++ s.extract lo hi else out) = out2 at HL HOUT hos2
      clear hout
      rcases hj2 with hj2 | ⟨hj2, hj3⟩
      all_goals (
       (repeat (first | go_skip | go_guarded | go_step | go_upon | go_back))
       go_roundw
       case rel => exact ⟨i + 1, out2, m3, a3, n3, by rw [hpn]; go_num, by omega, by omega, by rw [HOUT.out]; exact (⟨S_of B _ _, (two_at Z _ _).1, (two_at Z _ _).2, HW0.out _ _, HW1.out _ _, HW2.out _ _, HO.out _ _, HF.out.1, HF.out.2.1, HF.out.2.2.1, HF.out.2.2.2.1, HF.out.2.2.2.2⟩ : GSt _ _ _ _ _ _ _ _ _ _ _ _), HL.out⟩
       case measure => simp [intOf]; omega)
     case pos =>
      have hjs : j < s.size := by omega
      have hjs2 : (j : Int) < s.size := by omega
      have hj8 : (j : Int) < 8 := by omega
      by_cases hk2 : (na : Int) ≤ (pl : Int) * 8 + j
      case neg =>
       have HCG := Lib.hid (cutG_no (l := s.data.toList) (lo := lo) (hi := hi) (i := j) (by omega))
       (repeat (first | go_skip | go_guarded | go_step | go_upon | go_back))
       go_roundw
       case rel => exact ⟨j + 1, ys, by go_num, by omega, by rw [HCG.out]; exact HYS.out, by omega, (⟨S_of B _ _, (two_at Z _ _).1, (two_at Z _ _).2, HW0.out _ _, HW1.out _ _, HW2.out _ _, HO.out _ _, HF.out.1, HF.out.2.1, HF.out.2.2.1, HF.out.2.2.2.1, HF.out.2.2.2.2⟩ : GSt _ _ _ _ _ _ _ _ _ _ _ _)⟩
       case measure => simp [intOf]; omega
      case pos =>
       by_cases hk3 : (pl : Int) * 8 + j < b
       case neg =>
        have HCG := Lib.hid (cutG_no (l := s.data.toList) (lo := lo) (hi := hi) (i := j) (by omega))
        (repeat (first | go_skip | go_guarded | go_step | go_upon | go_back))
        go_roundw
        case rel => exact ⟨j + 1, ys, by go_num, by omega, by rw [HCG.out]; exact HYS.out, by omega, (⟨S_of B _ _, (two_at Z _ _).1, (two_at Z _ _).2, HW0.out _ _, HW1.out _ _, HW2.out _ _, HO.out _ _, HF.out.1, HF.out.2.1, HF.out.2.2.1, HF.out.2.2.2.1, HF.out.2.2.2.2⟩ : GSt _ _ _ _ _ _ _ _ _ _ _ _)⟩
        case measure => simp [intOf]; omega
       case pos =>
        have HCG := Lib.hid (cutG_yes (l := s.data.toList) (lo := lo) (hi := hi) (i := j) (by rw [hsl]; exact hjs) (by omega) (by omega))
        have hgc : s.data.toList[j]'(by rw [hsl]; exact hjs) = s[j] := rfl
        have HGC := Lib.hid hgc
        clear hgc
        go_wp2_with (at_builtin; refine Stop.here ?_)
        refine wpList_appF rfl _ _ _ rfl Tryz.elemByteQ ((HO.out _ _).alloc _) rfl (RdL.oneAt rByte _ s[j] _ rfl _ _ (by rw [World.setB_size, World.setB_size])) rfl (by simp only [List.length_singleton]; omega) (by simp only [List.length_singleton]; unfold maxLen; omega) (by simp [World.setB_size]; omega) ?_
        intro v7 w7 hown hg hfr
        have HG := Lib.hid (GSt.app ((⟨S_of B _ _, (two_at Z _ _).1, (two_at Z _ _).2, HW0.out _ _, HW1.out _ _, HW2.out _ _, HO.out _ _, HF.out.1, HF.out.2.1, HF.out.2.2.1, HF.out.2.2.2.1, HF.out.2.2.2.2⟩ : GSt _ _ _ _ _ _ _ _ _ _ _ _) : GSt rByte w m2 _ _ _ m3 a3 n3 _ ys 5) hown hg hfr)
        clear hown hg hfr
        ((try simp only []); repeat (first | go_skip | go_guarded | go_step | go_upon | go_back))
        go_roundw
        case rel => exact ⟨j + 1, ys ++ [s[j]], by go_num, by omega, by rw [HCG.out, HGC.out, HYS.out, List.append_assoc], by simp; omega, HG.out⟩
        case measure => simp [intOf]; omega)
theorem impl_readFile (id : Int) (id0 : -9223372036854775808 ≤ id) (id1 : id ≤ 9223372036854775807) (a : Int) (aa0 : -9223372036854775808 ≤ a) (aa1 : a ≤ 9223372036854775807) (n : Int) (n0 : -9223372036854775808 ≤ n) (n1 : n ≤ 9223372036854775807) : IC 97 (fun x => #[x, .int .i64 id, .int .i64 a, .int .i64 n]) (K.readFile id a n) (fun t => .string t) := by
 refine ICgo (fun w0 w fp mb m res mres HM HT HL => ?_)
 unfold K.readFile at HL
 go_enter Tryz.func97, Tryz.ntmps97
 (try simp only [])
 (repeat (first | go_skip | go_guarded | go_step | go_upon | go_back))
 ((((go_at_call 145; refine (impl_sizeKey _ (by omega) (by omega) _ HM.out.globs).mono ?_); rintro e w2 ⟨rfl, hb⟩; (replace HM := Lib.hid (HM.out.below hb); replace HT := Lib.hid (HT.out.trans (IT.below hb)); clear hb; (try simp only [])))))
 (repeat (first | go_skip | go_guarded | go_step | go_upon | go_back))
 (((((go_at_call 84; refine (IC.use (impl_num _) (fun a => 0 ≤ a ∧ a ≤ 999) (fun m _ => num_bd _ m) (by first | exact HL.out | exact HL.out.last) HM.out).mono ?_)); (rintro e w2 ⟨x, m2, fp2, rfl, hx, hm, ht, HL2⟩); (replace HM := Lib.hid hm; replace HT := Lib.hid (HT.out.trans ht); clear hm ht; clear HL; have HL := Lib.hid HL2; clear HL2; (try simp only []); (all_goals ((repeat' ((rcases HL.out.ite with ⟨hg, HL2⟩ | ⟨hg, HL2⟩ <;> (clear HL; have HL := Lib.hid HL2; clear HL2; try first | (have hgz : _ ∨ _ := hg; clear hg; rcases hgz with hg | hg <;> (skip)) | (have hgz := not_or.1 hg; clear hg; obtain ⟨hg, hgo⟩ := hgz; try replace hgo := Decidable.not_not.1 hgo)))))))))))
 all_goals (repeat' (first | go_skip | go_guarded | go_step | go_upon | go_back))
 all_goals first
  | (obtain ⟨rfl, rfl⟩ := HL.out.end; refine bodyPost_ret (by simp [results, Tryz.results97, go_sem]; rfl) rfl ?_; exact ⟨rfl, _, HM.out, HT.out⟩)
  | skip
 obtain ⟨hgn, hgs⟩ := not_or.1 hgo
 clear hgo
 rename Int => sz
 have ha : 0 ≤ a := by omega
 obtain ⟨na, rfl⟩ := Int.eq_ofNat_of_zero_le ha
 rw [Int.toNat_natCast] at HL
 have hbz : (((na : Int) + min n (sz - na)).toNat : Int) = na + min n (sz - na) := by omega
 generalize (((na : Int) + min n (sz - na)).toNat) = b at HL hbz
 rw [← hbz]
 have hbs : (b : Int) ≤ 999 ∧ (na : Int) < b := by omega
 generalize min n (sz - (na : Int)) = mn
 clear hbz
 unfold K.places at HL
 generalize hcd : (b + 7) / 8 - na / 8 = cnt at HL
 have hlen : (List.range' (na / 8) cnt).length = cnt := List.length_range'
 generalize decide (n < 1) = bb1
 generalize decide (sz ≤ (na : Int)) = bb2
 generalize (bb1 || bb2) = bb4
 go_loopw [11, 12, 13, 14, 15] (fun o k _ _ _ wr => ∃ (i : Nat) (out : ByteArray) (m1 : MachD) (fp1 : List Nat), k = .int .i64 ((na / 8 + i : Nat) : Int) ∧ i ≤ cnt ∧ out.size ≤ 8 * i ∧ o = .string out ∧ IM w0 wr mb fp1 m1 ∧ IT w fp wr fp1 ∧ Lft (Mp.fold (K.readBlock id na b) out ((List.range' (na / 8) cnt).drop i) >>= pure) m1 (res, mres)) (fun _ k _ _ _ _ => cnt - ((intOf k).toNat - na / 8))
 case atStart => exact ⟨0, ⟨#[]⟩, _, _, rfl, Nat.zero_le _, Nat.le_refl _, rfl, HM.out, HT.out, HL.out.last⟩
 case round =>
  clear HL HM HT
  obtain ⟨i, out, m1, fp1, rfl, hi, hos, rfl, hm, ht, hl⟩ := hrel
  have HM := Lib.hid hm
  have HT := Lib.hid ht
  clear hm ht
  by_cases hlt : i < cnt
  case neg =>
   have HL := Lib.hid (Lft.fold_end (κ := pure) (by rw [hlen]; omega) hl)
   clear hl
   have hpl : ¬ ((na / 8 + i : Nat) : Int) * 8 < (b : Int) := by omega
   have hpb : ((na / 8 + i : Nat) : Int) ≤ 400 := by omega
   generalize hpp : na / 8 + i = pl at hpl hpb ⊢
   (repeat (first | go_skip | go_guarded | go_step | go_upon | go_back))
   all_goals (obtain ⟨rfl, rfl⟩ := HL.out.end; ((refine bodyPost_ret (by simp [results, Tryz.results97, go_sem]; rfl) rfl ?_)); exact ⟨rfl, _, HM.out, HT.out⟩)
  case pos =>
   have hl2 := Lft.fold_at (κ := pure) (by rw [hlen]; exact hlt) hl
   rw [List.getElem_range', Nat.one_mul] at hl2
   unfold K.readBlock at hl2
   rw [Mp.bind_assoc] at hl2
   have HL := Lib.hid hl2
   clear hl hl2
   have hpl : ((na / 8 + i : Nat) : Int) * 8 < (b : Int) := by omega
   have hpb : ((na / 8 + i : Nat) : Int) ≤ 400 := by omega
   have hpm : cnt - (((na / 8 + i : Nat) + 1) - na / 8) < cnt - ((na / 8 + i : Nat) - na / 8) := by omega
   have hpn : na / 8 + (i + 1) = na / 8 + i + 1 := by omega
   generalize hpp : na / 8 + i = pl at HL hpl hpb hpm hpn ⊢
   (repeat (first | go_skip | go_guarded | go_step | go_upon | go_back))
   (((((go_at_call 146; refine (IC.use (impl_block _ (by omega) (by omega) _ (by omega) (by omega)) (fun a => a.size ≤ 20000) (fun m _ => unhexT_size _) (by first | exact HL.out | exact HL.out.last) HM.out).mono ?_)); (rintro e w2 ⟨x, m2, fp2, rfl, hx, hm, ht, HL2⟩); (have HM' := Lib.hid hm; have HT' := Lib.hid (HT.out.trans ht); clear HM HT hm ht; have HM := HM'; have HT := HT'; clear HM' HT'; (try dsimp only at HL2); clear HL; have HL := Lib.hid HL2; clear HL2; (try simp only []); (all_goals ((repeat' ((rcases HL.out.ite with ⟨hg, HL2⟩ | ⟨hg, HL2⟩ <;> (clear HL; have HL := Lib.hid HL2; clear HL2))))))))))
   have hoR := HL.out
   obtain ⟨lo, hlo⟩ : ∃ lo : Nat, lo = na - pl * 8 := ⟨_, rfl⟩
   obtain ⟨hh, hhi⟩ : ∃ hh : Nat, hh = min (b - pl * 8) (min 8 x.size) := ⟨_, rfl⟩
   rw [← hlo, ← hhi] at hoR
   clear HL
   have HL := Lib.hid hoR
   clear hoR
   have f1 : max ((na : Int) - (pl : Int) * 8) 0 = (lo : Int) := by omega
   have f2 : min (min ((b : Int) - (pl : Int) * 8) 8) (x.size : Int) = (hh : Int) := by omega
   have f3 : min ((b : Int) - (pl : Int) * 8) (min 8 (x.size : Int)) = (hh : Int) := by omega
   have f6 : (if (x.size : Int) < (if (8 : Int) < (b : Int) - (pl : Int) * 8 then 8 else (b : Int) - (pl : Int) * 8) then (x.size : Int) else (if (8 : Int) < (b : Int) - (pl : Int) * 8 then 8 else (b : Int) - (pl : Int) * 8)) = (hh : Int) := by
    repeat' split
    all_goals omega
   have f4 : hh ≤ x.size := by omega
   have f5 : (hh : Int) ≤ x.size := by omega
   have hos2 := rb_size (s := x) (lo := lo) (n := 8 * i) hos (show hh ≤ 8 by omega)
   clear hlo hhi
   by_cases hlh : lo < hh
   case pos =>
    have g1 : (lo : Int) < hh := by omega
    have g2 : (lo : Int) ≤ hh := by omega
    have g3 : (x.extract lo hh).size = hh - lo := by rw [ByteArray.size_extract]; omega
    have g4 : ¬ 9223372036854775807 < (out.size : Int) + (x.extract lo hh).size := by omega
    have g5 : ¬ 9223372036854775807 < out.size + (hh - lo) := by omega
    have hoR := HL.out
    rw [if_pos hlh] at hoR
    rw [if_pos hlh] at hos2
    clear HL
    have HL := Lib.hid hoR
    clear hoR
    (repeat (first | go_skip | go_guarded | go_step | go_upon | go_back))
    go_roundw
    case rel => exact ⟨i + 1, _, _, _, by rw [hpn]; go_num, by omega, by omega, rfl, HM.out, HT.out, HL.out⟩
    case measure => simp [intOf]; omega
   case neg =>
    have g1 : ¬ (lo : Int) < hh := by omega
    have hoR := HL.out
    rw [if_neg hlh] at hoR
    rw [if_neg hlh] at hos2
    clear HL
    have HL := Lib.hid hoR
    clear hoR
    (repeat (first | go_skip | go_guarded | go_step | go_upon | go_back))
    go_roundw
    case rel => exact ⟨i + 1, _, _, _, by rw [hpn]; go_num, by omega, by omega, rfl, HM.out, HT.out, HL.out⟩
    case measure => simp [intOf]; omega
end Go.Proofs.YtieenbnmfaekiaaGreatDoor
