/- The law FnRecords: its walk. Each condition stands in its theorem. -/
import Derived.Test.YtkfkbojcnbpmdaaGreatDoorLFnTorn
import Derived.Test.YtkfkbojcnbpmdaaGreatDoorDrawQ
import Derived.Test.YtkfkbojcnbpmdaaGreatDoorLReadRecord
import Derived.Test.YtkfkbojcnbpmdaaGreatDoorByteSum
set_option linter.unusedVariables false
set_option linter.unusedSimpArgs false
namespace Go.Proofs.YtkfkbojcnbpmdaaGreatDoor
open Go.ChangeShapes Go.WideShapes Go.ChangeAt Go.RowKit

set_option maxRecDepth 100000 in
theorem spec_RecordSizeR (va : Value) (a : List CellD) (w : World) (hr : (vSlice vCell 34).rd w [va] a) (hl : a.length ≤ 1048576) :
    Calls Tryz.prog 9 #[va] w fun e w' => e = .returned (.int .i64 ((recText 100000 a).size : Nat)) ∧ Below w.heap.size w w' := by
  obtain ⟨ao, ac, rfl⟩ := vSlice.form hr
  have D := Lib.hid (spec_RecordText 100000 _ a w hr hl)
  clear hr
  have hz := recText_size 100000 a
  go_enter Tryz.func9, Tryz.ntmps9
  go_wp2_with fail
  (go_at_call 7; refine D.out.mono ?_; rintro e w' ⟨rfl, hb⟩)
  go_wp2
  go_ret
  exact ⟨rfl, hb⟩
def AB : List CellD := [⟨⟨#[97]⟩, ⟨#[98]⟩⟩]
theorem rec_ab : (recText 3 AB).size ≠ 0 := by
  have hi : inB 3 1 100000 = true := by decide
  have hg : recGo (Lib.itoa 3) AB = some (recAdd (Lib.itoa 3) ⟨⟨#[97]⟩, ⟨#[98]⟩⟩) := by
    have h1 := itoa_len6 (n := 3) (by decide) (by decide)
    have : recOne (Lib.itoa 3) ⟨⟨#[97]⟩, ⟨#[98]⟩⟩ = true := recOne_true (by decide) (by decide) (by omega)
    unfold AB recGo
    rw [if_pos this]
    rfl
  have hl : (recAdd (Lib.itoa 3) ⟨⟨#[97]⟩, ⟨#[98]⟩⟩).length ≤ 12 := by
    have h1 := itoa_len6 (n := 3) (by decide) (by decide)
    unfold recAdd
    rw [hexT_list (by decide), hexT_list (by decide)]
    have e1 : (hexL ⟨#[97]⟩).length = 2 := by rw [hexL_len]; rfl
    have e2 : (hexL ⟨#[98]⟩).length = 2 := by rw [hexL_len]; rfl
    simp only [List.length_append, List.length_cons, e1, e2]
    omega
  have hb := bsum_small (recAdd (Lib.itoa 3) ⟨⟨#[97]⟩, ⟨#[98]⟩⟩)
  have h2 := itoa_len6 hb.1 hb.2
  rw [recText_some hi hg, if_pos (by unfold recEnd; simp only [List.length_append, List.length_cons, List.length_nil]; omega), strOf_size]
  unfold recEnd
  simp
theorem ab_sm : Sm AB := by
  intro c hc
  rw [List.mem_singleton.1 hc]
  decide
theorem bsum_nil : bsum [] = 7 := by decide
set_option maxRecDepth 100000 in
theorem laws_sameCellsR (v v' : Value) (xs : List CellD) (w : World) (hs : RdL rCell w v xs) (hs' : RdL rCell w v' xs) :
    Calls Tryz.prog 13 #[v, v'] w fun e w' => e = .returned (.bool true) ∧ Below w.heap.size w w' := by
  obtain ⟨ao, cap, rfl, hc1, hc2, _, hcell⟩ := hs.shape
  obtain ⟨ao', cap', rfl, hc1', hc2', _, hcell'⟩ := hs'.shape
  have HX := Lib.hid hcell
  have HX' := Lib.hid hcell'
  clear hcell hcell' hs hs'
  unfold maxLen at hc2 hc2'
  go_enter Tryz.func13, Tryz.ntmps13
  go_wp2
  go_loopw [5] (fun k wr => ∃ (n : Nat), k = .int .i64 n ∧ n ≤ xs.length ∧ Below w.heap.size w wr) (fun k _ => xs.length - (intOf k).toNat)
  case atStart => exact ⟨0, rfl, by omega, (by repeat (first | with_reducible exact Below.refl _ _ | with_reducible apply Below.ofExt | with_reducible apply Below.ofAlloc | with_reducible apply Below.drew | with_reducible apply Below.ofDrewN | with_reducible assumption | (with_reducible refine Below.setCell ?_ (by first | exact Nat.le_refl _ | (simp [go_sem]; done) | (simp [go_sem]; omega)) _)))⟩
  case round =>
    obtain ⟨n, rfl, hn, hbel⟩ := hrel
    obtain ⟨X, rfl⟩ := hbel.ext
    clear hbel
    by_cases hlt : (n : Int) < xs.length
    · have hk : n < xs.length := by omega
      obtain ⟨b, off, rfl, hbl, hcell⟩ := HX.out (by intro e; simp [e] at hk)
      obtain ⟨b', off', rfl, hbl', hcell'⟩ := HX'.out (by intro e; simp [e] at hk)
      have hcc := hcell n hk
      have hcc' := hcell' n hk
      generalize xs[n] = x at hcc hcc'
      have y0 : w.cell? ⟨b, off + n * 2, none⟩ = some (.string x.key) := hcc 0 _ rfl
      have y1 : w.cell? ⟨b, off + n * 2 + 1, none⟩ = some (.string x.val) := hcc 1 _ rfl
      have z0 : w.cell? ⟨b', off' + n * 2, none⟩ = some (.string x.key) := hcc' 0 _ rfl
      have z1 : w.cell? ⟨b', off' + n * 2 + 1, none⟩ = some (.string x.val) := hcc' 1 _ rfl
      have hbl := hbl (by decide)
      have hbl' := hbl' (by decide)
      clear hcell hcell' hcc hcc'
      go_wp2
      go_quiet (fail)
      go_wp2
      go_roundw
      case rel => exact ⟨n + 1, by go_num, by omega, (by repeat (first | with_reducible exact Below.refl _ _ | with_reducible apply Below.ofExt | with_reducible apply Below.ofAlloc | with_reducible apply Below.drew | with_reducible apply Below.ofDrewN | with_reducible assumption | (with_reducible refine Below.setCell ?_ (by first | exact Nat.le_refl _ | (simp [go_sem]; done) | (simp [go_sem]; omega)) _)))⟩
      case measure => simp [intOf]; omega
    · go_wp2
      go_ret
      exact ⟨rfl, (by repeat (first | with_reducible exact Below.refl _ _ | with_reducible apply Below.ofExt | with_reducible apply Below.ofAlloc | with_reducible apply Below.drew | with_reducible apply Below.ofDrewN | with_reducible assumption | (with_reducible refine Below.setCell ?_ (by first | exact Nat.le_refl _ | (simp [go_sem]; done) | (simp [go_sem]; omega)) _)))⟩
theorem extract_size (t : ByteArray) (k : Nat) (h : t.size ≤ 4000) : (t.extract 0 k).size ≤ 1048576 := by
  rw [ByteArray.size_extract]
  omega
theorem bs_i (s : ByteArray) (w : World) (hs : s.size ≤ 5000) : Calls Tryz.prog 15 #[.string s] w fun e w' => e = .returned (.int .i64 (bsum s.data.toList)) ∧ w = w' := (impl_ByteSum s w (by unfold maxLen; omega)).mono fun e w' h => ⟨h.1, h.2.symm⟩
theorem bs_s (s : ByteArray) (w : World) (hs : s.size ≤ 5000) : Calls Tryz.prog 16 #[.string s] w fun e w' => e = .returned (.int .i64 (bsum s.data.toList)) ∧ w = w' := (spec_ByteSum s w (by unfold maxLen; omega)).mono fun e w' h => ⟨h.1, h.2.symm⟩
theorem bs_0 (w : World) : Calls Tryz.prog 15 #[.string ⟨#[]⟩] w fun e w' => e = .returned (.int .i64 7) ∧ w = w' := by
  have := bs_i ⟨#[]⟩ w (by decide)
  rw [show bsum (⟨#[]⟩ : ByteArray).data.toList = 7 from bsum_nil] at this
  exact this
theorem RrOk.len2 {s : ByteArray} {n : Int} {b : Bool} {cs : List CellD} (h : RrOk s n b cs) : cs.length ≤ s.size + 1 := by
  cases b with
  | true =>
    have a := (readI_inv (h.1 rfl)).2.2.1
    have h1 := mid_len (splitL 32 s.data.toList)
    rw [a, List.length_map] at h1
    have h2 := splitL_length 32 s.data.toList
    have e : s.data.toList.length = s.size := by simp
    omega
  | false =>
    rw [(h.2 rfl).2.1]
    simp
theorem RrOk.back {s : ByteArray} {n : Int} {cs : List CellD} (h : RrOk s n true cs) : recText n cs = s := (readI_some.1 (h.1 rfl)).1
set_option maxRecDepth 100000 in
set_option maxHeartbeats 8000000 in
theorem law_FnRecords (v : Value) (bs : List UInt8) (W : World) (hs : Sl W v bs.length (bytesOf bs)) (hb : ∀ b, v.ownBlock = some b → b < W.heap.size) (hg : Glob W) : Calls Tryz.prog 3 #[v] W (Yes W) := by
  have HS := Lib.hid hs
  have HB := Lib.hid hb
  have HG := Lib.hid hg
  clear hg
  unfold Yes
  by_cases hbig : 1048576 < bs.length
  · go_enter Tryz.func3, Tryz.ntmps3
    go_wp2_with fail
    (go_at_call 4; refine (laws_big v bs.length _ _ hs).mono ?_; rintro e w' ⟨rfl, rfl⟩)
    go_wp2
    go_ret
    exact ⟨rfl, (by repeat (first | with_reducible exact Below.refl _ _ | with_reducible apply Below.ofExt | with_reducible apply Below.ofAlloc | with_reducible apply Below.drew | with_reducible apply Below.ofDrewN | with_reducible assumption | (with_reducible refine Below.setCell ?_ (by first | exact Nat.le_refl _ | (simp [go_sem]; done) | (simp [go_sem]; omega)) _)))⟩
  clear hs hb
  go_enter Tryz.func3, Tryz.ntmps3
  go_wp2_with fail
  (go_at_call 4; refine (laws_big v bs.length _ _ HS.out).mono ?_; rintro e w' ⟨rfl, rfl⟩)
  go_wp2_with fail
  (go_at_call 5; refine (spec_DrawRecordText v bs _ HS.out (by omega) HB.out).mono ?_; rintro e w1 ⟨sq, va, rfl, _, xs, hoa, hla, hsa, hb1⟩)
  obtain ⟨aa, ca, rfl⟩ := hoa.rd.form
  have HA1 := Lib.hid hoa
  have HSM := Lib.hid (smalls_sm hsa)
  clear hoa hsa
  have DR := Lib.hid (impl_RecordText sq (.slice aa xs.length ca) xs w1 (HG.out.below hb1).tab (cells_rdS HA1.out HSM.out) (by omega))
  go_wp2_with fail
  (go_at_call 6; refine DR.out.mono ?_; rintro e w2 ⟨rfl, hb2⟩)
  have hb02 : Below W.heap.size W w2 := Below.then hb1 hb2
  have HA2 := Lib.hid (own_bel HA1.out hb2)
  obtain ⟨t, ht⟩ : ∃ t, t = recText sq xs := ⟨_, rfl⟩
  have htz := recText_size sq xs
  rw [← ht] at htz ⊢
  have HT := Lib.hid ht
  clear ht hb2 DR HA1 hb1
  have DS := spec_RecordText sq (.slice aa xs.length ca) xs w2 (cells_rdS HA2.out HSM.out) (by omega)
  rw [← HT.out] at DS
  have DS := Lib.hid DS
  go_wp2_with fail
  (go_at_call 7; refine DS.out.mono ?_; rintro e w3 ⟨rfl, hb3⟩)
  have hb03 : Below W.heap.size W w3 := Below.then hb02 hb3
  have HA3 := Lib.hid (own_bel HA2.out hb3)
  clear DS HA2 hb3 hb02
  obtain ⟨rz, hrz⟩ : ∃ rz, rz = (recText 100000 xs).size := ⟨_, rfl⟩
  have hrl := recText_size 100000 xs
  rw [← hrz] at hrl
  have HRZ := Lib.hid hrz
  clear hrz
  have D1 := impl_RecordSizeR (.slice aa xs.length ca) xs w3 (HG.out.below hb03) (cells_rdS HA3.out HSM.out) (by omega)
  rw [← HRZ.out] at D1
  have D1 := Lib.hid D1
  go_wp2_with fail
  (go_at_call 8; refine D1.out.mono ?_; rintro e w4 ⟨rfl, hb4⟩)
  have hb04 : Below W.heap.size W w4 := Below.then hb03 hb4
  have HA4 := Lib.hid (own_bel HA3.out hb4)
  clear D1 HA3 hb4 hb03
  have D2 := spec_RecordSizeR (.slice aa xs.length ca) xs w4 (cells_rdS HA4.out HSM.out) (by omega)
  rw [← HRZ.out] at D2
  have D2 := Lib.hid D2
  go_wp2_with fail
  (go_at_call 9; refine D2.out.mono ?_; rintro e w5 ⟨rfl, hb5⟩)
  have hb05 : Below W.heap.size W w5 := Below.then hb04 hb5
  have HA5 := Lib.hid (own_bel HA4.out hb5)
  have hz5 := hb05.size
  clear D2 HA4 hb5 hb04
  have D3 := Lib.hid (spec_DrawReadRecord v bs w5 (Sl.below HS.out hb05) (by omega) (fun b hb => by have := HB.out b hb; omega))
  go_wp2_with fail
  (go_at_call 10; refine D3.out.mono ?_; rintro e w6 ⟨s, rfl, hsz, hb6⟩)
  have hb06 : Below W.heap.size W w6 := Below.then hb05 hb6
  have HA6 := Lib.hid (own_bel HA5.out hb6)
  clear D3 HA5 hb6 hb05
  have D4 := Lib.hid (impl_ReadRecord s w6 (HG.out.below hb06) (by omega))
  go_wp2_with fail
  (go_at_call 11; refine D4.out.mono ?_; rintro e w7 ⟨n1, v1, b1, cs1, rfl, ho1, hok1, hb7⟩)
  have hb07 : Below W.heap.size W w7 := Below.then hb06 hb7
  have HA7 := Lib.hid (own_bel HA6.out hb7)
  obtain ⟨ax, cx, rfl⟩ := ho1.rd.form
  have HX7 := Lib.hid ho1
  have HOK := Lib.hid hok1
  clear D4 HA6 hb7 hb06 ho1 hok1
  have D5 := Lib.hid (spec_ReadRecord s w7 (by omega))
  go_wp2_with fail
  (go_at_call 12; refine D5.out.mono ?_; rintro e w8 ⟨n2, v2, b2, cs2, rfl, ho2, hok2, hb8⟩)
  have hb08 : Below W.heap.size W w8 := Below.then hb07 hb8
  have HA8 := Lib.hid (own_bel HA7.out hb8)
  have HX8 := Lib.hid (own_bel HX7.out hb8)
  obtain ⟨rfl, rfl, rfl⟩ := HOK.out.same hok2
  obtain ⟨ay, cy, rfl⟩ := ho2.rd.form
  have HY8 := Lib.hid ho2
  clear D5 HA7 HX7 hb8 hb07 ho2 hok2
  have hcl := HOK.out.len2
  have D6 := Lib.hid (laws_sameCellsR (.slice ax cs2.length cx) (.slice ay cs2.length cy) cs2 w8 HX8.out.rd HY8.out.rd)
  go_wp2_with fail
  (go_at_call 13; refine D6.out.mono ?_; rintro e w9 ⟨rfl, hb9⟩)
  have hb09 : Below W.heap.size W w9 := Below.then hb08 hb9
  have HA9 := Lib.hid (own_bel HA8.out hb9)
  have HX9 := Lib.hid (own_bel HX8.out hb9)
  clear D6 HA8 HX8 HY8 hb9 hb08
  cases b2 with
  | false =>
    obtain ⟨w10, h10⟩ : ∃ w10, w10 = w9 := ⟨_, rfl⟩
    have hb010 : Below W.heap.size W w10 := by rw [h10]; exact hb09
    have HA10 : Hid (OwnL rCell 34 w10 W.heap.size (.slice aa xs.length ca) xs) := by rw [h10]; exact HA9
    rw [← h10]
    clear h10 HA9 HX9 hb09
    have hz10 := hb010.size
    have D8 := Lib.hid (spec_DrawByteSum v bs w10 (Sl.below HS.out hb010) (by omega) (fun b hb => by have := HB.out b hb; omega))
    go_wp2_with fail
    (go_at_call 14; refine D8.out.mono ?_; rintro e w11 ⟨bt, rfl, hbt, hb11⟩)
    have hb011 : Below W.heap.size W w11 := Below.then hb010 hb11
    have HA11 := Lib.hid (own_bel HA10.out hb11)
    clear D8 HA10 hb11 hb010
    have hbA : Below W.heap.size W (w11.alloc (.cells #[.string ⟨#[97]⟩, .string ⟨#[98]⟩] 34)) := hb011.ofAlloc _
    obtain ⟨one, hone⟩ : ∃ one, one = recText 3 AB := ⟨_, rfl⟩
    have h1z := recText_size 3 AB
    have D9 := impl_RecordText 3 (.slice (some ⟨w11.heap.size, 0, none⟩) 1 1) AB (w11.alloc (.cells #[.string ⟨#[97]⟩, .string ⟨#[98]⟩] 34)) (HG.out.below hbA).tab (cells_rdS (OwnL.lit rCell w11 AB 1 rfl (by decide) _ rfl 34) ab_sm) (by decide)
    have hyes := whole_yes (t := recText 3 AB) rfl rec_ab
    rw [← hone] at D9 h1z hyes
    have D9 := Lib.hid D9
    have HYES := Lib.hid hyes
    clear hone hyes
    go_wp2_with fail
    (go_at_call 6; refine D9.out.mono ?_; rintro e w12 ⟨rfl, hb12⟩)
    have hb012 : Below W.heap.size W w12 := Below.then hbA hb12
    have HA12 := Lib.hid (own_bel (HA11.out.alloc _) hb12)
    clear D9 HA11 hb12 hbA hb011
    have D10 := Lib.hid (impl_ReadRecord one w12 (HG.out.below hb012) (by omega))
    go_wp2_with fail
    (go_at_call 11; refine D10.out.mono ?_; rintro e w13 ⟨n3, v3, b3, cs3, rfl, ho3, hok3, hb13⟩)
    have hb013 : Below W.heap.size W w13 := Below.then hb012 hb13
    have HA13 := Lib.hid (own_bel HA12.out hb13)
    obtain ⟨az, cz, rfl⟩ := ho3.rd.form
    obtain ⟨rfl, rfl, e3⟩ := hok3.isSome HYES.out
    have e3 : cs3.length = 1 := by rw [e3]; rfl
    clear D10 HA12 hb13 hb012 ho3 hok3
    go_wp2_with fail
    (go_at_call 15; refine (bs_i bt _ hbt).mono ?_; rintro e w' ⟨rfl, rfl⟩)
    go_wp2_with fail
    (go_at_call 16; refine (bs_s bt _ hbt).mono ?_; rintro e w' ⟨rfl, rfl⟩)
    by_cases h0 : t.toList = []
    · have h1 : t.toList.isEmpty = true := by rw [h0]; rfl
      go_wp2_with fail
      (go_at_call 15; refine (bs_0 _).mono ?_; rintro e w' ⟨rfl, rfl⟩)
      go_wp2
      go_ret
      exact ⟨rfl, hb013⟩
    have h1 : t.toList.isEmpty = false := by rw [List.isEmpty_eq_false_iff]; exact h0
    have htn := size_ne h0
    obtain ⟨m, hm⟩ : ∃ m : Nat, t.size = m + 1 := ⟨t.size - 1, by omega⟩
    have hmi : (t.size : Int) - 1 = m := by omega
    have hml : (m : Int) ≤ t.size := by omega
    have HN := Lib.hid (torn_no HT.out.symm htn (n := m) (by omega))
    have HY := Lib.hid (whole_yes HT.out.symm htn)
    have D11 := Lib.hid (impl_ReadRecord (t.extract 0 m) w13 (HG.out.below hb013) (extract_size t m htz))
    have HM := Lib.hid hm
    clear hm
    go_wp2_with fail
    (go_at_call 11; refine D11.out.mono ?_; rintro e w14 ⟨n4, v4, b4, cs4, rfl, _, hok4, hb14⟩)
    have hb014 : Below W.heap.size W w14 := Below.then hb013 hb14
    have HA14 := Lib.hid (own_bel HA13.out hb14)
    obtain rfl := hok4.isNone HN.out
    clear D11 HA13 hok4 hb14 hb013
    have D12 := Lib.hid (impl_ReadRecord t w14 (HG.out.below hb014) (by omega))
    go_wp2_with fail
    (go_at_call 11; refine D12.out.mono ?_; rintro e w15 ⟨n5, v5, b5, cs5, rfl, ho5, hok5, hb15⟩)
    have hb015 : Below W.heap.size W w15 := Below.then hb014 hb15
    have HA15 := Lib.hid (own_bel HA14.out hb15)
    obtain ⟨ap, cp, rfl⟩ := ho5.rd.form
    obtain ⟨rfl, rfl, rfl⟩ := hok5.isSome HY.out
    have HP15 := Lib.hid ho5
    clear D12 HA14 hok5 hb15 hb014 ho5
    have D13 := Lib.hid (laws_sameCellsR (.slice ap cs5.length cp) (.slice aa cs5.length ca) cs5 w15 HP15.out.rd HA15.out.rd)
    go_wp2_with fail
    (go_at_call 13; refine D13.out.mono ?_; rintro e w16 ⟨rfl, hb16⟩)
    have hb016 : Below W.heap.size W w16 := Below.then hb015 hb16
    clear D13 HA15 HP15 hb16 hb015
    go_wp2_with fail
    (go_at_call 15; refine (bs_0 _).mono ?_; rintro e w' ⟨rfl, rfl⟩)
    go_wp2
    go_ret
    exact ⟨rfl, hb016⟩

  | true =>
    have hbk := HOK.out.back
    have D7 := impl_RecordText n2 (.slice ax cs2.length cx) cs2 w9 (HG.out.below hb09).tab (cells_rdS HX9.out HOK.out.sm) (by omega)
    rw [hbk] at D7
    have D7 := Lib.hid D7
    clear hbk
    go_wp2_with fail
    (go_at_call 6; refine D7.out.mono ?_; rintro e w10 ⟨rfl, hb10⟩)
    have hb010 : Below W.heap.size W w10 := Below.then hb09 hb10
    have HA10 := Lib.hid (own_bel HA9.out hb10)
    clear D7 HA9 HX9 hb10 hb09
    have hz10 := hb010.size
    have D8 := Lib.hid (spec_DrawByteSum v bs w10 (Sl.below HS.out hb010) (by omega) (fun b hb => by have := HB.out b hb; omega))
    go_wp2_with fail
    (go_at_call 14; refine D8.out.mono ?_; rintro e w11 ⟨bt, rfl, hbt, hb11⟩)
    have hb011 : Below W.heap.size W w11 := Below.then hb010 hb11
    have HA11 := Lib.hid (own_bel HA10.out hb11)
    clear D8 HA10 hb11 hb010
    have hbA : Below W.heap.size W (w11.alloc (.cells #[.string ⟨#[97]⟩, .string ⟨#[98]⟩] 34)) := hb011.ofAlloc _
    obtain ⟨one, hone⟩ : ∃ one, one = recText 3 AB := ⟨_, rfl⟩
    have h1z := recText_size 3 AB
    have D9 := impl_RecordText 3 (.slice (some ⟨w11.heap.size, 0, none⟩) 1 1) AB (w11.alloc (.cells #[.string ⟨#[97]⟩, .string ⟨#[98]⟩] 34)) (HG.out.below hbA).tab (cells_rdS (OwnL.lit rCell w11 AB 1 rfl (by decide) _ rfl 34) ab_sm) (by decide)
    have hyes := whole_yes (t := recText 3 AB) rfl rec_ab
    rw [← hone] at D9 h1z hyes
    have D9 := Lib.hid D9
    have HYES := Lib.hid hyes
    clear hone hyes
    go_wp2_with fail
    (go_at_call 6; refine D9.out.mono ?_; rintro e w12 ⟨rfl, hb12⟩)
    have hb012 : Below W.heap.size W w12 := Below.then hbA hb12
    have HA12 := Lib.hid (own_bel (HA11.out.alloc _) hb12)
    clear D9 HA11 hb12 hbA hb011
    have D10 := Lib.hid (impl_ReadRecord one w12 (HG.out.below hb012) (by omega))
    go_wp2_with fail
    (go_at_call 11; refine D10.out.mono ?_; rintro e w13 ⟨n3, v3, b3, cs3, rfl, ho3, hok3, hb13⟩)
    have hb013 : Below W.heap.size W w13 := Below.then hb012 hb13
    have HA13 := Lib.hid (own_bel HA12.out hb13)
    obtain ⟨az, cz, rfl⟩ := ho3.rd.form
    obtain ⟨rfl, rfl, e3⟩ := hok3.isSome HYES.out
    have e3 : cs3.length = 1 := by rw [e3]; rfl
    clear D10 HA12 hb13 hb012 ho3 hok3
    go_wp2_with fail
    (go_at_call 15; refine (bs_i bt _ hbt).mono ?_; rintro e w' ⟨rfl, rfl⟩)
    go_wp2_with fail
    (go_at_call 16; refine (bs_s bt _ hbt).mono ?_; rintro e w' ⟨rfl, rfl⟩)
    by_cases h0 : t.toList = []
    · have h1 : t.toList.isEmpty = true := by rw [h0]; rfl
      go_wp2_with fail
      (go_at_call 15; refine (bs_0 _).mono ?_; rintro e w' ⟨rfl, rfl⟩)
      go_wp2
      go_ret
      exact ⟨rfl, hb013⟩
    have h1 : t.toList.isEmpty = false := by rw [List.isEmpty_eq_false_iff]; exact h0
    have htn := size_ne h0
    obtain ⟨m, hm⟩ : ∃ m : Nat, t.size = m + 1 := ⟨t.size - 1, by omega⟩
    have hmi : (t.size : Int) - 1 = m := by omega
    have hml : (m : Int) ≤ t.size := by omega
    have HN := Lib.hid (torn_no HT.out.symm htn (n := m) (by omega))
    have HY := Lib.hid (whole_yes HT.out.symm htn)
    have D11 := Lib.hid (impl_ReadRecord (t.extract 0 m) w13 (HG.out.below hb013) (extract_size t m htz))
    have HM := Lib.hid hm
    clear hm
    go_wp2_with fail
    (go_at_call 11; refine D11.out.mono ?_; rintro e w14 ⟨n4, v4, b4, cs4, rfl, _, hok4, hb14⟩)
    have hb014 : Below W.heap.size W w14 := Below.then hb013 hb14
    have HA14 := Lib.hid (own_bel HA13.out hb14)
    obtain rfl := hok4.isNone HN.out
    clear D11 HA13 hok4 hb14 hb013
    have D12 := Lib.hid (impl_ReadRecord t w14 (HG.out.below hb014) (by omega))
    go_wp2_with fail
    (go_at_call 11; refine D12.out.mono ?_; rintro e w15 ⟨n5, v5, b5, cs5, rfl, ho5, hok5, hb15⟩)
    have hb015 : Below W.heap.size W w15 := Below.then hb014 hb15
    have HA15 := Lib.hid (own_bel HA14.out hb15)
    obtain ⟨ap, cp, rfl⟩ := ho5.rd.form
    obtain ⟨rfl, rfl, rfl⟩ := hok5.isSome HY.out
    have HP15 := Lib.hid ho5
    clear D12 HA14 hok5 hb15 hb014 ho5
    have D13 := Lib.hid (laws_sameCellsR (.slice ap cs5.length cp) (.slice aa cs5.length ca) cs5 w15 HP15.out.rd HA15.out.rd)
    go_wp2_with fail
    (go_at_call 13; refine D13.out.mono ?_; rintro e w16 ⟨rfl, hb16⟩)
    have hb016 : Below W.heap.size W w16 := Below.then hb015 hb16
    clear D13 HA15 HP15 hb16 hb015
    go_wp2_with fail
    (go_at_call 15; refine (bs_0 _).mono ?_; rintro e w' ⟨rfl, rfl⟩)
    go_wp2
    go_ret
    exact ⟨rfl, hb016⟩
end Go.Proofs.YtkfkbojcnbpmdaaGreatDoor
