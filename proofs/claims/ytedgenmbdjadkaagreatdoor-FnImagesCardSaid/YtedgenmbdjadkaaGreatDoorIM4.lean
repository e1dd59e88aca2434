/- Texts of this claim, merged: the laws of the walks and what they stand on. Each condition stands in its theorem. -/
import Derived.Test.YtedgenmbdjadkaaGreatDoorIM3
import Derived.Deep.RegionWith
import Derived.Lib.Hide
import Derived.Deep.OwnRows
import Derived.ChangeSlices
set_option linter.unusedVariables false
set_option linter.unusedSimpArgs false
namespace Go.Proofs.YtedgenmbdjadkaaGreatDoor
open Go.ChangeShapes Go.WideShapes Go.ChangeAt Go.RowKit

theorem OwnSS.lt {w : World} {B : Nat} {v : Value} {ls : List (List CellD)} {hs : List SlH} {fps : List (List Nat)} (h : OwnSS w B v ls hs fps) : ∀ b ∈ fps.flatten, b < w.heap.size := h.el.lt
/-- what a round of the reading of records comes upon -/
def RecRel (fr : Int) (s : ByteArray) (B : Nat) (w wr : World) (o : Value) (n : Nat) (ls : List (List CellD)) (hs : List SlH) (fps : List (List Nat)) (sz : Int) : Prop :=
  OwnSS wr B o ls hs fps ∧ recs fr ((linesB s).drop n) ls sz = recsI s fr ∧ ls.length ≤ n ∧ (0 ≤ sz ∧ sz ≤ n * 1048577) ∧ Below B w wr
set_option maxRecDepth 100000 in
set_option maxHeartbeats 4000000 in
theorem spec_RecordsIn (s : ByteArray) (fr : Int) (w : World) (hs : s.size ≤ 1048576) :
    Calls Tryz.prog 7 #[.string s, .int .i64 fr] w (RsP s fr w) := by
  go_enter Tryz.func7, Tryz.ntmps7
  go_wp2_with fail
  (go_at_call 36; refine (spec_in fr 1 100000 _).mono ?_; rintro e w' ⟨rfl, rfl⟩)
  have hE0 := OwnSS.empty w
  cases hin : inB fr 1 100000 with
  | false =>
    have HR := Lib.hid (recsI_out (s := s) hin)
    have HE := Lib.hid hE0
    clear hE0
    go_wp2
    refine bodyPost_ret (by simp [results, Tryz.results7, go_sem]; rfl) rfl ?_
    exact RsP.mk HE.out HR.out (by repeat (first | with_reducible exact Below.refl _ _ | with_reducible apply Below.ofExt | with_reducible apply Below.ofAlloc | with_reducible apply Below.drew | with_reducible apply Below.ofDrewN | with_reducible assumption | (with_reducible refine Below.setCell ?_ (by first | exact Nat.le_refl _ | (simp [go_sem]; done) | (simp [go_sem]; omega)) _)))
  | true =>
    have hfr : 1 ≤ fr ∧ fr ≤ 100000 := by unfold inB at hin; simp at hin; omega
    have HR := Lib.hid (recsI_in (s := s) hin)
    clear hin
    have HE := Lib.hid hE0
    clear hE0
    go_wp2_with fail
    (go_at_call 35; refine (spec_LinesIn s _ hs).mono ?_; rintro e w1 ⟨lv, xs, rfl, hl, hx, hb1⟩)
    obtain rfl := linesB_eq hx
    obtain ⟨la, lc, rfl⟩ := hl.rd.form
    have hll := linesB_len s
    have HL0 := Lib.hid hl
    have HE1 := Lib.hid (HE.out.bel hb1)
    have hbw := Below.then (Below.ofAlloc (Below.refl w.heap.size w) (.cells #[] 35)) hb1
    clear hb1 hl hx HE
    go_wp2
    go_loopw [6, 8, 9, 10, 11, 12] (fun o sz k _ _ _ wr => ∃ (n : Nat) (ls : List (List CellD)) (hs : List SlH) (fps : List (List Nat)) (z : Int), k = .int .i64 n ∧ sz = .int .i64 z ∧ n ≤ (linesB s).length ∧ RecRel fr s w.heap.size w wr o n ls hs fps z ∧ OwnL rStr 9 wr (w.alloc (.cells #[] 35)).heap.size (.slice la (linesB s).length lc) (linesB s)) (fun _ _ k _ _ _ _ => (linesB s).length - (intOf k).toNat)
    case atStart => exact ⟨0, [], [], [], 0, rfl, rfl, by omega, ⟨HE1.out, by rw [List.drop_zero, HR.out], by simp, by omega, hbw⟩, HL0.out⟩
    case round =>
      clear HE1 HL0 hbw
      obtain ⟨n, ls, hs, fps, z, rfl, rfl, hn, ⟨ho, hrec, hln, hz, hbel⟩, hl⟩ := hrel
      rename_i wr
      obtain ⟨oa, oc, rfl⟩ := ho.form
      have HO := Lib.hid ho
      have HRC := Lib.hid hrec
      have HL := Lib.hid hl
      have hws := hbel.size
      have hlen2 := ho.len
      clear ho hrec
      by_cases hlt : (n : Int) < (linesB s).length
      case neg =>
        have he := recs_end fr (linesB s) n ls z (by omega)
        have HX := Lib.hid (HRC.out.symm.trans he)
        clear hl he
        go_wp2
        refine bodyPost_ret (by simp [results, Tryz.results7, go_sem]; rfl) rfl ?_
        exact RsP.mk HO.out HX.out hbel
      have hk : n < (linesB s).length := by omega
      obtain ⟨_, pb, po, hpe, hpl, y0⟩ := str_at hl hk
      cases hpe
      have hsx := linesB_mem (List.getElem_mem hk)
      have hdrop := fun p (a : recStep fr ls z (linesB s)[n] = some p) => recs_some hk a
      have hnone := fun (a : recStep fr ls z (linesB s)[n] = none) => recs_none hk a
      generalize (linesB s)[n] = x at *
      have HD := Lib.hid hdrop
      have HN := Lib.hid hnone
      clear hl hdrop hnone
      go_wp2_with fail
      (go_at_call 37; refine (spec_ReadRecord x _ (by omega)).mono ?_; rintro e w3 ⟨q, rv, b, cs, rfl, hrv, hok, hb3⟩)
      obtain ⟨ra, rc, rfl⟩ := hrv.rd.form
      have hbw3 : Below w.heap.size w w3 := Below.then hbel hb3
      have HO3 := Lib.hid (HO.out.bel hb3)
      have HL3 := Lib.hid (own_bel HL.out hb3)
      have y3 := (Grew.below hb3).cell y0
      have hpl3 := Nat.lt_of_lt_of_le hpl hb3.size
      have hws3 := hb3.size
      have HLT := Lib.hid HO.out.lt
      have HRV := Lib.hid hrv
      clear hb3 HO HL y0 hpl hbel hrv
      cases b with
      | false =>
        have hno := (hok.2 rfl).2.2
        have HX := Lib.hid (HRC.out.symm.trans (HN.out (step_no hno)))
        clear hok hno
        go_wp2
        refine bodyPost_ret (by simp [results, Tryz.results7, go_sem]; rfl) rfl ?_
        exact RsP.mk HO3.out HX.out hbw3
      | true =>
        have hyes := hok.1 rfl
        obtain ⟨hq, _, _, hcz⟩ := readI_inv hyes
        have HCZ := Lib.hid hcz
        clear hok hcz
        by_cases hA : ls.length = 0 ∧ q < fr
        case pos =>
          have hst := HD.out _ (step_skip hyes hA.1 hA.2)
          have HX := Lib.hid (hst.symm.trans HRC.out)
          have e1 : (q == fr + (ls.length : Int)) = false := by rw [beq_eq_false_iff_ne]; omega
          have e2 : (q != fr + (ls.length : Int)) = true := by rw [bne, e1]; rfl
          obtain ⟨hA1, hA2⟩ := hA
          obtain rfl := List.eq_nil_of_length_eq_zero hA1
          clear hst hyes hA1
          go_wp2
          go_roundw
          case rel => exact ⟨n + 1, [], hs, fps, z + x.size, by go_num, by go_num, by omega, ⟨HO3.out, HX.out, by simp, by omega, hbw3⟩, HL3.out⟩
          case measure => simp [intOf]; omega
        case neg =>
          by_cases hB : q = fr + ls.length
          case neg =>
            have HX := Lib.hid (HRC.out.symm.trans (HN.out (step_stop hyes hA hB)))
            have e1 : (q == fr + (ls.length : Int)) = false := by rw [beq_eq_false_iff_ne]; omega
            have e2 : (q != fr + (ls.length : Int)) = true := by rw [bne, e1]; rfl
            clear hyes
            by_cases h0 : ls.length = 0
            · have h2 : fr < q := by omega
              obtain rfl := List.eq_nil_of_length_eq_zero h0
              clear h0
              go_wp2
              refine bodyPost_ret (by simp [results, Tryz.results7, go_sem]; rfl) rfl ?_
              exact RsP.mk HO3.out HX.out hbw3
            · have h1 : (0 : Int) < ls.length := by omega
              go_wp2
              refine bodyPost_ret (by simp [results, Tryz.results7, go_sem]; rfl) rfl ?_
              exact RsP.mk HO3.out HX.out hbw3
          case pos =>
            have HX := Lib.hid ((HD.out _ (step_add hyes hB)).symm.trans HRC.out)
            have e1 : (q == fr + (ls.length : Int)) = true := by rw [beq_iff_eq]; exact hB
            have e2 : (q != fr + (ls.length : Int)) = false := by rw [bne, e1]; rfl
            clear hyes
            go_wp2_with (at_builtin; refine Stop.here ?_)
            refine wpList_appL rfl _ _ _ rfl (R := rSl) (e := 35) Tryz.elemCellSS (B := w.heap.size) (v := .slice oa ls.length oc) (xs := hs) (HO3.out.row.alloc _) rfl (ys := [⟨ra, cs.length, rc⟩]) (RdL.oneAt rSl _ ⟨ra, cs.length, rc⟩ _ rfl _ _ rfl) rfl (by simp only [List.length_singleton]; omega) (by simp only [List.length_singleton]; unfold maxLen; omega) (by simp [World.ext_size]; omega) ?_
            intro v6 w6 ho6 hg6 _
            obtain ⟨fp, hc1, hc2, hc3⟩ := own_of_cells HRV.out (fun d hd => by have := HCZ.out d hd; exact ⟨by omega, by omega⟩)
            have hO6 := (HO3.out.alloc (.cells #[.slice ra cs.length rc] 35)).snoc (View.ownGrow hc1 (Grew.alloc _ _)) hc2 (fun b hb => by have := hc3 b hb; omega) (fun b hb hb' => by have := HLT.out b hb; have := hc3 b hb'; omega) ho6 hg6
            have hb6 : Below w.heap.size w w6 := (Below.ofAlloc hbw3 _).grown hg6 (by simp; omega) (fun k e => ((HO3.out.row.alloc (.cells #[.slice ra cs.length rc] 35)).lt k e).1)
            have hap := own_apart (HL3.out.alloc (.cells #[.slice ra cs.length rc] 35)) (HO3.out.row.alloc (.cells #[.slice ra cs.length rc] 35)) (by decide)
            have hL6 := OwnL.kept (HL3.out.alloc (.cells #[.slice ra cs.length rc] 35)) hg6 hap
            obtain ⟨oa6, oc6, rfl⟩ := hO6.form
            rw [List.length_append, List.length_singleton] at hO6
            have HO6 := Lib.hid hO6
            have HL6 := Lib.hid hL6
            have hnb : some pb ≠ (Value.slice oa ls.length oc).ownBlock := by
              rcases hap with h | h
              · simp [Value.ownBlock] at h
              · exact h
            have y6 := (World.cell?_of_block (w := w3.alloc (.cells #[.slice ra cs.length rc] 35)) (w' := w6) (a := ⟨pb, po + n, none⟩) (hg6.block pb (by simp; omega) hnb)).trans ((Grew.alloc w3 _).cell y3)
            have hpl6 : pb < w6.heap.size := by have := hg6.size; simp at this; omega
            have HB6 := Lib.hid hb6
            clear ho6 hg6 hO6 hL6 hc1 hc2 hc3 HO3 HL3 hb6 y3 hpl3 hap hnb
            go_wp2
            go_roundw
            case rel => exact ⟨n + 1, ls ++ [cs], _, _, z + x.size, by go_num, by go_num, by omega, ⟨HO6.out, HX.out, by rw [List.length_append, List.length_singleton]; omega, by omega, HB6.out⟩, HL6.out⟩
            case measure => simp [intOf]; omega
set_option maxRecDepth 100000 in
set_option maxHeartbeats 4000000 in
theorem impl_RecordsIn (s : ByteArray) (fr : Int) (w : World) (hg : Glob w) (hs : s.size ≤ 1048576) :
    Calls Tryz.prog 8 #[.string s, .int .i64 fr] w (RsP s fr w) := by
  have HG := Lib.hid hg
  clear hg
  go_enter Tryz.func8, Tryz.ntmps8
  go_wp2_with fail
  (go_at_call 38; refine (impl_in fr 1 100000 _).mono ?_; rintro e w' ⟨rfl, rfl⟩)
  have hE0 := OwnSS.nil w w.heap.size
  cases hin : inB fr 1 100000 with
  | false =>
    have HR := Lib.hid (recsI_out (s := s) hin)
    have HE := Lib.hid hE0
    clear hE0
    go_wp2
    refine bodyPost_ret (by simp [results, Tryz.results8, go_sem]; rfl) rfl ?_
    exact RsP.mk HE.out HR.out (by repeat (first | with_reducible exact Below.refl _ _ | with_reducible apply Below.ofExt | with_reducible apply Below.ofAlloc | with_reducible apply Below.drew | with_reducible apply Below.ofDrewN | with_reducible assumption | (with_reducible refine Below.setCell ?_ (by first | exact Nat.le_refl _ | (simp [go_sem]; done) | (simp [go_sem]; omega)) _)))
  | true =>
    have hfr : 1 ≤ fr ∧ fr ≤ 100000 := by unfold inB at hin; simp at hin; omega
    have HR := Lib.hid (recsI_in (s := s) hin)
    clear hin
    have HE := Lib.hid hE0
    clear hE0
    go_wp2_with fail
    (go_at_call 34; refine (impl_LinesIn s _ HG.out.max hs).mono ?_; rintro e w1 ⟨lv, xs, rfl, hl, hx, hb1⟩)
    obtain rfl := linesB_eq hx
    obtain ⟨la, lc, rfl⟩ := hl.rd.form
    have hll := linesB_len s
    have HL0 := Lib.hid hl
    have HE1 := Lib.hid (HE.out.bel hb1)
    have hbw := hb1
    clear hl hx HE
    go_wp2
    go_loopw [6, 7, 9, 10, 11, 12, 13, 20] (fun o sz _ _ _ _ _ k wr => ∃ (n : Nat) (ls : List (List CellD)) (hs : List SlH) (fps : List (List Nat)) (z : Int), k = .int .i64 n ∧ sz = .int .i64 z ∧ n ≤ (linesB s).length ∧ RecRel fr s w.heap.size w wr o n ls hs fps z ∧ OwnL rStr 9 wr w.heap.size (.slice la (linesB s).length lc) (linesB s)) (fun _ _ _ _ _ _ _ k _ => (linesB s).length - (intOf k).toNat)
    case atStart => exact ⟨0, [], [], [], 0, rfl, rfl, by omega, ⟨HE1.out, by rw [List.drop_zero, HR.out], by simp, by omega, hbw⟩, HL0.out⟩
    case round =>
      clear HE1 HL0 hbw
      obtain ⟨n, ls, hs, fps, z, rfl, rfl, hn, ⟨ho, hrec, hln, hz, hbel⟩, hl⟩ := hrel
      rename_i wr
      obtain ⟨oa, oc, rfl⟩ := ho.form
      have HO := Lib.hid ho
      have HRC := Lib.hid hrec
      have HL := Lib.hid hl
      have hws := hbel.size
      have hlen2 := ho.len
      clear ho hrec
      by_cases hlt : (n : Int) < (linesB s).length
      case neg =>
        have he := recs_end fr (linesB s) n ls z (by omega)
        have HX := Lib.hid (HRC.out.symm.trans he)
        clear hl he
        go_wp2
        refine bodyPost_ret (by simp [results, Tryz.results8, go_sem]; rfl) rfl ?_
        exact RsP.mk HO.out HX.out hbel
      have hk : n < (linesB s).length := by omega
      obtain ⟨_, pb, po, hpe, hpl, y0⟩ := str_at hl hk
      cases hpe
      have hsx := linesB_mem (List.getElem_mem hk)
      have hdrop := fun p (a : recStep fr ls z (linesB s)[n] = some p) => recs_some hk a
      have hnone := fun (a : recStep fr ls z (linesB s)[n] = none) => recs_none hk a
      generalize (linesB s)[n] = x at *
      have HD := Lib.hid hdrop
      have HN := Lib.hid hnone
      clear hl hdrop hnone
      go_wp2_with fail
      (go_at_call 39; refine (impl_ReadRecord x _ (HG.out.below hbel) (by omega)).mono ?_; rintro e w3 ⟨q, rv, b, cs, rfl, hrv, hok, hb3⟩)
      obtain ⟨ra, rc, rfl⟩ := hrv.rd.form
      have hbw3 : Below w.heap.size w w3 := Below.then hbel hb3
      have HO3 := Lib.hid (HO.out.bel hb3)
      have HL3 := Lib.hid (own_bel HL.out hb3)
      have y3 := (Grew.below hb3).cell y0
      have hpl3 := Nat.lt_of_lt_of_le hpl hb3.size
      have hws3 := hb3.size
      have HLT := Lib.hid HO.out.lt
      have HRV := Lib.hid hrv
      clear hb3 HO HL y0 hpl hbel hrv
      cases b with
      | false =>
        obtain ⟨rfl, rfl, hno⟩ := hok.2 rfl
        have HX := Lib.hid (HRC.out.symm.trans (HN.out (step_no hno)))
        clear hok hno
        by_cases h0 : ls.length = 0
        · obtain rfl := List.eq_nil_of_length_eq_zero h0
          clear h0
          have h3 : (0 : Int) < fr := by omega
          go_wp2
          refine bodyPost_ret (by simp [results, Tryz.results8, go_sem]; rfl) rfl ?_
          exact RsP.mk HO3.out HX.out hbw3
        · have h1 : ((ls.length : Int) == 0) = false := by rw [beq_eq_false_iff_ne]; omega
          go_wp2
          refine bodyPost_ret (by simp [results, Tryz.results8, go_sem]; rfl) rfl ?_
          exact RsP.mk HO3.out HX.out hbw3
      | true =>
        have hyes := hok.1 rfl
        obtain ⟨hq, _, _, hcz⟩ := readI_inv hyes
        have HCZ := Lib.hid hcz
        clear hok hcz
        by_cases hA : ls.length = 0 ∧ q < fr
        case pos =>
          have hst := HD.out _ (step_skip hyes hA.1 hA.2)
          have HX := Lib.hid (hst.symm.trans HRC.out)
          have e1 : (q == fr + (ls.length : Int)) = false := by rw [beq_eq_false_iff_ne]; omega
          have e2 : (q != fr + (ls.length : Int)) = true := by rw [bne, e1]; rfl
          obtain ⟨hA1, hA2⟩ := hA
          obtain rfl := List.eq_nil_of_length_eq_zero hA1
          clear hst hyes hA1
          go_wp2
          go_roundw
          case rel => exact ⟨n + 1, [], hs, fps, z + x.size, by go_num, by go_num, by omega, ⟨HO3.out, HX.out, by simp, by omega, hbw3⟩, HL3.out⟩
          case measure => simp [intOf]; omega
        case neg =>
          by_cases hB : q = fr + ls.length
          case neg =>
            have HX := Lib.hid (HRC.out.symm.trans (HN.out (step_stop hyes hA hB)))
            have e1 : (q == fr + (ls.length : Int)) = false := by rw [beq_eq_false_iff_ne]; omega
            have e2 : (q != fr + (ls.length : Int)) = true := by rw [bne, e1]; rfl
            clear hyes
            by_cases h0 : ls.length = 0
            · have h2 : fr < q := by omega
              obtain rfl := List.eq_nil_of_length_eq_zero h0
              have e3 : (q != fr) = true := by rw [bne_iff_ne]; omega
              have h3 : ¬ q < fr := by omega
              have h4 : decide (q < fr) = false := decide_eq_false h3
              have h5 : (!decide (q < fr)) = true := by rw [h4]; rfl
              clear h0 e1 e2
              go_wp2
              refine bodyPost_ret (by simp [results, Tryz.results8, go_sem]; rfl) rfl ?_
              exact RsP.mk HO3.out HX.out hbw3
            · have h1 : ((ls.length : Int) == 0) = false := by rw [beq_eq_false_iff_ne]; omega
              go_wp2
              refine bodyPost_ret (by simp [results, Tryz.results8, go_sem]; rfl) rfl ?_
              exact RsP.mk HO3.out HX.out hbw3
          case pos =>
            have HX := Lib.hid ((HD.out _ (step_add hyes hB)).symm.trans HRC.out)
            have e1 : (q == fr + (ls.length : Int)) = true := by rw [beq_iff_eq]; exact hB
            have e2 : (q != fr + (ls.length : Int)) = false := by rw [bne, e1]; rfl
            clear hyes
            have hqf : ¬ q < fr := by omega
            by_cases h0 : ls.length = 0
            case neg =>
              have h1 : ((ls.length : Int) == 0) = false := by rw [beq_eq_false_iff_ne]; omega
              go_wp2_with (at_builtin; refine Stop.here ?_)
              refine wpList_appL rfl _ _ _ rfl (R := rSl) (e := 35) Tryz.elemCellSS (B := w.heap.size) (v := .slice oa ls.length oc) (xs := hs) (HO3.out.row.alloc _) rfl (ys := [⟨ra, cs.length, rc⟩]) (RdL.oneAt rSl _ ⟨ra, cs.length, rc⟩ _ rfl _ _ rfl) rfl (by simp only [List.length_singleton]; omega) (by simp only [List.length_singleton]; unfold maxLen; omega) (by simp [World.ext_size]; omega) ?_
              intro v6 w6 ho6 hg6 _
              obtain ⟨fp, hc1, hc2, hc3⟩ := own_of_cells HRV.out (fun d hd => by have := HCZ.out d hd; exact ⟨by omega, by omega⟩)
              have hO6 := (HO3.out.alloc (.cells #[.slice ra cs.length rc] 35)).snoc (View.ownGrow hc1 (Grew.alloc _ _)) hc2 (fun b hb => by have := hc3 b hb; omega) (fun b hb hb' => by have := HLT.out b hb; have := hc3 b hb'; omega) ho6 hg6
              have hb6 : Below w.heap.size w w6 := (Below.ofAlloc hbw3 _).grown hg6 (by simp; omega) (fun k e => ((HO3.out.row.alloc (.cells #[.slice ra cs.length rc] 35)).lt k e).1)
              have hap := own_apart (HL3.out.alloc (.cells #[.slice ra cs.length rc] 35)) (HO3.out.row.alloc (.cells #[.slice ra cs.length rc] 35)) (by decide)
              have hL6 := OwnL.kept (HL3.out.alloc (.cells #[.slice ra cs.length rc] 35)) hg6 hap
              obtain ⟨oa6, oc6, rfl⟩ := hO6.form
              rw [List.length_append, List.length_singleton] at hO6
              have HO6 := Lib.hid hO6
              have HL6 := Lib.hid hL6
              have hnb : some pb ≠ (Value.slice oa ls.length oc).ownBlock := by
                rcases hap with h | h
                · simp [Value.ownBlock] at h
                · exact h
              have y6 := (World.cell?_of_block (w := w3.alloc (.cells #[.slice ra cs.length rc] 35)) (w' := w6) (a := ⟨pb, po + n, none⟩) (hg6.block pb (by simp; omega) hnb)).trans ((Grew.alloc w3 _).cell y3)
              have hpl6 : pb < w6.heap.size := by have := hg6.size; simp at this; omega
              have HB6 := Lib.hid hb6
              clear ho6 hg6 hO6 hL6 hc1 hc2 hc3 HO3 HL3 hb6 y3 hpl3 hap hnb
              go_wp2
              go_roundw
              case rel => exact ⟨n + 1, ls ++ [cs], _, _, z + x.size, by go_num, by go_num, by omega, ⟨HO6.out, HX.out, by rw [List.length_append, List.length_singleton]; omega, by omega, HB6.out⟩, HL6.out⟩
              case measure => simp [intOf]; omega
            case pos =>
              obtain rfl := List.eq_nil_of_length_eq_zero h0
              simp only [List.length_nil, Int.natCast_zero, Int.add_zero] at hB
              subst hB
              have e3 : (q != q) = false := by simp
              have h3 : ¬ q < q := by omega
              have h4 : decide (q < q) = false := decide_eq_false h3
              have h5 : (!decide (q < q)) = true := by rw [h4]; rfl
              clear h0 e1 e2 hqf hA
              go_wp2_with (at_builtin; refine Stop.here ?_)
              refine wpList_appL rfl _ _ _ rfl (R := rSl) (e := 35) Tryz.elemCellSS (B := w.heap.size) (v := .slice oa 0 oc) (xs := hs) (HO3.out.row.alloc _) rfl (ys := [⟨ra, cs.length, rc⟩]) (RdL.oneAt rSl _ ⟨ra, cs.length, rc⟩ _ rfl _ _ rfl) rfl (by simp only [List.length_singleton]; omega) (by simp only [List.length_singleton]; unfold maxLen; omega) (by simp [World.ext_size]; omega) ?_
              intro v6 w6 ho6 hg6 _
              obtain ⟨fp, hc1, hc2, hc3⟩ := own_of_cells HRV.out (fun d hd => by have := HCZ.out d hd; exact ⟨by omega, by omega⟩)
              have hO6 := (HO3.out.alloc (.cells #[.slice ra cs.length rc] 35)).snoc (View.ownGrow hc1 (Grew.alloc _ _)) hc2 (fun b hb => by have := hc3 b hb; omega) (fun b hb hb' => by have := HLT.out b hb; have := hc3 b hb'; omega) ho6 hg6
              have hb6 : Below w.heap.size w w6 := (Below.ofAlloc hbw3 _).grown hg6 (by simp; omega) (fun k e => ((HO3.out.row.alloc (.cells #[.slice ra cs.length rc] 35)).lt k e).1)
              have hap := own_apart (HL3.out.alloc (.cells #[.slice ra cs.length rc] 35)) (HO3.out.row.alloc (.cells #[.slice ra cs.length rc] 35)) (by decide)
              have hL6 := OwnL.kept (HL3.out.alloc (.cells #[.slice ra cs.length rc] 35)) hg6 hap
              obtain ⟨oa6, oc6, rfl⟩ := hO6.form
              rw [List.length_append, List.length_singleton] at hO6
              have HO6 := Lib.hid hO6
              have HL6 := Lib.hid hL6
              have hnb : some pb ≠ (Value.slice oa 0 oc).ownBlock := by
                rcases hap with h | h
                · simp [Value.ownBlock] at h
                · exact h
              have y6 := (World.cell?_of_block (w := w3.alloc (.cells #[.slice ra cs.length rc] 35)) (w' := w6) (a := ⟨pb, po + n, none⟩) (hg6.block pb (by simp; omega) hnb)).trans ((Grew.alloc w3 _).cell y3)
              have hpl6 : pb < w6.heap.size := by have := hg6.size; simp at this; omega
              have HB6 := Lib.hid hb6
              clear ho6 hg6 hO6 hL6 hc1 hc2 hc3 HO3 HL3 hb6 y3 hpl3 hap hnb
              go_wp2
              go_roundw
              case rel => exact ⟨n + 1, [] ++ [cs], _, _, z + x.size, by go_num, by go_num, by omega, ⟨HO6.out, HX.out, by rw [List.length_append, List.length_singleton]; omega, by omega, HB6.out⟩, HL6.out⟩
              case measure => simp [intOf]; omega
end Go.Proofs.YtedgenmbdjadkaaGreatDoor
namespace Go.Proofs.YtedgenmbdjadkaaGreatDoor
open Go.ChangeShapes Go.WideShapes Go.ChangeAt Go.RowKit

set_option maxRecDepth 100000 in
theorem laws_sameCellsC (v v' : Value) (xs : List CellD) (w : World) (hs : RdL rCell w v xs) (hs' : RdL rCell w v' xs) :
    Calls Tryz.prog 15 #[v, v'] w fun e w' => e = .returned (.bool true) ∧ Below w.heap.size w w' := by
  obtain ⟨ao, cap, rfl, hc1, hc2, _, hcell⟩ := hs.shape
  obtain ⟨ao', cap', rfl, hc1', hc2', _, hcell'⟩ := hs'.shape
  have HX := Lib.hid hcell
  have HX' := Lib.hid hcell'
  clear hcell hcell' hs hs'
  unfold maxLen at hc2 hc2'
  go_enter Tryz.func15, Tryz.ntmps15
  go_wp2
  go_loopw [5] (fun k wr => ∃ (n : Nat), k = .int .i64 n ∧ n ≤ xs.length ∧ Below w.heap.size w wr) (fun k _ => xs.length - (intOf k).toNat)
  case atStart => exact ⟨0, rfl, by omega, (by repeat (first | with_reducible exact Below.refl _ _ | with_reducible apply Below.ofExt | with_reducible apply Below.ofAlloc | with_reducible apply Below.drew | with_reducible apply Below.ofDrewN | with_reducible assumption | (with_reducible refine Below.setCell ?_ (by first | exact Nat.le_refl _ | (simp [go_sem]; done) | (simp [go_sem]; omega)) _)))⟩
  case round =>
    obtain ⟨n, rfl, hn, hbel⟩ := hrel
    obtain ⟨X, rfl⟩ := hbel.ext
    clear hbel
    by_cases hlt : (n : Int) < xs.length
    · have hk : n < xs.length := by omega
      obtain ⟨b, off, rfl, hbl, hcell⟩ := HX.out (by intro e; simp [e] at hk)
      obtain ⟨b', off', rfl, hbl', hcell'⟩ := HX'.out (by intro e; simp [e] at hk)
      have hcc := hcell n hk
      have hcc' := hcell' n hk
      generalize xs[n] = x at hcc hcc'
      have y0 : w.cell? ⟨b, off + n * 2, none⟩ = some (.string x.key) := hcc 0 _ rfl
      have y1 : w.cell? ⟨b, off + n * 2 + 1, none⟩ = some (.string x.val) := hcc 1 _ rfl
      have z0 : w.cell? ⟨b', off' + n * 2, none⟩ = some (.string x.key) := hcc' 0 _ rfl
      have z1 : w.cell? ⟨b', off' + n * 2 + 1, none⟩ = some (.string x.val) := hcc' 1 _ rfl
      have hbl := hbl (by decide)
      have hbl' := hbl' (by decide)
      clear hcell hcell' hcc hcc'
      go_wp2
      go_quiet (fail)
      go_wp2
      go_roundw
      case rel => exact ⟨n + 1, by go_num, by omega, (by repeat (first | with_reducible exact Below.refl _ _ | with_reducible apply Below.ofExt | with_reducible apply Below.ofAlloc | with_reducible apply Below.drew | with_reducible apply Below.ofDrewN | with_reducible assumption | (with_reducible refine Below.setCell ?_ (by first | exact Nat.le_refl _ | (simp [go_sem]; done) | (simp [go_sem]; omega)) _)))⟩
      case measure => simp [intOf]; omega
    · go_wp2
      go_ret
      exact ⟨rfl, (by repeat (first | with_reducible exact Below.refl _ _ | with_reducible apply Below.ofExt | with_reducible apply Below.ofAlloc | with_reducible apply Below.drew | with_reducible apply Below.ofDrewN | with_reducible assumption | (with_reducible refine Below.setCell ?_ (by first | exact Nat.le_refl _ | (simp [go_sem]; done) | (simp [go_sem]; omega)) _)))⟩
theorem OwnSS.at {w : World} {B : Nat} {v : Value} {ls : List (List CellD)} {hs : List SlH} {fps : List (List Nat)} (h : OwnSS w B v ls hs fps) {i : Nat} (hi : i < ls.length) :
    ∃ b off ao cap acap, v = .slice (some ⟨b, off, none⟩) ls.length acap ∧ b < w.heap.size ∧ w.cell? ⟨b, off + i, none⟩ = some (.slice ao ls[i].length cap) ∧ RdL rCell w (.slice ao ls[i].length cap) ls[i] := by
  have hl := h.len
  obtain ⟨ao, cap, rfl, h1, h2, h3, h4⟩ := h.row.rd.shape
  obtain ⟨b, off, rfl, hb, hc⟩ := h4 (by intro e; rw [e] at hl; simp at hl; omega)
  have hcell := hc i (by omega) 0 _ rfl
  have he := h.el.el i hi (by rw [h.el.cl]; exact hi) (by rw [h.el.fl]; exact hi)
  have e1 : (hs.map rSl.row)[i]'(by rw [h.el.cl]; exact hi) = [hs[i].val] := by simp [rSl]
  rw [e1] at he
  obtain ⟨a, c, e2⟩ := vSlice.form (View.toRd _ he)
  rw [e2] at he
  refine ⟨b, off, a, c, cap, by rw [hl], hb (by decide), ?_, rdl_of_own rfl he⟩
  rw [e2] at hcell
  simpa [rSl] using hcell
end Go.Proofs.YtedgenmbdjadkaaGreatDoor
namespace Go.Proofs.YtedgenmbdjadkaaGreatDoor
open Go.ChangeShapes Go.WideShapes Go.ChangeAt Go.RowKit

def foldC (zs : List CellD) (ls : List (List CellD)) : List CellD := ls.foldl applyC zs
theorem foldC_snoc (zs : List CellD) (ls : List (List CellD)) (l : List CellD) : foldC zs (ls ++ [l]) = applyC (foldC zs ls) l := by simp [foldC]
theorem opqR {P : Program} {c : Code} {Q : Exit → Act → World → Prop} {a : Act} {W : World} (S : World → Prop) (h : S W) (H : ∀ W0, S W0 → c.wp P Q a W0) : c.wp P Q a W := H W h
def RegQ (S : Act → World → Prop) : Exit → Act → World → Prop
  | .normal, a, w => S a w
  | _, _, _ => False
theorem cutR {P : Program} {c : Code} {Q : Exit → Act → World → Prop} {a : Act} {w : World} (F : Act → Nat → Act) (S : Nat → World → Prop) (h : c.wp P (RegQ fun a' w' => ∃ b4, a' = F a b4 ∧ S b4 w') a w) (k : ∀ b4 w', S b4 w' → Q .normal (F a b4) w') : c.wp P Q a w :=
  wp_mono h (by
    intro e a' w' hq
    cases e with
    | normal =>
      obtain ⟨b4, rfl, hs⟩ := hq
      exact k b4 w' hs
    | _ => exact hq.elim)
set_option maxRecDepth 100000 in
set_option maxHeartbeats 16000000 in
theorem impl_Recovered (b m : Nat) (cap : Nat) (ca : Option Addr) (cc : Nat) (d : DiskD) (x : SlotD) (w : World) (hg : Glob w) (hs : vDisk.rd w [.slice (some ⟨b, 0, none⟩) d.slots.length cap, .string d.journal.text, .int .i64 d.journal.sure] d) (hok : diskOk d = true)
    (hm : bestUp d.slots d.slots.length = m) (hml : m < d.slots.length) (hb : b < w.heap.size) (h0 : w.cell? ⟨b, m * 3, none⟩ = some (.int .i64 x.seq)) (h1 : w.cell? ⟨b, m * 3 + 1, none⟩ = some (.slice ca x.cells.length cc)) (h2 : w.cell? ⟨b, m * 3 + 2, none⟩ = some (.bool x.whole))
    (hr : RdL rCell w (.slice ca x.cells.length cc) x.cells) (hxc : x.cells.length ≤ 1000) (htz : d.journal.text.size ≤ 20000) (hq : 0 ≤ x.seq ∧ x.seq ≤ 99999) (ls : List (List CellD)) (sz : Int) (hrec : recsI d.journal.text (x.seq + 1) = (ls, sz)) (hll : ls.length ≤ 1000) (hlo : ∀ l ∈ ls, l.length ≤ 1000 ∧ ∀ c ∈ l, c.ok) :
    Calls Tryz.prog 19 #[.agg #[.slice (some ⟨b, 0, none⟩) d.slots.length cap, .string d.journal.text, .int .i64 d.journal.sure]] w fun e w' => ∃ v', e = .returned (.tuple #[v', .int .i64 (x.seq + ls.length)]) ∧ OwnL rCell 39 w' w.heap.size v' (foldC x.cells ls) ∧ Below w.heap.size w w' := by
  have HS := Lib.hid hs
  have HR := Lib.hid hr
  have HG := Lib.hid hg
  have HREC := Lib.hid hrec
  have HLO := Lib.hid hlo
  obtain ⟨hq0, hq1⟩ := hq
  have D1 := Lib.hid (impl_DiskOk _ d (w.alloc (.cells #[.slice (some ⟨b, 0, none⟩) d.slots.length cap, .string d.journal.text, .int .i64 d.journal.sure] 46)) (View.rdAlloc hs _))
  rw [hok] at D1
  clear hs hr hg hrec hlo
  go_enter Tryz.func19, Tryz.ntmps19
  go_wp2_with fail
  (go_at_call 58; refine D1.out.mono ?_; rintro e w1 ⟨rfl, hb1⟩)
  have hbw1 : Below w.heap.size w w1 := Below.then ((Below.refl w.heap.size w).ofAlloc _) hb1
  have HB1 := Lib.hid (((Grew.below hb1) w.heap.size (by simp)).trans (heap_alloc_new w (.cells #[.slice (some ⟨b, 0, none⟩) d.slots.length cap, .string d.journal.text, .int .i64 d.journal.sure] 46)))
  have hx := fun j u (hj : ([.slice (some ⟨b, 0, none⟩) d.slots.length cap, .string d.journal.text, .int .i64 d.journal.sure] : List Value)[j]? = some u) => (World.cell?_of_get (i := j) HB1.out).trans (by simpa using hj)
  have x0 := hx 0 _ rfl; have x1 := hx 1 _ rfl; have x2 := hx 2 _ rfl
  have lx := World.lt_of_get HB1.out
  have y0 := (Grew.below hbw1).cell h0
  have y1 := (Grew.below hbw1).cell h1
  have y2 := (Grew.below hbw1).cell h2
  have ly := Nat.lt_of_lt_of_le hb hbw1.size
  have HS1 := Lib.hid (View.rdBelow HS.out hbw1)
  clear hx D1 h0 h1 h2 hb1
  have D2 := fun w' (hb : Below w1.heap.size w1 w') => impl_BestSlot _ d w' (View.rdBelow HS1.out hb)
  rw [hm] at D2
  have D2 := Lib.hid D2
  have hm3 : (m : Int) < d.slots.length := by omega
  have ly2 : b < w1.heap.size + 1 := by omega
  have lx2 : w.heap.size < w1.heap.size + 1 := by omega
  go_wp2
  refine cutR (fun _ b4 => ⟨#[.agg #[.slice (some ⟨b, 0, none⟩) d.slots.length cap, .string d.journal.text, .int .i64 d.journal.sure], .pointer (some ⟨w.heap.size, 0, none⟩), .slice none 0 0, .int .i64 0, .pointer (some ⟨b4, 0, none⟩), undef, undef, undef, undef, undef, undef, undef, .agg #[.slice (some ⟨b, 0, none⟩) d.slots.length cap, .string d.journal.text, .int .i64 d.journal.sure], .bool true, .bool false, .pointer (some ⟨w.heap.size, 0, none⟩), .slice (some ⟨b, 0, none⟩) d.slots.length cap, .agg #[.slice (some ⟨b, 0, none⟩) d.slots.length cap, .string d.journal.text, .int .i64 d.journal.sure], .int .i64 m, .pointer (some ⟨b, m * 3, none⟩), .agg #[.int .i64 x.seq, .slice ca x.cells.length cc, .bool x.whole], undef, undef, undef, undef, undef, undef, undef, undef, undef, undef, undef, undef, undef, undef, undef, undef, undef, undef, undef, undef, undef, undef, undef, undef, undef, undef, undef, undef, undef, undef, undef, undef, undef, undef, undef, undef, undef, undef, undef], []⟩) (fun b4 w' => Below w1.heap.size w1 w' ∧ w1.heap.size ≤ b4 ∧ w'.heap[b4]? = some (.cells #[.int .i64 x.seq, .slice ca x.cells.length cc, .bool x.whole] 41 (0, 0))) ?_ ?_
  · go_region_with (go_at_call 59; refine (D2.out _ (by repeat (first | with_reducible exact Below.refl _ _ | with_reducible apply Below.ofExt | with_reducible apply Below.ofAlloc | with_reducible apply Below.drew | with_reducible apply Below.ofDrewN | with_reducible assumption | (with_reducible refine Below.setCell ?_ (by first | exact Nat.le_refl _ | (simp [go_sem]; done) | (simp [go_sem]; omega)) _)))).mono ?_; rintro e w2 ⟨rfl, hb2⟩; obtain ⟨X2, rfl⟩ := hb2.ext; clear hb2; have ly3 := Nat.lt_of_lt_of_le ly (Nat.le_add_right w1.heap.size X2.bs.size); have ly4 := Nat.lt_of_lt_of_le ly2 (Nat.le_add_right (w1.heap.size + 1) X2.bs.size); have lx3 := Nat.lt_of_lt_of_le lx (Nat.le_add_right w1.heap.size X2.bs.size); have lx4 := Nat.lt_of_lt_of_le lx2 (Nat.le_add_right (w1.heap.size + 1) X2.bs.size); try go_simp)
    all_goals first
      | (refine ⟨w1.heap.size + X2.bs.size, rfl, (by repeat (first | with_reducible exact Below.refl _ _ | with_reducible apply Below.ofExt | with_reducible apply Below.ofAlloc | with_reducible apply Below.drew | with_reducible apply Below.ofDrewN | with_reducible assumption | (with_reducible refine Below.setCell ?_ (by first | exact Nat.le_refl _ | (simp [go_sem]; done) | (simp [go_sem]; omega)) _))), by omega, ?_⟩; have hh := heap_alloc_new (w1.ext X2) (.cells #[.int .i64 x.seq, .slice ca x.cells.length cc, .bool x.whole] 41); rwa [World.ext_size] at hh)
      | (refine ⟨w1.heap.size, rfl, (by repeat (first | with_reducible exact Below.refl _ _ | with_reducible apply Below.ofExt | with_reducible apply Below.ofAlloc | with_reducible apply Below.drew | with_reducible apply Below.ofDrewN | with_reducible assumption | (with_reducible refine Below.setCell ?_ (by first | exact Nat.le_refl _ | (simp [go_sem]; done) | (simp [go_sem]; omega)) _))), Nat.le_refl _, ?_⟩; exact (World.ext_get _ _ (by simp)).trans (heap_alloc_new w1 _))
  · rintro b4 w2 ⟨hb2, hb4, h4⟩
    have hbw2 : Below w.heap.size w w2 := Below.then hbw1 hb2
    have hB4 := Lib.hid h4
    have HBX := Lib.hid (((Grew.below hb2) _ (World.lt_of_get HB1.out)).trans HB1.out)
    have hx := fun j u (hj : ([.slice (some ⟨b, 0, none⟩) d.slots.length cap, .string d.journal.text, .int .i64 d.journal.sure] : List Value)[j]? = some u) => (World.cell?_of_get (i := j) HBX.out).trans (by simpa using hj)
    have p0 := hx 0 _ rfl; have p1 := hx 1 _ rfl; have p2 := hx 2 _ rfl
    have hz := fun j u (hj : ([.int .i64 x.seq, .slice ca x.cells.length cc, .bool x.whole] : List Value)[j]? = some u) => (World.cell?_of_get (i := j) hB4.out).trans (by simpa using hj)
    have q0 := hz 0 _ rfl; have q1 := hz 1 _ rfl; have q2 := hz 2 _ rfl
    clear hx hz h4 x0 x1 x2 y0 y1 y2 hb2 D2 HS HS1 HB1
    have HG2 := Lib.hid (HG.out.below hbw2)
    have HR2 := Lib.hid (HR.out.below hbw2)
    have hz2 := hbw2.size
    clear hbw1 HG HR ly2 lx2 ly lx hb4
    have D3 := Lib.hid (impl_RecordsIn d.journal.text (x.seq + 1) w2 HG2.out (by omega))
    (try simp only []); repeat (first | go_skip | go_guarded | go_step | go_upon | go_back)
    (go_at_call 8; refine D3.out.mono ?_; rintro e w3 ⟨vl, sz', ls', hs', fps, rfl, ho3, he3, hb3⟩)
    obtain ⟨rfl, rfl⟩ : ls = ls' ∧ sz = sz' := by have := HREC.out.symm.trans he3; simpa using this
    have hbw3 : Below w.heap.size w w3 := Below.then hbw2 hb3
    have HR3 := Lib.hid (HR2.out.below hb3)
    have r0 := (Grew.below hb3).cell q0
    have r1 := (Grew.below hb3).cell q1
    have lr : b4 < w3.heap.size := Nat.lt_of_lt_of_le (World.lt_of_get hB4.out) hb3.size
    have HO3 := Lib.hid ho3
    have hlen3 := ho3.len
    obtain ⟨al, cl, rfl, _, hcl, _, _⟩ := ho3.row.rd.shape
    rw [hlen3]
    unfold maxLen at hcl
    have hz3 := hbw3.size
    clear D3 he3 ho3 hB4 HBX p0 p1 p2 q0 q1 q2 HG2 HR2 hbw2 hb3 hlen3
    (try simp only []); repeat (first | go_skip | go_guarded | go_step | go_upon | go_back)
    (go_at_call 60; refine (impl_CloneCells _ x.cells _ HR3.out (by omega)).mono ?_; rintro e w' ⟨v4, rfl, hown4, hb4⟩; obtain ⟨X4, rfl⟩ := hb4.ext; clear hb4; have HS4 := Lib.hid hown4; clear hown4)
    obtain ⟨oa4, oc4, e4⟩ := HS4.out.rd.form
    subst e4
    (try simp only []); repeat (first | go_skip | go_guarded | go_step | go_upon | go_back)
    go_loopw [7, 36] (fun o k wr => ∃ (n : Nat) (xs : List CellD), k = .int .i64 n ∧ n ≤ ls.length ∧ Below w3.heap.size w3 wr ∧ OwnL rCell 39 wr w3.heap.size o xs ∧ xs = foldC x.cells (ls.take n) ∧ xs.length ≤ 1000 + 1000 * n) (fun _ k _ => ls.length - (intOf k).toNat)
    case atStart => exact ⟨0, x.cells, rfl, by omega, (by repeat (first | with_reducible exact Below.refl _ _ | with_reducible apply Below.ofExt | with_reducible apply Below.ofAlloc | with_reducible apply Below.drew | with_reducible apply Below.ofDrewN | with_reducible assumption | (with_reducible refine Below.setCell ?_ (by first | exact Nat.le_refl _ | (simp [go_sem]; done) | (simp [go_sem]; omega)) _))), HS4.out, rfl, by omega⟩
    case round =>
      obtain ⟨n, xs, rfl, hn, hbel, ho, hxs, hxl⟩ := hrel
      obtain ⟨X, rfl⟩ := hbel.ext
      obtain ⟨oa, oc, rfl⟩ := ho.rd.form
      have HO := Lib.hid ho
      clear ho HS4
      by_cases hlt : (n : Int) < ls.length
      case pos =>
        have hk : n < ls.length := by omega
        obtain ⟨bl, ol, al2, cl2, cl3, ev, hbl, hcl2, hrl⟩ := HO3.out.at hk
        simp only [Value.slice.injEq] at ev
        obtain ⟨rfl, _, rfl⟩ := ev
        have hst : ls.take (n + 1) = ls.take n ++ [ls[n]] := List.take_succ_eq_append_getElem hk
        obtain ⟨hll1, hlok⟩ := HLO.out _ (List.getElem_mem hk)
        generalize ls[n] = l at hcl2 hrl hst hll1 hlok
        obtain ⟨ax, capx, ex, hx1, hx2, hxnil, hxne⟩ := hrl.shape
        simp only [Value.slice.injEq] at ex
        obtain ⟨rfl, _, rfl⟩ := ex
        have HX := Lib.hid hxne
        have HOK := Lib.hid hlok
        have HST : Hid (foldC x.cells (ls.take (n + 1)) = applyC xs l) := by show _ = _; rw [hst, foldC_snoc, hxs]
        clear hrl hxnil hxne hlok hst hxs
        unfold maxLen at hx2
        (try simp only []); repeat (first | go_skip | go_guarded | go_step | go_upon | go_back)
        go_loopw [7, 42] (fun o k wr => ∃ (j : Nat) (zs : List CellD), k = .int .i64 j ∧ j ≤ l.length ∧ Below w3.heap.size w3 wr ∧ OwnL rCell 39 wr w3.heap.size o zs ∧ zs = applyC xs (l.take j) ∧ zs.length ≤ 1000 + 1000 * n + j) (fun _ k _ => l.length - (intOf k).toNat)
        case atStart => exact ⟨0, xs, rfl, by omega, (by repeat (first | with_reducible exact Below.refl _ _ | with_reducible apply Below.ofExt | with_reducible apply Below.ofAlloc | with_reducible apply Below.drew | with_reducible apply Below.ofDrewN | with_reducible assumption | (with_reducible refine Below.setCell ?_ (by first | exact Nat.le_refl _ | (simp [go_sem]; done) | (simp [go_sem]; omega)) _))), HO.out, rfl, by omega⟩
        case round =>
          obtain ⟨j, zs, rfl, hj, hbel2, ho2, hzs, hzl⟩ := hrel
          obtain ⟨X2, rfl⟩ := hbel2.ext
          obtain ⟨oz, ocz, rfl⟩ := ho2.rd.form
          have HO2 := Lib.hid ho2
          have HLO2 : Hid (∀ x ∈ (Value.slice oz zs.length ocz).ownBlock.toList, w3.heap.size ≤ x) := fun x hx => (ho2.lt x (by simpa using hx)).1
          clear ho2
          by_cases hlt2 : (j : Int) < l.length
          case pos =>
            have hk2 : j < l.length := by omega
            obtain ⟨bc, oc2, rfl, hbc, hcell⟩ := HX.out (by intro e; simp [e] at hk2)
            have hc := hcell j hk2
            have hst : l.take (j + 1) = l.take j ++ [l[j]] := List.take_succ_eq_append_getElem hk2
            have hck := HOK.out _ (List.getElem_mem hk2)
            generalize l[j] = c at hc hst hck
            have y0 : w3.cell? ⟨bc, oc2 + j * 2, none⟩ = some (.string c.key) := hc 0 _ rfl
            have y1 : w3.cell? ⟨bc, oc2 + j * 2 + 1, none⟩ = some (.string c.val) := hc 1 _ rfl
            clear hc hcell
            have hbc := hbc (by decide)
            have hbl2 : bc < w3.heap.size + X2.bs.size := by omega
            have hbl3 : bc < w3.heap.size + X2.bs.size + 1 := by omega
            have hbl4 : ¬ bc = w3.heap.size + X2.bs.size := by omega
            have HS : Hid (applyC xs (l.take (j + 1)) = putC c.key c.val zs) := by show _ = _; rw [hst, applyC_snoc, hzs]
            clear hst hzs
            (try simp only []); repeat (first | go_skip | go_guarded | go_step | go_upon | go_back)
            (go_at_call 61; refine (impl_put _ zs c.key c.val w3.heap.size _ (by (try simp only [← Array.append_assoc]); (repeat (first | with_reducible exact HO2.out | with_reducible exact OwnL.drC HO2.out | with_reducible apply OwnL.merge2 | with_reducible apply OwnL.ext | with_reducible apply OwnL.alloc)); all_goals exact (0 : Nat)) hck.1 (by omega) (by simp [World.ext_size]; try omega)).mono ?_; rintro e w' ⟨v', rfl, ho', hu'⟩; have hb' := Below.trans (show Below w3.heap.size w3 _ from (by repeat (first | with_reducible exact Below.refl _ _ | with_reducible apply Below.ofExt | with_reducible apply Below.ofAlloc | with_reducible apply Below.drew | with_reducible apply Below.ofDrewN | with_reducible assumption | (with_reducible refine Below.setCell ?_ (by first | exact Nat.le_refl _ | (simp [go_sem]; done) | (simp [go_sem]; omega)) _)))) (hu'.toBelow (by simp [World.ext_size]; try omega) HLO2.out); have HP := Lib.hid ho'; clear ho' hu')
            (try simp only []); repeat (first | go_skip | go_guarded | go_step | go_upon | go_back)
            go_roundw
            case rel => exact ⟨j + 1, _, by go_num, by omega, hb', HP.out, HS.out.symm, Nat.le_trans (putC_len _ _ _) (by omega)⟩
            case measure => simp [intOf]; omega
          case neg =>
            have e : j = l.length := by omega
            have HF : Hid (applyC xs l = zs) := by show _ = _; rw [hzs, e, List.take_length]
            clear hzs
            (try simp only []); repeat (first | go_skip | go_guarded | go_step | go_upon | go_back)
            go_roundw
            case rel => exact ⟨n + 1, _, by go_num, by omega, (by repeat (first | with_reducible exact Below.refl _ _ | with_reducible apply Below.ofExt | with_reducible apply Below.ofAlloc | with_reducible apply Below.drew | with_reducible apply Below.ofDrewN | with_reducible assumption | (with_reducible refine Below.setCell ?_ (by first | exact Nat.le_refl _ | (simp [go_sem]; done) | (simp [go_sem]; omega)) _))), HO2.out, by rw [HST.out, HF.out], by omega⟩
            case measure => simp [intOf]; omega
      case neg =>
        have e : n = ls.length := by omega
        have HF : Hid (foldC x.cells ls = xs) := by show _ = _; rw [hxs, e, List.take_length]
        clear hxs
        (try simp only []); repeat (first | go_skip | go_guarded | go_step | go_upon | go_back)
        go_quiet (fail)
        (try simp only []); repeat (first | go_skip | go_guarded | go_step | go_upon | go_back)
        go_ret2
        refine ⟨_, rfl, ?_, ?_⟩
        · rw [HF.out]; exact OwnL.base HO.out (by omega)
        · exact Below.then hbw3 (by repeat (first | with_reducible exact Below.refl _ _ | with_reducible apply Below.ofExt | with_reducible apply Below.ofAlloc | with_reducible apply Below.drew | with_reducible apply Below.ofDrewN | with_reducible assumption | (with_reducible refine Below.setCell ?_ (by first | exact Nat.le_refl _ | (simp [go_sem]; done) | (simp [go_sem]; omega)) _)))
end Go.Proofs.YtedgenmbdjadkaaGreatDoor
namespace Go.Proofs.YtedgenmbdjadkaaGreatDoor
open Go.ChangeShapes Go.WideShapes Go.ChangeAt Go.RowKit

theorem digit_ne10 (d : Nat) (h : d < 16) : Lib.Hx.digit d ≠ 10 := by
  have hall : ∀ x : Fin 16, Lib.Hx.digit x.val ≠ 10 := by decide
  exact hall ⟨d, h⟩
theorem enc_no10 (l : List UInt8) : (10 : UInt8) ∉ Lib.Hx.encode l := by
  intro hb
  unfold Lib.Hx.encode at hb
  obtain ⟨a, _, hb⟩ := List.mem_flatMap.1 hb
  have := a.toNat_lt
  simp only [List.mem_cons, List.not_mem_nil, or_false] at hb
  rcases hb with hb | hb
  · exact digit_ne10 _ (by omega) hb.symm
  · exact digit_ne10 _ (by omega) hb.symm
theorem itoa_no10 {n : Int} (h0 : 0 ≤ n) (h1 : n ≤ 1000000000) : (10 : UInt8) ∉ Lib.itoa n := by
  intro h
  have := (itoa_val h0 h1).2.1 _ h
  unfold digL at this
  exact absurd this.1 (by decide)
theorem word_no10 (c : CellD) : (10 : UInt8) ∉ wordL c := by
  unfold wordL
  intro h
  rcases List.mem_append.1 h with h | h
  · exact enc_no10 _ h
  · rcases List.mem_cons.1 h with h | h
    · exact absurd h (by decide)
    · exact enc_no10 _ h
theorem bsum_small (l : List UInt8) : 0 ≤ bsum l ∧ bsum l ≤ 999999 := by
  have := bsum_bd l
  omega
theorem recGo_no10 {seq : Int} {cs : List CellD} {l : List UInt8} (h : recGo (Lib.itoa seq) cs = some l) (h0 : 0 ≤ seq) (h1 : seq ≤ 1000000000) : (10 : UInt8) ∉ l := by
  rw [(recGo_form cs _ l h).1]
  intro hm
  rcases List.mem_append.1 hm with hm | hm
  · exact itoa_no10 h0 h1 hm
  · obtain ⟨c, _, hc⟩ := List.mem_flatMap.1 hm
    rcases List.mem_cons.1 hc with hc | hc
    · exact absurd hc (by decide)
    · exact word_no10 c hc
/-- a record's bytes: no byte 10 but the last -/
theorem rec_bytes {seq : Int} {cs : List CellD} {t : ByteArray} (h : recText seq cs = t) (ht : t.size ≠ 0) : ∃ m : List UInt8, t.data.toList = m ++ [10] ∧ (10 : UInt8) ∉ m := by
  obtain ⟨hi, l, hg, hl, rfl⟩ := recText_inv h ht
  have h1 : 1 ≤ seq ∧ seq ≤ 100000 := by unfold inB at hi; simp at hi; omega
  refine ⟨l ++ 32 :: 35 :: Lib.itoa (bsum l), ?_, ?_⟩
  · rw [strOf_list]
    unfold recEnd
    simp
  · have hb := bsum_small l
    intro hm
    rcases List.mem_append.1 hm with hm | hm
    · exact recGo_no10 hg (by omega) (by omega) hm
    · rcases List.mem_cons.1 hm with hm | hm
      · exact absurd hm (by decide)
      · rcases List.mem_cons.1 hm with hm | hm
        · exact absurd hm (by decide)
        · exact itoa_no10 hb.1 (by omega) hm
/-- WHAT IS TORN FROM A RECORD IS NONE. -/
theorem torn_no {seq : Int} {cs : List CellD} {t : ByteArray} (h : recText seq cs = t) (ht : t.size ≠ 0) {n : Nat} (hn : n < t.size) : readI (t.extract 0 n) = none := by
  cases hr : readI (t.extract 0 n) with
  | none => rfl
  | some p =>
    obtain ⟨h1, h2⟩ := (readI_some (seq := p.1) (cs := p.2)).1 hr
    obtain ⟨m, e1, hm⟩ := rec_bytes h ht
    obtain ⟨m', e2, _⟩ := rec_bytes h1 h2
    have hsz : t.data.toList.length = t.size := by simp
    have e3 : (t.extract 0 n).data.toList = t.data.toList.take n := by
      rw [ByteArray.data_extract, Array.toList_extract]
      simp [List.extract_eq_take_drop]
    rw [e3, e1, List.take_append_of_le_length (by rw [e1] at hsz; simp at hsz; omega)] at e2
    exact absurd (List.mem_of_mem_take (by rw [e2]; simp : (10 : UInt8) ∈ m.take n)) hm
theorem whole_yes {seq : Int} {cs : List CellD} {t : ByteArray} (h : recText seq cs = t) (ht : t.size ≠ 0) : readI t = some (seq, cs) := readI_some.2 ⟨h, ht⟩
theorem itoa_len6 {n : Int} (h0 : 0 ≤ n) (h1 : n ≤ 999999) : (Lib.itoa n).length ≤ 6 := by
  unfold Lib.itoa
  rw [if_neg (by omega)]
  exact dec_len 5 _ (by omega)
theorem itoa_len5 {n : Int} (h0 : 0 ≤ n) (h1 : n ≤ 99999) : (Lib.itoa n).length ≤ 5 := by
  unfold Lib.itoa
  rw [if_neg (by omega)]
  exact dec_len 4 _ (by omega)
theorem itoa_pos {n : Int} (h0 : 0 ≤ n) : 1 ≤ (Lib.itoa n).length := by
  unfold Lib.itoa
  rw [if_neg (by omega)]
  obtain ⟨c, r, e, _⟩ := decD_head n.toNat
  rw [e]
  simp
theorem rec_len {seq : Int} {cs : List CellD} {t : ByteArray} (h : recText seq cs = t) (ht : t.size ≠ 0) : ∃ k : Nat, (1 ≤ k ∧ k ≤ 6) ∧ t.size = (Lib.itoa seq).length + (cs.flatMap (fun c => 32 :: wordL c)).length + 3 + k := by
  obtain ⟨hi, l, hg, hl, rfl⟩ := recText_inv h ht
  have hb := bsum_small l
  have e := (recGo_form cs _ l hg).1
  refine ⟨(Lib.itoa (bsum l)).length, ⟨itoa_pos hb.1, itoa_len6 hb.1 hb.2⟩, ?_⟩
  rw [strOf_size]
  unfold recEnd
  have e2 : l.length = (Lib.itoa seq).length + (cs.flatMap (fun c => 32 :: wordL c)).length := by conv => lhs; rw [e]; rw [List.length_append]
  simp only [List.length_append, List.length_cons, List.length_nil]
  omega
theorem dec_lo : ∀ (k u : Nat), 10 ^ k ≤ u → k + 1 ≤ (Lib.decDigits u).length
  | 0, u, h => by
    obtain ⟨c, r, e, _⟩ := decD_head u
    rw [e]
    simp
  | k + 1, u, h => by
    rw [Nat.pow_succ] at h
    have hp : 0 < 10 ^ k := Nat.pow_pos (by decide)
    rw [Lib.decDigits, dif_neg (by omega), List.length_append, List.length_singleton]
    have := dec_lo k (u / 10) (by omega)
    omega
/-- A RECORD IS AT MOST FOUR BYTES LONGER THAN ITS SIZE. -/
theorem rec_size {seq : Int} {cs : List CellD} (h1 : seq ≤ 99999) (h : (recText 100000 cs).size ≠ 0) : (recText seq cs).size ≤ (recText 100000 cs).size + 4 := by
  by_cases hz : (recText seq cs).size = 0
  · omega
  · obtain ⟨k, hk, e⟩ := rec_len rfl hz
    obtain ⟨k', hk', e'⟩ := rec_len rfl h
    obtain ⟨hi, _⟩ := recText_inv (t := recText seq cs) rfl hz
    have h2 : 1 ≤ seq := by unfold inB at hi; simp at hi; omega
    have := itoa_len5 (by omega) h1
    have h6 : 6 ≤ (Lib.itoa 100000).length := by
      unfold Lib.itoa
      rw [if_neg (by omega)]
      exact dec_lo 5 _ (by decide)
    omega
theorem rec7 : (recText 7 []).size ≠ 0 := by
  have hi : inB 7 1 100000 = true := by decide
  have hb := bsum_small (Lib.itoa 7)
  have h2 := itoa_len6 hb.1 hb.2
  have h1 := itoa_len6 (n := 7) (by decide) (by decide)
  rw [recText_some hi (l := Lib.itoa 7) rfl, if_pos (by unfold recEnd; simp only [List.length_append, List.length_cons, List.length_nil]; omega), strOf_size]
  unfold recEnd
  simp
end Go.Proofs.YtedgenmbdjadkaaGreatDoor
namespace Go.Proofs.YtedgenmbdjadkaaGreatDoor
open Go.ChangeShapes Go.WideShapes Go.ChangeAt Go.RowKit

theorem linesL_take : ∀ (m : Nat) (l : List UInt8), l.length ≤ m → ∀ n, linesL (l.take n) <+: linesL l
  | 0, l, h, n => by
    have : l = [] := List.eq_nil_of_length_eq_zero (by omega)
    subst this
    simp
  | m + 1, l, h, n => by
    by_cases hm : (10 : UInt8) ∈ l
    · obtain ⟨a, r, rfl, ha⟩ := first10 hm
      rw [linesL_app r ha]
      by_cases hn : n ≤ a.length
      · rw [List.take_append_of_le_length hn, linesL_none (fun hx => ha (List.mem_of_mem_take hx))]
        exact List.nil_prefix
      · obtain ⟨k, rfl⟩ : ∃ k, n = a.length + (k + 1) := ⟨n - a.length - 1, by omega⟩
        rw [List.take_length_add_append, List.take_succ_cons, linesL_app _ ha]
        rw [List.length_append, List.length_cons] at h
        exact (List.cons_prefix_cons).2 ⟨rfl, linesL_take m r (by omega) k⟩
    · rw [linesL_none (fun hx => hm (List.mem_of_mem_take hx))]
      exact List.nil_prefix
theorem linesB_take (s : ByteArray) (n : Nat) : linesB (s.extract 0 n) <+: linesB s := by
  unfold linesB
  have e3 : (s.extract 0 n).data.toList = s.data.toList.take n := by
    rw [ByteArray.data_extract, Array.toList_extract]
    simp [List.extract_eq_take_drop]
  rw [e3]
  exact List.IsPrefix.map _ (linesL_take _ _ (Nat.le_refl _) n)
def sizes (ls : List ByteArray) : Nat := (ls.map ByteArray.size).sum
theorem linesB_sum (s : ByteArray) : sizes (linesB s) ≤ s.size := by
  unfold sizes linesB
  rw [List.map_map]
  have h := linesL_sum _ s.data.toList (Nat.le_refl _)
  have e : (linesL s.data.toList).map (ByteArray.size ∘ strOf) = (linesL s.data.toList).map List.length := List.map_congr_left fun x _ => strOf_size x
  rw [e]
  have e2 : s.data.toList.length = s.size := by simp
  omega
theorem step_grow {fr : Int} {out : List (List CellD)} {sz : Int} {line : ByteArray} {p : List (List CellD) × Int} (h : recStep fr out sz line = some p) : out <+: p.1 ∧ p.2 = sz + line.size ∧ p.1.length ≤ out.length + 1 := by
  unfold recStep at h
  split at h
  · cases h
  · split at h
    · injection h with h
      subst h
      exact ⟨List.prefix_refl _, rfl, by simp⟩
    · split at h
      · injection h with h
        subst h
        exact ⟨List.prefix_append _ _, rfl, by simp⟩
      · cases h
theorem recs_grow (fr : Int) : ∀ (ls : List ByteArray) (out : List (List CellD)) (sz : Int), out <+: (recs fr ls out sz).1
  | [], out, sz => List.prefix_refl _
  | l :: ls, out, sz => by
    unfold recs
    cases h : recStep fr out sz l with
    | none => exact List.prefix_refl _
    | some p => exact (step_grow h).1.trans (recs_grow fr ls p.1 p.2)
theorem recs_prefix (fr : Int) (ms : List ByteArray) : ∀ (ls : List ByteArray) (out : List (List CellD)) (sz : Int), (recs fr ls out sz).1 <+: (recs fr (ls ++ ms) out sz).1
  | [], out, sz => recs_grow fr ms out sz
  | l :: ls, out, sz => by
    rw [List.cons_append]
    unfold recs
    cases h : recStep fr out sz l with
    | none => exact List.prefix_refl _
    | some p => exact recs_prefix fr ms ls p.1 p.2
theorem recs_size (fr : Int) : ∀ (ls : List ByteArray) (out : List (List CellD)) (sz : Int), (recs fr ls out sz).2 ≤ sz + sizes ls ∧ sz ≤ (recs fr ls out sz).2 ∧ (recs fr ls out sz).1.length ≤ out.length + ls.length
  | [], out, sz => by simp [recs, sizes]
  | l :: ls, out, sz => by
    unfold recs
    cases h : recStep fr out sz l with
    | none =>
      simp only [sizes, List.map_cons, List.sum_cons, List.length_cons]
      omega
    | some p =>
      obtain ⟨_, h2, h3⟩ := step_grow h
      have := recs_size fr ls p.1 p.2
      simp only [sizes, List.map_cons, List.sum_cons, List.length_cons] at this ⊢
      omega
/-- OF A JOURNAL THAT IS CUT THE RECORDS ARE THE FIRST OF THOSE THAT THERE WERE. -/
theorem cut_records (t : ByteArray) (fr : Int) {n : Nat} (hn : n ≤ t.size) : (recsI (t.extract 0 n) fr).1 <+: (recsI t fr).1 ∧ (recsI (t.extract 0 n) fr).2 ≤ n := by
  unfold recsI
  split
  · obtain ⟨ms, h⟩ := linesB_take t n
    refine ⟨?_, ?_⟩
    · rw [← h]
      exact recs_prefix fr ms _ _ _
    · have h1 := (recs_size fr (linesB (t.extract 0 n)) [] 0).1
      have h2 := linesB_sum (t.extract 0 n)
      have h3 : (t.extract 0 n).size ≤ n := by rw [ByteArray.size_extract]; omega
      omega
  · exact ⟨List.prefix_refl _, by simp⟩
/-- a text that is one record -/
theorem recs_one {cs : List CellD} {t : ByteArray} (h : recText 1 cs = t) (ht : t.size ≠ 0) : recsI t 1 = ([cs], (t.size : Int)) := by
  obtain ⟨m, hm, hm2⟩ := rec_bytes h ht
  have hl : linesB t = [t] := by
    unfold linesB
    rw [hm, linesL_app [] hm2, show linesL [] = [] from rfl]
    show [strOf (m ++ [10])] = [t]
    rw [← hm, strOf_data]
  rw [recsI_in (by decide), hl]
  unfold recs
  rw [step_add (whole_yes h ht) (by decide)]
  simp [recs]
theorem rec1_nil : (recText 1 []).size ≠ 0 := by
  have hi : inB 1 1 100000 = true := by decide
  have hb := bsum_small (Lib.itoa 1)
  have h2 := itoa_len6 hb.1 hb.2
  have h1 := itoa_len6 (n := 1) (by decide) (by decide)
  rw [recText_some hi (l := Lib.itoa 1) rfl, if_pos (by unfold recEnd; simp only [List.length_append, List.length_cons, List.length_nil]; omega), strOf_size]
  unfold recEnd
  simp
end Go.Proofs.YtedgenmbdjadkaaGreatDoor
namespace Go.Proofs.YtedgenmbdjadkaaGreatDoor
open Go.ChangeShapes Go.WideShapes Go.ChangeAt Go.RowKit

theorem strOf_back {a : ByteArray} {m : List UInt8} (h : a.data.toList = m) : strOf m = a := by
  rw [← h]
  exact strOf_data a
theorem linesB_two {p q : Int} {cs ds : List CellD} {a b c : ByteArray} (ha : recText p cs = a) (ha0 : a.size ≠ 0) (hb : recText q ds = b) (hb0 : b.size ≠ 0) (hc : (10 : UInt8) ∉ c.data.toList) : linesB (a ++ b ++ c) = [a, b] := by
  obtain ⟨m, hm, hm2⟩ := rec_bytes ha ha0
  obtain ⟨k, hk, hk2⟩ := rec_bytes hb hb0
  have e : (a ++ b ++ c).data.toList = m ++ 10 :: (k ++ 10 :: c.data.toList) := by
    rw [ByteArray.data_append, ByteArray.data_append, Array.toList_append, Array.toList_append, hm, hk]
    simp
  unfold linesB
  rw [e, linesL_app _ hm2, linesL_app _ hk2, linesL_none hc]
  show [strOf (m ++ [10]), strOf (k ++ [10])] = [a, b]
  rw [strOf_back hm, strOf_back hk]
/-- two records in order -/
theorem recs_two {fr : Int} {cs ds : List CellD} {a b c : ByteArray} (hf : inB fr 1 100000 = true) (ha : recText fr cs = a) (ha0 : a.size ≠ 0) (hb : recText (fr + 1) ds = b) (hb0 : b.size ≠ 0) (hc : (10 : UInt8) ∉ c.data.toList) : (recsI (a ++ b ++ c) fr).1 = [cs, ds] := by
  rw [recsI_in hf, linesB_two ha ha0 hb hb0 hc]
  unfold recs
  rw [step_add (whole_yes ha ha0) (by simp)]
  dsimp only
  unfold recs
  rw [step_add (whole_yes hb hb0) (by simp)]
  rfl
/-- a record that lies too early, and one in order -/
theorem recs_skip {fr : Int} {cs ds : List CellD} {a b c : ByteArray} (hf : inB (fr + 1) 1 100000 = true) (ha : recText fr cs = a) (ha0 : a.size ≠ 0) (hb : recText (fr + 1) ds = b) (hb0 : b.size ≠ 0) (hc : (10 : UInt8) ∉ c.data.toList) : (recsI (a ++ b ++ c) (fr + 1)).1 = [ds] := by
  rw [recsI_in hf, linesB_two ha ha0 hb hb0 hc]
  unfold recs
  rw [step_skip (whole_yes ha ha0) (by simp) (by omega)]
  dsimp only
  unfold recs
  rw [step_add (whole_yes hb hb0) (by simp)]
  rfl
theorem rec_nil_ne {n : Int} (h1 : 1 ≤ n) (h2 : n ≤ 1000) : (recText n []).size ≠ 0 := by
  have hi : inB n 1 100000 = true := by unfold inB; simp; omega
  have hb := bsum_small (Lib.itoa n)
  have h2 := itoa_len6 hb.1 hb.2
  have h1 := itoa_len6 (n := n) (by omega) (by omega)
  rw [recText_some hi (l := Lib.itoa n) rfl, if_pos (by unfold recEnd; simp only [List.length_append, List.length_cons, List.length_nil]; omega), strOf_size]
  unfold recEnd
  simp
theorem rec_one_ne {n : Int} (h1 : 1 ≤ n) (h2 : n ≤ 1000) {k v : ByteArray} (hk : keyOk k = true) (hks : k.size ≤ 2) (hvs : v.size ≤ 2) : (recText n [⟨k, v⟩]).size ≠ 0 := by
  have hi : inB n 1 100000 = true := by unfold inB; simp; omega
  have hl1 := itoa_len6 (n := n) (by omega) (by omega)
  have hg : recGo (Lib.itoa n) [⟨k, v⟩] = some (recAdd (Lib.itoa n) ⟨k, v⟩) := by
    have : recOne (Lib.itoa n) ⟨k, v⟩ = true := recOne_true hk (by show (v.size : Int) ≤ 60; omega) (by omega)
    unfold recGo
    rw [if_pos this]
    rfl
  have hl : (recAdd (Lib.itoa n) ⟨k, v⟩).length ≤ 30 := by
    unfold recAdd
    rw [hexT_list (s := k) (by omega), hexT_list (s := v) (by omega)]
    have e1 := hexL_len k
    have e2 := hexL_len v
    simp only [List.length_append, List.length_cons, e1, e2]
    omega
  have hb := bsum_small (recAdd (Lib.itoa n) ⟨k, v⟩)
  have h2 := itoa_len6 hb.1 hb.2
  rw [recText_some hi hg, if_pos (by unfold recEnd; simp only [List.length_append, List.length_cons, List.length_nil]; omega), strOf_size]
  unfold recEnd
  simp
end Go.Proofs.YtedgenmbdjadkaaGreatDoor
namespace Go.Proofs.YtedgenmbdjadkaaGreatDoor
open Go.ChangeShapes Go.WideShapes Go.ChangeAt Go.RowKit

theorem any_first' {α : Type} (p : α → Bool) : ∀ xs : List α, xs.any p = true → ∃ n, ∃ h : n < xs.length, (xs.take n).any p = false ∧ p xs[n] = true
  | [], h => by cases h
  | x :: xs, h => by
    cases hp : p x with
    | true => exact ⟨0, by simp, rfl, hp⟩
    | false =>
      rw [List.any_cons, hp, Bool.false_or] at h
      obtain ⟨n, hn, h1, h2⟩ := any_first' p xs h
      exact ⟨n + 1, by simpa using hn, by rw [List.take_succ_cons, List.any_cons, hp, h1]; rfl, by simpa using h2⟩
def getC (key : ByteArray) (xs : List CellD) : ByteArray := match xs.find? (isKey key) with
  | some c => c.val
  | none => ⟨#[]⟩
theorem getC_none (key : ByteArray) (xs : List CellD) (h : xs.any (isKey key) = false) : getC key xs = ⟨#[]⟩ := by
  unfold getC
  rw [List.find?_eq_none.2 (fun x hx => by rw [List.any_eq_false] at h; exact h x hx)]
theorem getC_at (key : ByteArray) (xs : List CellD) (n : Nat) (hn : n < xs.length) (h : (xs.take n).any (isKey key) = false) (h2 : isKey key xs[n] = true) : getC key xs = xs[n].val := by
  unfold getC
  have e : xs = xs.take n ++ xs[n] :: xs.drop (n + 1) := by rw [← List.drop_eq_getElem_cons hn, List.take_append_drop]
  have hf : xs.find? (isKey key) = some xs[n] := by
    conv => lhs; rw [e]
    rw [List.find?_append, List.find?_eq_none.2 (fun x hx => by rw [List.any_eq_false] at h; exact h x hx), List.find?_cons_of_pos h2]
    rfl
  rw [hf]
theorem getC_ok (key : ByteArray) (xs : List CellD) (h : ∀ c ∈ xs, c.ok) : (getC key xs).size ≤ 9223372036854775807 := by
  unfold getC
  cases hf : xs.find? (isKey key) with
  | none => show (0 : Nat) ≤ _; omega
  | some c => exact (h c (List.mem_of_find?_eq_some hf)).2
theorem impl_cellAt1 (c : CellD) (key : ByteArray) (b : Nat) (w : World) (hb : b < w.heap.size) (hc : w.cell? ⟨b, 0, none⟩ = some (.string key)) :
    Calls Tryz.prog 92 #[.agg #[.string c.key, .string c.val], .pointer (some ⟨b, 0, none⟩)] w fun e w' => e = .returned (.bool (isKey key c)) ∧ Below w.heap.size w w' := by
  have h : isKey key c = (c.key.toList == key.toList) := rfl
  rw [h]
  clear h
  go_enter Tryz.func92, Tryz.ntmps92
  go_wp2
  go_ret
  exact ⟨rfl, (by repeat (first | with_reducible exact Below.refl _ _ | with_reducible apply Below.ofExt | with_reducible apply Below.ofAlloc | with_reducible apply Below.drew | with_reducible apply Below.ofDrewN | with_reducible assumption | (with_reducible refine Below.setCell ?_ (by first | exact Nat.le_refl _ | (simp [go_sem]; done) | (simp [go_sem]; omega)) _)))⟩
set_option maxRecDepth 100000 in
theorem cells_IndexFunc3 (v : Value) (ds : List CellD) (key : ByteArray) (b0 : Nat) (w : World) (hs : RdL rCell w v ds) (hb0 : b0 < w.heap.size) (hc0 : w.cell? ⟨b0, 0, none⟩ = some (.string key)) :
    Calls Tryz.prog 89 #[v, .func (Fn.func 92) #[] #[.pointer (some ⟨b0, 0, none⟩)]] w fun e w' => e = .returned (.int .i64 (firstIdx (isKey key) ds)) ∧ Below w.heap.size w w' := by
  obtain ⟨ao, cap, rfl, hc1, hc2, hnil, hne⟩ := hs.shape
  have HX := Lib.hid hne
  have HC := Lib.hid hc0
  clear hs hne hnil hc0
  unfold maxLen at hc2
  go_enter Tryz.func89, Tryz.ntmps89
  go_wp2
  go_loopw [8] (fun k wr => ∃ (n : Nat), k = .int .i64 n ∧ n ≤ ds.length ∧ Below w.heap.size w wr ∧ (ds.take n).any (isKey key) = false) (fun k _ => ds.length - (intOf k).toNat)
  case atStart => exact ⟨0, rfl, by omega, (by repeat (first | with_reducible exact Below.refl _ _ | with_reducible apply Below.ofExt | with_reducible apply Below.ofAlloc | with_reducible apply Below.drew | with_reducible apply Below.ofDrewN | with_reducible assumption | (with_reducible refine Below.setCell ?_ (by first | exact Nat.le_refl _ | (simp [go_sem]; done) | (simp [go_sem]; omega)) _))), rfl⟩
  case round =>
    obtain ⟨n, rfl, hn, hbel, hany⟩ := hrel
    obtain ⟨X, rfl⟩ := hbel.ext
    have HA := Lib.hid hany
    clear hany
    by_cases hlt : (n : Int) < ds.length
    · have hk : n < ds.length := by omega
      obtain ⟨b, off, rfl, hbl, hcell⟩ := HX.out (by intro e; simp [e] at hk)
      have hc := hcell n hk
      have hst := any_take_step (isKey key) ds n hk
      have hff : (ds.take n).any (isKey key) = false → isKey key ds[n] = true → firstIdx (isKey key) ds = n := fun h h2 => firstIdx_found (isKey key) ds n hk h h2
      generalize ds[n] = d at hc hst hff
      have y0 : w.cell? ⟨b, off + n * 2, none⟩ = some (.string d.key) := hc 0 _ rfl
      have y1 : w.cell? ⟨b, off + n * 2 + 1, none⟩ = some (.string d.val) := hc 1 _ rfl
      clear hc hcell
      have hbl := hbl (by decide)
      have HT := Lib.hid hst
      have HF := Lib.hid hff
      clear hst hff
      cases hm : isKey key d with
      | true =>
        have HM := Lib.hid hm
        clear hm
        go_wp2_with fail
        (go_at_call 92; refine (impl_cellAt1 d key b0 _ (by simp [go_sem]; try omega) (by repeat (first | exact HC.out | refine Grew.cell (Grew.ext _ _) ?_ | refine Grew.cell (Grew.alloc _ _) ?_))).mono ?_; rintro e w' ⟨rfl, hb⟩; obtain ⟨X, rfl⟩ := hb.ext; clear hb)
        rw [HM.out]
        go_wp2
        go_ret
        exact ⟨by rw [HF.out HA.out HM.out]; rfl, (by repeat (first | with_reducible exact Below.refl _ _ | with_reducible apply Below.ofExt | with_reducible apply Below.ofAlloc | with_reducible apply Below.drew | with_reducible apply Below.ofDrewN | with_reducible assumption | (with_reducible refine Below.setCell ?_ (by first | exact Nat.le_refl _ | (simp [go_sem]; done) | (simp [go_sem]; omega)) _)))⟩
      | false =>
        have HM := Lib.hid hm
        clear hm
        go_wp2_with fail
        (go_at_call 92; refine (impl_cellAt1 d key b0 _ (by simp [go_sem]; try omega) (by repeat (first | exact HC.out | refine Grew.cell (Grew.ext _ _) ?_ | refine Grew.cell (Grew.alloc _ _) ?_))).mono ?_; rintro e w' ⟨rfl, hb⟩; obtain ⟨X, rfl⟩ := hb.ext; clear hb)
        rw [HM.out]
        go_wp2
        go_roundw
        case rel => exact ⟨n + 1, by go_num, by omega, (by repeat (first | with_reducible exact Below.refl _ _ | with_reducible apply Below.ofExt | with_reducible apply Below.ofAlloc | with_reducible apply Below.drew | with_reducible apply Below.ofDrewN | with_reducible assumption | (with_reducible refine Below.setCell ?_ (by first | exact Nat.le_refl _ | (simp [go_sem]; done) | (simp [go_sem]; omega)) _))), by rw [HT.out, HA.out, HM.out]; rfl⟩
        case measure => simp [intOf]; omega
    · go_wp2
      go_ret
      have e : n = ds.length := by omega
      subst e
      have ha := HA.out
      rw [List.take_length] at ha
      exact ⟨by rw [firstIdx_none (isKey key) ds ha]; rfl, (by repeat (first | with_reducible exact Below.refl _ _ | with_reducible apply Below.ofExt | with_reducible apply Below.ofAlloc | with_reducible apply Below.drew | with_reducible apply Below.ofDrewN | with_reducible assumption | (with_reducible refine Below.setCell ?_ (by first | exact Nat.le_refl _ | (simp [go_sem]; done) | (simp [go_sem]; omega)) _)))⟩
theorem impl_cellAt (v : Value) (ds : List CellD) (key : ByteArray) (w : World) (hs : RdL rCell w v ds) :
    Calls Tryz.prog 62 #[v, .string key] w fun e w' => e = .returned (.int .i64 (firstIdx (isKey key) ds)) ∧ Below w.heap.size w w' := by
  obtain ⟨ao, cap, rfl⟩ := hs.form
  have HS := Lib.hid hs
  clear hs
  go_enter Tryz.func62, Tryz.ntmps62
  go_wp2_with fail
  (go_at_call 89; refine (cells_IndexFunc3 _ ds key w.heap.size _ (HS.out.alloc _) (by simp) (by simp [go_sem])).mono ?_; rintro e w' ⟨rfl, hb⟩; obtain ⟨X, rfl⟩ := hb.ext; clear hb)
  go_wp2
  go_ret
  exact ⟨rfl, (by repeat (first | with_reducible exact Below.refl _ _ | with_reducible apply Below.ofExt | with_reducible apply Below.ofAlloc | with_reducible apply Below.drew | with_reducible apply Below.ofDrewN | with_reducible assumption | (with_reducible refine Below.setCell ?_ (by first | exact Nat.le_refl _ | (simp [go_sem]; done) | (simp [go_sem]; omega)) _)))⟩
set_option maxRecDepth 100000 in
theorem impl_GetKey (v : Value) (ds : List CellD) (key : ByteArray) (w : World) (hs : RdL rCell w v ds) :
    Calls Tryz.prog 20 #[v, .string key] w fun e w' => e = .returned (.string (getC key ds)) ∧ Below w.heap.size w w' := by
  obtain ⟨ao, cap, rfl, hc1, hc2, hnil, hne⟩ := hs.shape
  have HS := Lib.hid hs
  have HX := Lib.hid hne
  unfold maxLen at hc2
  clear hs hne hnil
  cases hany : ds.any (isKey key) with
  | false =>
    have HI : Hid (firstIdx (isKey key) ds = -1) := firstIdx_none _ _ hany
    have HG : Hid (getC key ds = ⟨#[]⟩) := getC_none key ds hany
    clear hany
    go_enter Tryz.func20, Tryz.ntmps20
    go_wp2_with fail
    (go_at_call 62; refine (impl_cellAt _ ds key _ HS.out).mono ?_; rintro e w' ⟨rfl, hb⟩; obtain ⟨X, rfl⟩ := hb.ext; clear hb)
    rw [HI.out]
    go_wp2
    go_ret
    exact ⟨by rw [HG.out]; rfl, (by repeat (first | with_reducible exact Below.refl _ _ | with_reducible apply Below.ofExt | with_reducible apply Below.ofAlloc | with_reducible apply Below.drew | with_reducible apply Below.ofDrewN | with_reducible assumption | (with_reducible refine Below.setCell ?_ (by first | exact Nat.le_refl _ | (simp [go_sem]; done) | (simp [go_sem]; omega)) _)))⟩
  | true =>
    obtain ⟨n, hn, hbef, hat⟩ := any_first' _ _ hany
    have HI : Hid (firstIdx (isKey key) ds = n) := firstIdx_found _ _ n hn hbef hat
    have hg := getC_at key ds n hn hbef hat
    obtain ⟨b, off, rfl, hbl, hcell⟩ := HX.out (by intro e; simp [e] at hn)
    have hc := hcell n hn
    clear hany hbef hat hcell
    generalize ds[n] = d at hc hg
    have HG := Lib.hid hg
    have y1 : w.cell? ⟨b, off + n * 2 + 1, none⟩ = some (.string d.val) := hc 1 _ rfl
    have hbl := hbl (by decide)
    clear hg hc
    go_enter Tryz.func20, Tryz.ntmps20
    go_wp2_with fail
    (go_at_call 62; refine (impl_cellAt _ ds key _ HS.out).mono ?_; rintro e w' ⟨rfl, hb⟩; obtain ⟨X, rfl⟩ := hb.ext; clear hb)
    rw [HI.out]
    go_wp2
    go_ret
    exact ⟨by rw [HG.out]; rfl, (by repeat (first | with_reducible exact Below.refl _ _ | with_reducible apply Below.ofExt | with_reducible apply Below.ofAlloc | with_reducible apply Below.drew | with_reducible apply Below.ofDrewN | with_reducible assumption | (with_reducible refine Below.setCell ?_ (by first | exact Nat.le_refl _ | (simp [go_sem]; done) | (simp [go_sem]; omega)) _)))⟩
end Go.Proofs.YtedgenmbdjadkaaGreatDoor
namespace Go.Proofs.YtedgenmbdjadkaaGreatDoor
open Go.ChangeShapes Go.WideShapes Go.ChangeAt Go.RowKit

def aD : CellD := ⟨⟨#[97]⟩, ⟨#[49]⟩⟩
def bD : CellD := ⟨⟨#[98]⟩, ⟨#[50]⟩⟩
def qD : CellD := ⟨⟨#[113]⟩, ⟨#[57]⟩⟩
def cD : CellD := ⟨⟨#[99]⟩, ⟨#[51]⟩⟩
theorem rec_one_size {n : Int} (h1 : 1 ≤ n) (h2 : n ≤ 1000) {k v : ByteArray} (hk : keyOk k = true) (hks : k.size ≤ 2) (hvs : v.size ≤ 2) : (recText n [⟨k, v⟩]).size ≤ 1000 := by
  have hi : inB n 1 100000 = true := by unfold inB; simp; omega
  have hl1 := itoa_len6 (n := n) (by omega) (by omega)
  have hg : recGo (Lib.itoa n) [⟨k, v⟩] = some (recAdd (Lib.itoa n) ⟨k, v⟩) := by
    have : recOne (Lib.itoa n) ⟨k, v⟩ = true := recOne_true hk (by show (v.size : Int) ≤ 60; omega) (by omega)
    unfold recGo
    rw [if_pos this]
    rfl
  have hl : (recAdd (Lib.itoa n) ⟨k, v⟩).length ≤ 30 := by
    unfold recAdd
    rw [hexT_list (s := k) (by omega), hexT_list (s := v) (by omega)]
    have e1 := hexL_len k
    have e2 := hexL_len v
    simp only [List.length_append, List.length_cons, e1, e2]
    omega
  have hb := bsum_small (recAdd (Lib.itoa n) ⟨k, v⟩)
  have h2 := itoa_len6 hb.1 hb.2
  rw [recText_some hi hg, if_pos (by unfold recEnd; simp only [List.length_append, List.length_cons, List.length_nil]; omega), strOf_size]
  unfold recEnd
  simp only [List.length_append, List.length_cons, List.length_nil]
  omega
theorem img_recs {f : Int} (h1 : 1 ≤ f) (h2 : f ≤ 50) : (recsI (recText f [qD] ++ recText (f + 1) [cD]) (f + 1)).1 = [[cD]] := by
  have h := recs_skip (fr := f) (cs := [qD]) (ds := [cD]) (c := ⟨#[]⟩) (by unfold inB; simp; omega) rfl (rec_one_ne h1 (by omega) (by decide) (by decide) (by decide)) rfl (rec_one_ne (by omega) (by omega) (by decide) (by decide) (by decide)) (by simp)
  have e : recText f [qD] ++ recText (f + 1) [cD] ++ (⟨#[]⟩ : ByteArray) = recText f [qD] ++ recText (f + 1) [cD] := by
    apply ByteArray.ext
    simp [ByteArray.data_append]
  rwa [e] at h
theorem img_size {f : Int} (h1 : 1 ≤ f) (h2 : f ≤ 50) : (recText f [qD] ++ recText (f + 1) [cD]).size ≤ 2000 := by
  have a := rec_one_size (n := f) (k := ⟨#[113]⟩) (v := ⟨#[57]⟩) h1 (by omega) (by decide) (by decide) (by decide)
  have b := rec_one_size (n := f + 1) (k := ⟨#[99]⟩) (v := ⟨#[51]⟩) (by omega) (by omega) (by decide) (by decide) (by decide)
  rw [ByteArray.size_append]
  unfold qD cD
  omega
def imgD (n m : Int) (t : ByteArray) : DiskD := ⟨[⟨n, [aD], true⟩, ⟨m, [bD], true⟩], ⟨t, 0⟩⟩
theorem img_ok {n m : Int} {t : ByteArray} (h1 : 0 ≤ n) (h2 : n ≤ 50) (h3 : 0 ≤ m) (h4 : m ≤ 50) (ht : t.size ≤ 2000) : diskOk (imgD n m t) = true := by
  have s1 : storeOk [aD] = true := by decide
  have s2 : storeOk [bD] = true := by decide
  have e1 : inB n 0 99999 = true := by unfold inB; simp; omega
  have e2 : inB m 0 99999 = true := by unfold inB; simp; omega
  have e3 : journalOk ⟨t, 0⟩ = true := by unfold journalOk inB; simp; omega
  unfold diskOk imgD slotOk
  simp only [List.all_cons, List.all_nil, List.any_cons, List.any_nil, s1, s2, e1, e2, e3]
  rfl
theorem img_best {n m : Int} {t : ByteArray} : bestUp (imgD n m t).slots (imgD n m t).slots.length = if n < m then ((1 : Nat) : Int) else ((0 : Nat) : Int) := by
  simp [imgD, bestUp, seqAt]
theorem img_foldA : foldC [aD] [[cD]] = [aD, cD] := by kernel_rfl
theorem img_foldB : foldC [bD] [[cD]] = [bD, cD] := by kernel_rfl
theorem img_getA : getC ⟨#[99]⟩ [aD, cD] = ⟨#[51]⟩ ∧ getC ⟨#[97]⟩ [aD, cD] = ⟨#[49]⟩ ∧ [aD, cD].any (isKey ⟨#[113]⟩) = false := ⟨by kernel_rfl, by kernel_rfl, by kernel_rfl⟩
theorem img_getB : getC ⟨#[99]⟩ [bD, cD] = ⟨#[51]⟩ ∧ getC ⟨#[98]⟩ [bD, cD] = ⟨#[50]⟩ ∧ [bD, cD].any (isKey ⟨#[113]⟩) = false := ⟨by kernel_rfl, by kernel_rfl, by kernel_rfl⟩
theorem rd_two {α : Type} (V : View α) {e : TypeId} {w : World} {b k : Nat} {c1 c2 : List Value} {d1 d2 : α} {t : TypeId} (hk : V.k = k) (h1 : V.rd w c1 d1) (h2 : V.rd w c2 d2) (hb : w.heap[b]? = some (.cells (c1 ++ c2).toArray t)) : (vSlice V e).rd w [.slice (some ⟨b, 0, none⟩) 2 2] [d1, d2] :=
  ⟨_, 2, [c1, c2], rfl, Nat.le_refl _, by unfold maxLen; omega, (fun h => by cases h), rfl, fun i hi hc => by
    have : i = 0 ∨ i = 1 := by simp at hi; omega
    rcases this with rfl | rfl
    · exact h1
    · exact h2, fun _ => ⟨b, 0, rfl, World.lt_of_get hb, fun j u hj => by
    rw [World.cell?_of_get hb, Nat.zero_add]
    simpa using hj⟩⟩
theorem img_slot {w : World} {n : Int} {b : Nat} {d : CellD} (hd : d.ok) (h : w.heap[b]? = some (.cells #[.string d.key, .string d.val] 39 (0, 0))) : vSlot.rd w [.int .i64 n, .slice (some ⟨b, 0, none⟩) 1 1, .bool true] ⟨n, [d], true⟩ :=
  ⟨_, rfl, ⟨_, 1, [[.string d.key, .string d.val]], rfl, Nat.le_refl _, by unfold maxLen; omega, (fun h => by cases h), rfl, fun i hi hc => by
    have : i = 0 := by simp at hi; omega
    subst this
    exact ⟨rfl, hd⟩, fun _ => ⟨b, 0, rfl, World.lt_of_get h, fun j u hj => by
    rw [World.cell?_of_get h, Nat.zero_add]
    simpa using hj⟩⟩⟩
theorem img_rd {w : World} {n m : Int} {t : ByteArray} {ba bb bs : Nat} (ht : t.size ≤ 2000) (ha : w.heap[ba]? = some (.cells #[.string aD.key, .string aD.val] 39 (0, 0))) (hb : w.heap[bb]? = some (.cells #[.string bD.key, .string bD.val] 39 (0, 0)))
    (hs : w.heap[bs]? = some (.cells #[.int .i64 n, .slice (some ⟨ba, 0, none⟩) 1 1, .bool true, .int .i64 m, .slice (some ⟨bb, 0, none⟩) 1 1, .bool true] 41 (0, 0))) :
    vDisk.rd w [.slice (some ⟨bs, 0, none⟩) (imgD n m t).slots.length 2, .string (imgD n m t).journal.text, .int .i64 (imgD n m t).journal.sure] (imgD n m t) :=
  ⟨_, rfl, rd_two vSlot rfl (img_slot (by constructor <;> decide) ha) (img_slot (by constructor <;> decide) hb) hs, by show t.size ≤ _; omega⟩
set_option maxRecDepth 100000 in
theorem impl_HasKey (v : Value) (ds : List CellD) (key : ByteArray) (w : World) (hs : RdL rCell w v ds) (hany : ds.any (isKey key) = false) :
    Calls Tryz.prog 21 #[v, .string key] w fun e w' => e = .returned (.bool false) ∧ Below w.heap.size w w' := by
  obtain ⟨ao, cap, rfl, hc1, hc2, hnil, hne⟩ := hs.shape
  have HS := Lib.hid hs
  have HI : Hid (firstIdx (isKey key) ds = -1) := firstIdx_none _ _ hany
  clear hs hne hnil hany
  unfold maxLen at hc2
  go_enter Tryz.func21, Tryz.ntmps21
  go_wp2_with fail
  (go_at_call 62; refine (impl_cellAt _ ds key _ HS.out).mono ?_; rintro e w' ⟨rfl, hb⟩; obtain ⟨X, rfl⟩ := hb.ext; clear hb)
  rw [HI.out]
  go_wp2
  go_ret
  exact ⟨rfl, (by repeat (first | with_reducible exact Below.refl _ _ | with_reducible apply Below.ofExt | with_reducible apply Below.ofAlloc | with_reducible apply Below.drew | with_reducible apply Below.ofDrewN | with_reducible assumption | (with_reducible refine Below.setCell ?_ (by first | exact Nat.le_refl _ | (simp [go_sem]; done) | (simp [go_sem]; omega)) _)))⟩
end Go.Proofs.YtedgenmbdjadkaaGreatDoor
namespace Go.Proofs.YtedgenmbdjadkaaGreatDoor
open Go.ChangeShapes Go.WideShapes Go.ChangeAt Go.RowKit

def ltS (a b : ByteArray) : Bool := Op.bytesLess a.toList b.toList
/-- how many at the head are below x -/
def putAt (xs : List ByteArray) (x : ByteArray) : Nat := (xs.takeWhile (ltS · x)).length
def putS (xs : List ByteArray) (x : ByteArray) : List ByteArray := if xs[putAt xs x]? = some x then xs else xs.take (putAt xs x) ++ x :: xs.drop (putAt xs x)

theorem Tryz.elemStrs : Elem Tryz.prog 61 9 1 16 := Elem.of (.string ⟨#[]⟩) Tryz.underlying61 (by kernel_rfl) rfl (by decide)

theorem takeWhile_le {α : Type} (p : α → Bool) (l : List α) : (l.takeWhile p).length ≤ l.length := by
  induction l with
  | nil => simp
  | cons a l ih => simp only [List.takeWhile_cons]; split <;> simp <;> omega

theorem putAt_lt {xs : List ByteArray} {x : ByteArray} {k : Nat} (hk : k < putAt xs x) (h : k < xs.length) : ltS xs[k] x = true := by
  have h1 : (xs.takeWhile (ltS · x))[k]'hk = xs[k] := by
    have := List.takeWhile_prefix (ltS · x) (l := xs)
    exact List.IsPrefix.getElem this hk
  have h2 : ∀ (l : List ByteArray) (k : Nat) (h : k < (l.takeWhile (ltS · x)).length), ltS (l.takeWhile (ltS · x))[k] x = true := by
    intro l
    induction l with
    | nil => intro k h; simp at h
    | cons a l ih =>
      intro k h
      simp only [List.takeWhile_cons] at h ⊢
      split at h
      · rename_i ha
        simp only [ha, if_true]
        cases k with
        | zero => exact ha
        | succ k => exact ih k (by simpa using h)
      · simp at h
  have h3 := h2 xs k hk
  rw [h1] at h3
  exact h3
theorem putAt_ge {xs : List ByteArray} {x : ByteArray} (h : putAt xs x < xs.length) : ltS xs[putAt xs x] x = false := by
  have h2 : ∀ (l : List ByteArray) (h : (l.takeWhile (ltS · x)).length < l.length), ltS l[(l.takeWhile (ltS · x)).length] x = false := by
    intro l
    induction l with
    | nil => intro h; simp at h
    | cons a l ih =>
      intro h
      by_cases ha : ltS a x = true
      · simp only [List.takeWhile_cons, ha, if_true, List.length_cons] at h ⊢
        simpa using ih (by simpa using h)
      · have ha' : ltS a x = false := by simpa using ha
        simp only [List.takeWhile_cons, ha', Bool.false_eq_true, if_false, List.length_nil]
        exact ha'
  exact h2 xs h
theorem rd_cast {α : Type} {R : RowOf α} {w : World} {v : Value} {xs ys : List α} (h : RdL R w v xs) (e : ys = xs) : RdL R w v ys := by rw [e]; exact h

end Go.Proofs.YtedgenmbdjadkaaGreatDoor
namespace Go.Proofs.YtedgenmbdjadkaaGreatDoor
open Go.ChangeShapes Go.WideShapes Go.ChangeAt Go.RowKit

/-- block p is a cursor over bytes -/
def curObj (vb : Value) (i h : Int) : Obj := .cells #[vb, .int .i64 i, .int .i64 h] 106 (0, 0)
structure Cur (w : World) (p : Nat) (vb : Value) (bs : List UInt8) (i h : Int) : Prop where
  blk : w.heap[p]? = some (curObj vb i h)
  bytes : Sl w vb bs.length (bytesOf bs)
  lo : 0 ≤ i
  hi : i ≤ bs.length
  off : vb.ownBlock ≠ some p
  len : bs.length ≤ 140737488351232

theorem Cur.ext {w : World} {p : Nat} {vb : Value} {bs : List UInt8} {i h : Int} (c : Cur w p vb bs i h) (X : Ext) : Cur (w.ext X) p vb bs i h :=
  ⟨by rw [w.ext_get X (World.lt_of_get c.blk)]; exact c.blk, c.bytes.ext X, c.lo, c.hi, c.off, c.len⟩
theorem Cur.alloc {w : World} {p : Nat} {vb : Value} {bs : List UInt8} {i h : Int} (c : Cur w p vb bs i h) (o : Obj) : Cur (w.alloc o) p vb bs i h :=
  ⟨by rw [Below.heap_alloc w o p (World.lt_of_get c.blk)]; exact c.blk, c.bytes.alloc o, c.lo, c.hi, c.off, c.len⟩
theorem Cur.drew {w : World} {p : Nat} {vb : Value} {bs : List UInt8} {i h : Int} (c : Cur w p vb bs i h) : Cur w.drew p vb bs i h :=
  ⟨c.blk, c.bytes, c.lo, c.hi, c.off, c.len⟩
theorem Cur.set {w : World} {p : Nat} {vb : Value} {bs : List UInt8} {i h : Int} (c : Cur w p vb bs i h) {i' h' : Int} (h0 : 0 ≤ i') (h1 : i' ≤ bs.length) : Cur (w.setB p (curObj vb i' h')) p vb bs i' h' :=
  ⟨w.setB_at p _ (World.lt_of_get c.blk), c.bytes.setB c.off _, h0, h1, c.off, c.len⟩

theorem Cur.got {w w' : World} {p : Nat} {vb : Value} {bs : List UInt8} {i h i' h' : Int} (c : Cur w p vb bs i h) (g : Got p w (curObj vb i' h') w') (h0 : 0 ≤ i') (h1 : i' ≤ bs.length) : Cur w' p vb bs i' h' := by
  obtain ⟨X, rfl⟩ := g
  exact (c.set h0 h1).ext X
theorem Cur.below {w w' : World} {p : Nat} {vb : Value} {bs : List UInt8} {i h : Int} (c : Cur w p vb bs i h) (g : Below w.heap.size w w') : Cur w' p vb bs i h := by
  obtain ⟨X, rfl⟩ := g.ext
  exact c.ext X
theorem Cur.lt {w : World} {p : Nat} {vb : Value} {bs : List UInt8} {i h : Int} (c : Cur w p vb bs i h) : p < w.heap.size := World.lt_of_get c.blk

theorem and255 (x : Int) : 0 ≤ bits BinOp.and IntKind.i64 x 255 ∧ bits BinOp.and IntKind.i64 x 255 ≤ 255 := by
  have h : ∀ n : Nat, IntKind.i64.wrap ((n &&& 255 : Nat) : Int) = ((n &&& 255 : Nat) : Int) := fun n => by
    have := Nat.and_le_right (n := n) (m := 255)
    exact IntWalk.i64_in _ (by omega)
  unfold bits
  simp only [BitVec.toNat_and]
  have e : (BitVec.ofInt IntKind.i64.bits 255).toNat = 255 := by decide
  rw [e, h]
  have := Nat.and_le_right (n := (BitVec.ofInt IntKind.i64.bits x).toNat) (m := 255)
  omega

theorem spec_l01Byte (p : Nat) (vb : Value) (bs : List UInt8) (i h : Int) (w : World) (hc : Cur w p vb bs i h) :
    Calls Tryz.prog 81 #[.pointer (some ⟨p, 0, none⟩)] w fun e w' => ∃ x i' h', e = .returned (.int .i64 x) ∧ 0 ≤ x ∧ x ≤ 255 ∧ Got p w (curObj vb i' h') w' ∧ 0 ≤ i' ∧ i' ≤ bs.length := by
  obtain ⟨hb, hs, h0, h1, ho, hl⟩ := hc
  have hp := World.lt_of_get hb
  refine World.at_block hb ?_
  unfold curObj
  clear hb
  have ha := fun x => and255 x
  have HA := Lib.hid ha
  clear ha
  rcases hs with ⟨rfl, hn, _⟩ | ⟨b, off, cap, rfl, hc1, hc2, hcell⟩
  · have hlt : ¬ i < 0 := by omega
    go_enter Tryz.func81, Tryz.ntmps81
    go_wp2
    refine wp_region_ord [(0,true),(1,true),(2,true),(3,true),(4,true),(5,true),(6,true),(7,true),(8,true),(9,true),(10,true),(11,true),(12,false)] 12 (by kernel_rfl) (by kernel_rfl) ?_
    repeat (refine wpOrd_quiet rfl (fun K hK => ?_); go_simp; (try simp (disch := omega) only [IntWalk.i64_in]); refine hK _ ?_; clear hK K)
    repeat (refine wpOrd_tail rfl rfl (fun K hK => ?_); go_simp; refine hK _ _ ?_; clear hK K)
    refine wpOrd_nil ?_
    generalize hx : bits BinOp.and IntKind.i64 _ 255 = x
    have hx0 : 0 ≤ x ∧ x ≤ 255 := hx ▸ HA.out _
    clear hx
    go_wp2
    refine wp_region_ord [(0,true),(1,true),(2,true),(3,true),(4,true),(5,true),(6,true),(7,true),(8,true),(9,true)] 10 (by kernel_rfl) (by kernel_rfl) ?_
    repeat (refine wpOrd_quiet rfl (fun K hK => ?_); go_simp; (try simp (disch := omega) only [IntWalk.i64_in]); refine hK _ ?_; clear hK K)
    repeat (refine wpOrd_tail rfl rfl (fun K hK => ?_); go_simp; refine hK _ _ ?_; clear hK K)
    refine wpOrd_nil ?_
    go_wp2
    go_ret
    exact ⟨x, i, _, rfl, hx0.1, hx0.2, (by repeat (first | with_reducible exact Got.mk _ _ _ | with_reducible apply Got.ext | with_reducible apply Got.drew | with_reducible apply Got.alloc)), h0, h1⟩
  · have hbp : b ≠ p := fun e => ho (by simp [Value.ownBlock, e])
    by_cases hi : i < bs.length
    · obtain ⟨k, rfl⟩ := Int.eq_ofNat_of_zero_le h0
      have hk : k < bs.length := by omega
      have hcc : w.cell? ⟨b, off + k, none⟩ = some (.int .u8 (bs[k].toNat)) := hcell k _ (by simp [bytesOf, hk])
      have hbk : bs[k].toNat < 256 := bs[k].toNat_lt
      generalize bs[k].toNat = q at hcc hbk
      have hbl := World.block_lt_of_cell? w _ hcc
      clear hcell h0
      go_enter Tryz.func81, Tryz.ntmps81
      go_wp2
      refine wp_region_ord [(0,true),(1,true),(2,true),(3,true),(4,true),(5,true),(6,true),(7,true),(8,true),(9,true),(10,true),(11,true),(12,false)] 12 (by kernel_rfl) (by kernel_rfl) ?_
      repeat (refine wpOrd_quiet rfl (fun K hK => ?_); go_simp; (try simp (disch := omega) only [IntWalk.i64_in]); refine hK _ ?_; clear hK K)
      repeat (refine wpOrd_tail rfl rfl (fun K hK => ?_); go_simp; refine hK _ _ ?_; clear hK K)
      refine wpOrd_nil ?_
      generalize hx : bits BinOp.and IntKind.i64 _ 255 = x
      have hx0 : 0 ≤ x ∧ x ≤ 255 := hx ▸ HA.out _
      clear hx
      go_wp2
      refine wp_region_ord [(0,true),(1,true),(2,true),(3,true),(4,true),(5,true),(6,true),(7,true),(8,true),(9,true)] 10 (by kernel_rfl) (by kernel_rfl) ?_
      repeat (refine wpOrd_quiet rfl (fun K hK => ?_); go_simp; (try simp (disch := omega) only [IntWalk.i64_in]); refine hK _ ?_; clear hK K)
      repeat (refine wpOrd_tail rfl rfl (fun K hK => ?_); go_simp; refine hK _ _ ?_; clear hK K)
      refine wpOrd_nil ?_
      go_wp2
      refine wp_region_ord [(0,true),(1,true),(2,true),(3,true),(4,true),(5,true),(6,true),(7,true),(8,true),(9,true),(10,true),(11,true),(12,true),(13,true),(14,false)] 14 (by kernel_rfl) (by kernel_rfl) ?_
      repeat (refine wpOrd_quiet rfl (fun K hK => ?_); go_simp; (try simp (disch := omega) only [IntWalk.i64_in]); refine hK _ ?_; clear hK K)
      repeat (refine wpOrd_tail rfl rfl (fun K hK => ?_); go_simp; refine hK _ _ ?_; clear hK K)
      refine wpOrd_nil ?_
      generalize hx : bits BinOp.and IntKind.i64 _ 255 = y
      have hy0 : 0 ≤ y ∧ y ≤ 255 := hx ▸ HA.out _
      clear hx
      go_wp2
      go_ret
      exact ⟨y, k + 1, _, rfl, hy0.1, hy0.2, (by repeat (first | with_reducible exact Got.mk _ _ _ | with_reducible apply Got.ext | with_reducible apply Got.drew | with_reducible apply Got.alloc)), by omega, by omega⟩
    · have hi' : ¬ i < (bs.length : Int) := hi
      clear hcell hi
      go_enter Tryz.func81, Tryz.ntmps81
      go_wp2
      refine wp_region_ord [(0,true),(1,true),(2,true),(3,true),(4,true),(5,true),(6,true),(7,true),(8,true),(9,true),(10,true),(11,true),(12,false)] 12 (by kernel_rfl) (by kernel_rfl) ?_
      repeat (refine wpOrd_quiet rfl (fun K hK => ?_); go_simp; (try simp (disch := omega) only [IntWalk.i64_in]); refine hK _ ?_; clear hK K)
      repeat (refine wpOrd_tail rfl rfl (fun K hK => ?_); go_simp; refine hK _ _ ?_; clear hK K)
      refine wpOrd_nil ?_
      generalize hx : bits BinOp.and IntKind.i64 _ 255 = x
      have hx0 : 0 ≤ x ∧ x ≤ 255 := hx ▸ HA.out _
      clear hx
      go_wp2
      refine wp_region_ord [(0,true),(1,true),(2,true),(3,true),(4,true),(5,true),(6,true),(7,true),(8,true),(9,true)] 10 (by kernel_rfl) (by kernel_rfl) ?_
      repeat (refine wpOrd_quiet rfl (fun K hK => ?_); go_simp; (try simp (disch := omega) only [IntWalk.i64_in]); refine hK _ ?_; clear hK K)
      repeat (refine wpOrd_tail rfl rfl (fun K hK => ?_); go_simp; refine hK _ _ ?_; clear hK K)
      refine wpOrd_nil ?_
      go_wp2
      go_ret
      exact ⟨x, i, _, rfl, hx0.1, hx0.2, (by repeat (first | with_reducible exact Got.mk _ _ _ | with_reducible apply Got.ext | with_reducible apply Got.drew | with_reducible apply Got.alloc)), h0, h1⟩
end Go.Proofs.YtedgenmbdjadkaaGreatDoor
namespace Go.Proofs.YtedgenmbdjadkaaGreatDoor
open Go.ChangeShapes Go.WideShapes Go.ChangeAt Go.RowKit

theorem Got.self {w : World} {p : Nat} {o : Obj} (h : w.heap[p]? = some o) : Got p w o w := ⟨⟨#[], w.drawn⟩, by rw [World.setB_self h]; unfold World.ext; simp⟩
def Drawn (p : Nat) (vb : Value) (bs : List UInt8) (w w' : World) : Prop := ∃ i' h', Got p w (curObj vb i' h') w' ∧ 0 ≤ i' ∧ i' ≤ bs.length

theorem spec_l01Below (p : Nat) (vb : Value) (bs : List UInt8) (i h n : Int) (w : World) (hc : Cur w p vb bs i h) (hn : n ≤ 4294967296) :
    Calls Tryz.prog 46 #[.pointer (some ⟨p, 0, none⟩), .int .i64 n] w fun e w' => ∃ x i' h', e = .returned (.int .i64 x) ∧ (0 ≤ x ∧ (1 ≤ n → x < n) ∧ (n ≤ 0 → x = 0)) ∧ Got p w (curObj vb i' h') w' ∧ 0 ≤ i' ∧ i' ≤ bs.length := by
  have hp := World.lt_of_get hc.blk
  have HC := Lib.hid hc
  clear hc
  by_cases hn0 : n ≤ 0
  · go_enter Tryz.func46, Tryz.ntmps46
    go_wp2
    go_ret
    exact ⟨0, i, h, rfl, ⟨by omega, fun _ => by omega, fun _ => rfl⟩, Got.self HC.out.blk, HC.out.lo, HC.out.hi⟩
  · by_cases hn1 : n ≤ 256
    · go_enter Tryz.func46, Tryz.ntmps46
      go_wp2_with (go_at_call 81; refine (spec_l01Byte p vb bs i h _ HC.out).mono ?_; rintro e w' ⟨x, i1, h1, rfl, hx0, hx1, ⟨X, rfl⟩, hi0, hi1⟩)
      go_ret
      exact ⟨_, i1, h1, rfl, ⟨by have := Int.emod_nonneg x (show n ≠ 0 by omega); exact this, fun _ => Int.emod_lt_of_pos _ (by omega), fun _ => by omega⟩, (by repeat (first | with_reducible exact Got.mk _ _ _ | with_reducible apply Got.ext | with_reducible apply Got.drew | with_reducible apply Got.alloc)), hi0, hi1⟩
    · go_enter Tryz.func46, Tryz.ntmps46
      go_wp2_with fail
      (go_at_call 81; refine (spec_l01Byte p vb bs _ _ _ (by repeat (first | with_reducible exact HC.out | with_reducible assumption | with_reducible apply Cur.ext | with_reducible apply Cur.alloc | with_reducible apply Cur.drew | with_reducible apply Cur.set))).mono ?_; rintro e w' ⟨x, i1, h1, rfl, hx0, hx1, ⟨X, rfl⟩, hi0, hi1⟩)
      go_wp2_with fail
      (go_at_call 81; refine (spec_l01Byte p vb bs _ _ _ (by repeat (first | with_reducible exact HC.out | with_reducible assumption | with_reducible apply Cur.ext | with_reducible apply Cur.alloc | with_reducible apply Cur.drew | with_reducible apply Cur.set))).mono ?_; rintro e w' ⟨y, i2, h2, rfl, hy0, hy1, ⟨X2, rfl⟩, hj0, hj1⟩)
      go_wp2_with fail
      (go_at_call 81; refine (spec_l01Byte p vb bs _ _ _ (by repeat (first | with_reducible exact HC.out | with_reducible assumption | with_reducible apply Cur.ext | with_reducible apply Cur.alloc | with_reducible apply Cur.drew | with_reducible apply Cur.set))).mono ?_; rintro e w' ⟨z, i3, h3, rfl, hz0, hz1, ⟨X3, rfl⟩, hk0, hk1⟩)
      go_wp2_with fail
      (go_at_call 81; refine (spec_l01Byte p vb bs _ _ _ (by repeat (first | with_reducible exact HC.out | with_reducible assumption | with_reducible apply Cur.ext | with_reducible apply Cur.alloc | with_reducible apply Cur.drew | with_reducible apply Cur.set))).mono ?_; rintro e w' ⟨u, i4, h4, rfl, hu0, hu1, ⟨X4, rfl⟩, hl0, hl1⟩)
      go_wp2
      go_ret
      refine ⟨_, i4, h4, rfl, ⟨?_, fun _ => Int.emod_lt_of_pos _ (by omega), fun _ => by omega⟩, (by repeat (first | with_reducible exact Got.mk _ _ _ | with_reducible apply Got.ext | with_reducible apply Got.drew | with_reducible apply Got.alloc)), hl0, hl1⟩
      have := Int.emod_nonneg (x * 16777216 + y * 65536 + z * 256 + u) (show n ≠ 0 by omega)
      exact this

theorem spec_l01PickInt (p : Nat) (vb : Value) (bs : List UInt8) (i h : Int) (v : Value) (xs : List Int) (w : World) (hc : Cur w p vb bs i h) (hs : RdL rInt w v xs) (hne : xs ≠ []) (hl : xs.length ≤ 4294967296) (ho : v.ownBlock ≠ some p) :
    Calls Tryz.prog 45 #[.pointer (some ⟨p, 0, none⟩), v] w fun e w' => ∃ x i' h', e = .returned (.int .i64 x) ∧ x ∈ xs ∧ Got p w (curObj vb i' h') w' ∧ 0 ≤ i' ∧ i' ≤ bs.length := by
  have hp := World.lt_of_get hc.blk
  have HC := Lib.hid hc
  clear hc
  obtain ⟨ao, cap, rfl, hc1, hc2, hnil, hcell⟩ := hs.shapeI
  obtain ⟨b, off, rfl, hbl, hcell⟩ := hcell hne
  have hbp : b ≠ p := fun e => ho (by simp [Value.ownBlock, e])
  have hpos : 0 < xs.length := by cases xs; exact absurd rfl hne; simp
  have HX := Lib.hid hcell
  clear hcell hnil hs ho hne
  unfold maxLen at hc2
  go_enter Tryz.func45, Tryz.ntmps45
  go_wp2_with fail
  (go_at_call 46; refine (spec_l01Below p vb bs _ _ _ _ (by repeat (first | with_reducible exact HC.out | with_reducible assumption | with_reducible apply Cur.ext | with_reducible apply Cur.alloc | with_reducible apply Cur.drew | with_reducible apply Cur.set)) (by omega)).mono ?_; rintro e w' ⟨x, i1, h1, rfl, ⟨hx0, hx1, _⟩, ⟨X, rfl⟩, hi0, hi1⟩)
  have hx2 := hx1 (by omega)
  obtain ⟨k, rfl⟩ := Int.eq_ofNat_of_zero_le hx0
  have hk : k < xs.length := by omega
  have hcc := HX.out k hk
  clear hx1 hx2
  go_wp2
  go_ret
  exact ⟨_, i1, h1, rfl, List.getElem_mem hk, (by repeat (first | with_reducible exact Got.mk _ _ _ | with_reducible apply Got.ext | with_reducible apply Got.drew | with_reducible apply Got.alloc)), hi0, hi1⟩

theorem spec_l01Pick (p : Nat) (vb : Value) (bs : List UInt8) (i h : Int) (v : Value) (xs : List ByteArray) (w : World) (hc : Cur w p vb bs i h) (hs : RdL rStr w v xs) (hne : xs ≠ []) (hl : xs.length ≤ 4294967296) (ho : v.ownBlock ≠ some p) :
    Calls Tryz.prog 80 #[.pointer (some ⟨p, 0, none⟩), v] w fun e w' => ∃ x i' h', e = .returned (.string x) ∧ x ∈ xs ∧ Got p w (curObj vb i' h') w' ∧ 0 ≤ i' ∧ i' ≤ bs.length := by
  have hp := World.lt_of_get hc.blk
  have HC := Lib.hid hc
  clear hc
  obtain ⟨ao, cap, rfl, hc1, hc2, hnil, hcell⟩ := hs.shapeS
  obtain ⟨b, off, rfl, hbl, hcell⟩ := hcell hne
  have hbp : b ≠ p := fun e => ho (by simp [Value.ownBlock, e])
  have hpos : 0 < xs.length := by cases xs; exact absurd rfl hne; simp
  have HX := Lib.hid hcell
  clear hcell hnil hs ho hne
  unfold maxLen at hc2
  go_enter Tryz.func80, Tryz.ntmps80
  go_wp2_with fail
  (go_at_call 46; refine (spec_l01Below p vb bs _ _ _ _ (by repeat (first | with_reducible exact HC.out | with_reducible assumption | with_reducible apply Cur.ext | with_reducible apply Cur.alloc | with_reducible apply Cur.drew | with_reducible apply Cur.set)) (by omega)).mono ?_; rintro e w' ⟨x, i1, h1, rfl, ⟨hx0, hx1, _⟩, ⟨X, rfl⟩, hi0, hi1⟩)
  have hx2 := hx1 (by omega)
  obtain ⟨k, rfl⟩ := Int.eq_ofNat_of_zero_le hx0
  have hk : k < xs.length := by omega
  have hcc := HX.out k hk
  clear hx1 hx2
  go_wp2
  go_ret
  exact ⟨_, i1, h1, rfl, List.getElem_mem hk, (by repeat (first | with_reducible exact Got.mk _ _ _ | with_reducible apply Got.ext | with_reducible apply Got.drew | with_reducible apply Got.alloc)), hi0, hi1⟩
end Go.Proofs.YtedgenmbdjadkaaGreatDoor
namespace Go.Proofs.YtedgenmbdjadkaaGreatDoor
open Go.ChangeShapes Go.WideShapes Go.ChangeAt Go.RowKit

theorem putS_length (xs : List ByteArray) (x : ByteArray) : (putS xs x).length ≤ xs.length + 1 := by
  unfold putS
  split
  · omega
  · simp [List.length_take]; omega

def keysLit : List ByteArray := [⟨#[97]⟩, ⟨#[98]⟩, ⟨#[110, 47, 120]⟩, ⟨#[110, 47, 121]⟩, ⟨#[110, 47, 121, 121]⟩, ⟨#[105, 47, 49, 47, 115]⟩, ⟨#[105, 47, 49, 47, 98, 47, 48]⟩, ⟨#[105, 47, 49, 50, 47, 115]⟩, ⟨#[99, 47, 112, 105, 112, 101]⟩, ⟨#[112, 47, 49, 47, 104]⟩]
theorem spec_l02Key (p : Nat) (vb : Value) (bs : List UInt8) (i h : Int) (w : World) (hc : Cur w p vb bs i h) :
    Calls Tryz.prog 102 #[.pointer (some ⟨p, 0, none⟩)] w fun e w' => ∃ x i' h', e = .returned (.string x) ∧ x ∈ keysLit ∧ Got p w (curObj vb i' h') w' ∧ 0 ≤ i' ∧ i' ≤ bs.length := by
  have hp := World.lt_of_get hc.blk
  have HC := Lib.hid hc
  clear hc
  go_enter Tryz.func102, Tryz.ntmps102
  go_wp2_with fail
  (go_at_call 80; refine (spec_l01Pick p vb bs _ _ _ keysLit _ (by repeat (first | with_reducible exact HC.out | with_reducible assumption | with_reducible apply Cur.ext | with_reducible apply Cur.alloc | with_reducible apply Cur.drew | with_reducible apply Cur.set)) (RdL.lit rStr w keysLit 10 rfl (by decide) _ rfl _) (by decide) (by decide) (by simp [Value.ownBlock]; omega)).mono ?_; rintro e w' ⟨x, i1, h1, rfl, hx, ⟨X, rfl⟩, hi0, hi1⟩)
  go_wp2
  go_ret
  exact ⟨x, i1, h1, rfl, hx, (by repeat (first | with_reducible exact Got.mk _ _ _ | with_reducible apply Got.ext | with_reducible apply Got.drew | with_reducible apply Got.alloc)), hi0, hi1⟩
end Go.Proofs.YtedgenmbdjadkaaGreatDoor
namespace Go.Proofs.YtedgenmbdjadkaaGreatDoor
open Go.ChangeShapes Go.WideShapes Go.ChangeAt Go.RowKit

def spansLit : List ByteArray := [⟨#[97]⟩, ⟨#[98]⟩, ⟨#[110, 47, 120]⟩, ⟨#[110, 47, 121]⟩, ⟨#[110, 47, 121, 121]⟩, ⟨#[110, 47, 42]⟩, ⟨#[110, 47, 121, 42]⟩, ⟨#[105, 47, 49, 47, 42]⟩, ⟨#[105, 47, 49, 47, 115]⟩, ⟨#[105, 47, 42]⟩, ⟨#[42]⟩, ⟨#[105, 47, 49, 50, 47, 115]⟩]
end Go.Proofs.YtedgenmbdjadkaaGreatDoor
namespace Go.Proofs.YtedgenmbdjadkaaGreatDoor
open Go.ChangeShapes Go.WideShapes Go.ChangeAt Go.RowKit

def nilS : Value := .slice none 0 0
end Go.Proofs.YtedgenmbdjadkaaGreatDoor
namespace Go.Proofs.YtedgenmbdjadkaaGreatDoor
open Go.ChangeShapes Go.WideShapes Go.ChangeAt Go.RowKit

theorem World.alloc_new (w : World) (o : Obj) : (w.alloc o).heap[w.heap.size]? = some o := by
  show (w.heap.push o)[w.heap.size]? = some o
  simp
theorem newCur {w : World} {X : Ext} {v : Value} {bs : List UInt8} {x : Int} (hsz : (w.ext X).heap.size = w.heap.size) (hs : Sl w v bs.length (bytesOf bs)) (hb : ∀ b, v.ownBlock = some b → b < w.heap.size) (hl : bs.length ≤ 140737488351232) :
    Cur ((w.ext X).alloc (.cells #[v, .int .i64 0, .int .i64 x] 106)) w.heap.size v bs 0 x := by
  refine ⟨?_, (hs.ext X).alloc _, Int.le_refl _, by omega, fun e => absurd (hb _ e) (Nat.lt_irrefl _), hl⟩
  rw [← hsz]
  exact World.alloc_new _ _

theorem spec_l01New (v : Value) (bs : List UInt8) (w : World) (hs : Sl w v bs.length (bytesOf bs)) (hl : bs.length ≤ 140737488351232) (hb : ∀ b, v.ownBlock = some b → b < w.heap.size) :
    Calls Tryz.prog 43 #[v] w fun e w' => ∃ p, e = .returned (.pointer (some ⟨p, 0, none⟩)) ∧ (∃ h, Cur w' p v bs 0 h) ∧ Below w.heap.size w w' ∧ w.heap.size ≤ p := by
  have HS := Lib.hid hs
  have HB := Lib.hid hb
  obtain ⟨ao, cap, rfl, hc1, hc2, hnil, hcell⟩ := hs.shape
  have HX := Lib.hid hcell
  clear hcell hs hb hnil
  unfold maxLen at hc2
  go_enter Tryz.func43, Tryz.ntmps43
  go_wp2
  go_loopw [3, 4] (fun hv iv wr => ∃ (x : Int) (n : Nat), hv = .int .i64 x ∧ iv = .int .i64 n ∧ n ≤ bs.length ∧ n ≤ 4000 ∧ Below w.heap.size w wr ∧ wr.heap.size = w.heap.size) (fun _ k _ => 4000 - (intOf k).toNat)
  case atStart => exact ⟨_, 0, rfl, rfl, by omega, by omega, (by repeat (first | with_reducible exact Below.refl _ _ | with_reducible apply Below.ofExt | with_reducible apply Below.ofAlloc | with_reducible apply Below.drew | with_reducible apply Below.ofDrewN | with_reducible assumption | (with_reducible refine Below.setCell ?_ (by first | exact Nat.le_refl _ | (simp [go_sem]; done) | (simp [go_sem]; omega)) _))), rfl⟩
  case round =>
    obtain ⟨x, n, rfl, rfl, hn1, hn2, hbel, hsz⟩ := hrel
    obtain ⟨X, rfl⟩ := hbel.ext
    by_cases h1 : (n : Int) < bs.length
    · by_cases h2 : (n : Int) < 4000
      · obtain ⟨b, off, rfl, hcell⟩ := HX.out (by omega)
        have hk : n < bs.length := by omega
        have hcc : w.cell? ⟨b, off + n, none⟩ = some (.int .u8 (bs[n].toNat)) := hcell n _ (by simp [bytesOf, hk])
        have hbk : bs[n].toNat < 256 := bs[n].toNat_lt
        generalize bs[n].toNat = q at hcc hbk
        have hbl := World.block_lt_of_cell? w _ hcc
        clear hcell
        go_wp2
        go_roundw
        case rel => exact ⟨_, n + 1, rfl, by go_num, by omega, by omega, (by repeat (first | with_reducible exact Below.refl _ _ | with_reducible apply Below.ofExt | with_reducible apply Below.ofAlloc | with_reducible apply Below.drew | with_reducible apply Below.ofDrewN | with_reducible assumption | (with_reducible refine Below.setCell ?_ (by first | exact Nat.le_refl _ | (simp [go_sem]; done) | (simp [go_sem]; omega)) _))), by simpa using hsz⟩
        case measure => simp [intOf]; omega
      · go_wp2
        go_ret
        exact ⟨w.heap.size, rfl, ⟨x, newCur (by simpa using hsz) HS.out HB.out hl⟩, (by repeat (first | with_reducible exact Below.refl _ _ | with_reducible apply Below.ofExt | with_reducible apply Below.ofAlloc | with_reducible apply Below.drew | with_reducible apply Below.ofDrewN | with_reducible assumption | (with_reducible refine Below.setCell ?_ (by first | exact Nat.le_refl _ | (simp [go_sem]; done) | (simp [go_sem]; omega)) _))), Nat.le_refl _⟩
    · go_wp2
      go_ret
      exact ⟨w.heap.size, rfl, ⟨x, newCur (by simpa using hsz) HS.out HB.out hl⟩, (by repeat (first | with_reducible exact Below.refl _ _ | with_reducible apply Below.ofExt | with_reducible apply Below.ofAlloc | with_reducible apply Below.drew | with_reducible apply Below.ofDrewN | with_reducible assumption | (with_reducible refine Below.setCell ?_ (by first | exact Nat.le_refl _ | (simp [go_sem]; done) | (simp [go_sem]; omega)) _))), Nat.le_refl _⟩

/-- a slice as it lies in a row -/
structure Raw where
  a : Option Addr
  n : Nat
  cap : Nat
def Raw.v (r : Raw) : Value := .slice r.a r.n r.cap
/-- a transaction as it lies in a row -/
structure TxR where
  id : Int
  age : Int
  proc : Int
  began : Int
  calls : Raw
  answers : Raw
  tr : Raw
  tw : Raw
  marks : Raw
  state : Int
def TxR.cells (x : TxR) : List Value := [.int .i64 x.id, .int .i64 x.age, .int .i64 x.proc, .int .i64 x.began, x.calls.v, x.answers.v, x.tr.v, x.tw.v, x.marks.v, .int .i64 x.state]
def TxR.v (x : TxR) : Value := .agg #[.int .i64 x.id, .int .i64 x.age, .int .i64 x.proc, .int .i64 x.began, x.calls.v, x.answers.v, x.tr.v, x.tw.v, x.marks.v, .int .i64 x.state]
def rTx : RowOf TxR := ⟨TxR.cells, 10, fun _ => rfl, by intro x; simp [TxR.cells, Value.oneCell', Raw.v]⟩

end Go.Proofs.YtedgenmbdjadkaaGreatDoor
namespace Go.Proofs.YtedgenmbdjadkaaGreatDoor
open Go.ChangeShapes Go.WideShapes Go.ChangeAt Go.RowKit

theorem _root_.Go.Got.toBelow {a w w' : World} {p : Nat} {o : Obj} (h : Got p w o w') (hb : Below a.heap.size a w) (hp : a.heap.size ≤ p) : Below a.heap.size a w' := by
  obtain ⟨X, rfl⟩ := hb.ext
  obtain ⟨Y, rfl⟩ := h
  rw [World.ext_setB_past _ _ _ _ hp]
  exact ((Below.refl _ _).ofExt _).ofExt _

theorem _root_.Go.RdL.shapeT {w : World} {v : Value} {xs : List TxR} (h : RdL rTx w v xs) : ∃ ao cap, v = .slice ao xs.length cap ∧ xs.length ≤ cap ∧ cap ≤ maxLen ∧ (ao = none → cap = 0 ∧ xs = []) ∧
    (xs ≠ [] → ∃ b off, ao = some ⟨b, off, none⟩ ∧ b < w.heap.size ∧ ∀ (i : Nat) (hi : i < xs.length),
      w.cell? ⟨b, off + i * 10, none⟩ = some (.int .i64 xs[i].id) ∧ w.cell? ⟨b, off + i * 10 + 1, none⟩ = some (.int .i64 xs[i].age) ∧
      w.cell? ⟨b, off + i * 10 + 2, none⟩ = some (.int .i64 xs[i].proc) ∧ w.cell? ⟨b, off + i * 10 + 3, none⟩ = some (.int .i64 xs[i].began) ∧
      w.cell? ⟨b, off + i * 10 + 4, none⟩ = some (.slice xs[i].calls.a xs[i].calls.n xs[i].calls.cap) ∧ w.cell? ⟨b, off + i * 10 + 5, none⟩ = some (.slice xs[i].answers.a xs[i].answers.n xs[i].answers.cap) ∧
      w.cell? ⟨b, off + i * 10 + 6, none⟩ = some (.slice xs[i].tr.a xs[i].tr.n xs[i].tr.cap) ∧ w.cell? ⟨b, off + i * 10 + 7, none⟩ = some (.slice xs[i].tw.a xs[i].tw.n xs[i].tw.cap) ∧
      w.cell? ⟨b, off + i * 10 + 8, none⟩ = some (.slice xs[i].marks.a xs[i].marks.n xs[i].marks.cap) ∧ w.cell? ⟨b, off + i * 10 + 9, none⟩ = some (.int .i64 xs[i].state)) := by
  obtain ⟨ao, cap, h0, h1, h2, h3, h4⟩ := h.shape
  refine ⟨ao, cap, h0, h1, h2, h3, fun hne => ?_⟩
  obtain ⟨b, off, e, hb, hc⟩ := h4 hne
  refine ⟨b, off, e, hb (by decide), fun i hi => ?_⟩
  have hc := fun j u h => hc i hi j u h
  exact ⟨hc 0 _ rfl, hc 1 _ rfl, hc 2 _ rfl, hc 3 _ rfl, hc 4 _ rfl, hc 5 _ rfl, hc 6 _ rfl, hc 7 _ rfl, hc 8 _ rfl, hc 9 _ rfl⟩

theorem _root_.Go.RowKit.Below.past {a w : World} (h : Below a.heap.size a w) {b : Nat} (hb : a.heap.size ≤ b) (o : Obj) : Below a.heap.size a (w.setB b o) := by
  obtain ⟨X, rfl⟩ := h.ext
  rw [World.ext_setB_past _ _ _ _ hb]
  exact (Below.refl _ _).ofExt _
theorem _root_.Go.World.alloc_new' (w : World) (o : Obj) (b : Nat) (h : b = w.heap.size) : (w.alloc o).heap[b]? = some o := by subst h; exact World.alloc_new w o
def older (x y : TxR) : Bool := decide (x.age < y.age) || (decide (x.age = y.age) && decide (x.id < y.id))
def nextAge (xs : List TxR) : Int := (xs.map TxR.age).foldl max 0
theorem laws_big (v : Value) (n : Nat) (cs : List Value) (w : World) (hs : Sl w v n cs) : Calls Tryz.prog 12 #[v] w fun e w' => e = .returned (.bool (decide (1048576 < n))) ∧ w = w' := by
  obtain ⟨ao, cap, rfl, hc1, hc2, hnil, hcell⟩ := hs.shape
  clear hs hnil hcell
  by_cases h : (1048576 : Int) < n
  · have h' : 1048576 < n := by omega
    go_enter Tryz.func12, Tryz.ntmps12
    go_wp2
    go_ret
    exact ⟨by simp [h'], rfl⟩
  · have h' : ¬ 1048576 < n := by omega
    go_enter Tryz.func12, Tryz.ntmps12
    go_wp2
    go_ret
    exact ⟨by simp [h'], rfl⟩
end Go.Proofs.YtedgenmbdjadkaaGreatDoor
namespace Go.Proofs.YtedgenmbdjadkaaGreatDoor
open Go.ChangeShapes Go.WideShapes Go.ChangeAt Go.RowKit
theorem _root_.Go.OwnB.setB {e : TypeId} {w : World} {B : Nat} {v : Value} {l : List UInt8} (h : OwnB e w B v l) {p : Nat} (hp : v.ownBlock ≠ some p) (o : Obj) : OwnB e (w.setB p o) B v l := by
  rcases h with hn | ⟨g, cap, cur, fz, rfl, h1, h2, rest⟩
  · exact .inl hn
  · exact .inr ⟨g, cap, cur, fz, rfl, h1, (World.setB_get w p o g (fun e => hp (by simp [Value.ownBlock, e]))).trans h2, rest⟩
theorem _root_.Go.OwnB.got {e : TypeId} {w w' : World} {B : Nat} {v : Value} {l : List UInt8} {p : Nat} {o : Obj} (h : OwnB e w B v l) (g : Got p w o w') (hp : v.ownBlock ≠ some p) : OwnB e w' B v l := by
  obtain ⟨X, rfl⟩ := g
  exact (h.setB hp o).ext X
theorem Got.appB {e : TypeId} {w w1 w2 : World} {v : Value} {l : List UInt8} {p : Nat} {o : Obj} (h : Got p w o w1) (hg : w1.grownBy w2 v.ownBlock) (ho : OwnB e w1 w.heap.size v l) : Got p w o w2 := by
  obtain ⟨X, rfl⟩ := h
  have ho' : OwnB e ((w.setB p o).ext X) (w.setB p o).heap.size v l := by rw [World.setB_size]; exact ho
  exact (RowKit.Below.appB (a := w.setB p o) ((Below.refl _ _).ofExt X) hg ho').ext
theorem u8_in (x : Int) (h0 : 0 ≤ x) (h1 : x ≤ 255) : IntKind.u8.wrap x = x := by
  unfold IntKind.wrap
  simp [IntKind.bits, IntKind.signed]
  omega
theorem spec_l01Once (p : Nat) (vb : Value) (bs : List UInt8) (i h n : Int) (w : World) (hc : Cur w p vb bs i h) (hn : n ≤ 4294967296) :
    Calls Tryz.prog 79 #[.pointer (some ⟨p, 0, none⟩), .int .i64 n] w fun e w' => ∃ b, e = .returned (.bool b) ∧ Drawn p vb bs w w' := by
  have hp := hc.lt
  have HC := Lib.hid hc
  clear hc
  go_enter Tryz.func79, Tryz.ntmps79
  go_wp2_with fail
  (go_at_call 46; refine (spec_l01Below p vb bs _ _ _ _ HC.out hn).mono ?_; rintro e w' ⟨x, i1, h1, rfl, ⟨hx0, _, _⟩, hg, hi0, hi1⟩)
  go_wp2
  go_ret
  exact ⟨_, rfl, ⟨i1, h1, hg, hi0, hi1⟩⟩
def longT (n : Nat) (c : UInt8) : ByteArray := strOf (List.replicate n c)
theorem longT_size (n : Nat) (c : UInt8) : (longT n c).size = n := by unfold longT; rw [strOf_size, List.length_replicate]
theorem sl_row {w : World} {b n : Nat} {t : TypeId} {x : Int} {c : UInt8} (hx : x = (c.toNat : Int)) (hr : w.rowIs b t n (fun _ => .int .u8 x)) (hn : n ≤ maxLen) : Sl w (.slice (some ⟨b, 0, none⟩) n n) (List.replicate n c).length (bytesOf (List.replicate n c)) := by
  subst hx
  refine .inr ⟨b, 0, n, by rw [List.length_replicate], by simp, hn, fun j u hj => ?_⟩
  unfold bytesOf at hj
  rw [List.map_replicate, List.getElem?_replicate] at hj
  split at hj
  · rw [Nat.zero_add]
    cases hj
    exact hr.cell (by assumption)
  · cases hj
theorem Tryz.info_u8 : (Tryz.prog.info? 5).map (fun i => (i.zero, i.size, i.bytes)) = some (some (.int .u8 0), 1, 1) := by kernel_rfl
set_option maxRecDepth 100000 in
theorem spec_l01Long (n : Nat) (c : UInt8) (w : World) (hn : n ≤ 100000) :
    Calls Tryz.prog 93 #[.int .i64 n, .int .u8 (c.toNat : Int)] w fun e w' => e = .returned (.string (longT n c)) ∧ Below w.heap.size w w' := by
  have hmk := run_make_row' (P := Tryz.prog) 28 5 (.int .u8 0) 1 Tryz.underlying28 Tryz.info_u8 rfl .i64 .i64 n (by omega) (by omega)
  have hmade := World.rowIs_made w (.int .u8 0) n 5
  have HMD := Lib.hid hmade
  clear hmade
  go_enter Tryz.func93, Tryz.ntmps93
  go_wp2
  clear hmk
  go_loopw [6] (fun k wr => ∃ m : Nat, k = .int .i64 m ∧ m ≤ n ∧ wr.rowIs w.heap.size 5 n (fun j => .int .u8 (if j < m then (c.toNat : Int) else 0)) ∧ Below w.heap.size w wr) (fun k _ => n - (intOf k).toNat)
  case atStart => exact ⟨0, rfl, by omega, HMD.out.congr (fun j _ => by simp), (by repeat (first | with_reducible exact Below.refl _ _ | with_reducible apply Below.ofExt | with_reducible apply Below.ofAlloc | with_reducible apply Below.drew | with_reducible apply Below.ofDrewN | with_reducible assumption | (with_reducible refine Below.setCell ?_ (by first | exact Nat.le_refl _ | (simp [go_sem]; done) | (simp [go_sem]; omega)) _)))⟩
  case round =>
    obtain ⟨m, rfl, hm, hr, hb⟩ := hrel
    by_cases hlt : (m : Int) < n
    · have hk : m < n := by omega
      have hcell := hr.cell hk
      have hfro := hr.frozen m
      have hset := (hr.set m (.int .u8 (c.toNat : Int))).congr (g := fun j => .int .u8 (if j < m + 1 then (c.toNat : Int) else 0)) (fun j _ => by
        by_cases e : j = m
        · subst e; simp
        · by_cases e2 : j < m
          · rw [if_neg e, if_pos e2, if_pos (by omega)]
          · rw [if_neg e, if_neg e2, if_neg (by omega)])
      have hbs := hb.setCell (p := ⟨w.heap.size, m, none⟩) (Nat.le_refl _) (.int .u8 (c.toNat : Int))
      have HS := Lib.hid hset
      have HB := Lib.hid hbs
      clear hset hbs hr hb
      go_wp2
      go_roundw
      case rel => exact ⟨m + 1, by go_num, by omega, HS.out, HB.out⟩
      case measure => simp [intOf]; omega
    · have e : m = n := by omega
      subst e
      have hs := sl_row rfl (hr.congr (g := fun _ => .int .u8 (c.toNat : Int)) (fun j hj => by rw [if_pos hj])) (by unfold maxLen; omega)
      have hcv := run_string_of (P := Tryz.prog) wr Tryz.byteT Tryz.underlying9 hs
      clear hs hr
      go_wp2
      go_ret
      exact ⟨rfl, hb⟩
set_option maxRecDepth 100000 in
theorem spec_l01Text (p : Nat) (vb : Value) (bs : List UInt8) (i h : Int) (n : Nat) (w : World) (hc : Cur w p vb bs i h) (hn : n ≤ 5000) :
    Calls Tryz.prog 64 #[.pointer (some ⟨p, 0, none⟩), .int .i64 n] w fun e w' => ∃ s, e = .returned (.string s) ∧ s.size = n ∧ Drawn p vb bs w w' := by
  have hp := hc.lt
  have HC := Lib.hid hc
  clear hc
  go_enter Tryz.func64, Tryz.ntmps64
  go_wp2
  go_loopw [5, 6] (fun v k wr => ∃ (m : Nat) (l : List UInt8) (i' h' : Int), k = .int .i64 m ∧ m ≤ n ∧ l.length = m ∧ OwnB 5 wr w.heap.size v l ∧ Got p w (curObj vb i' h') wr ∧ 0 ≤ i' ∧ i' ≤ bs.length) (fun _ k _ => n - (intOf k).toNat)
  case atStart => exact ⟨0, [], i, h, rfl, by omega, rfl, OwnB.empty _ _, (Got.self HC.out.blk).alloc _, HC.out.lo, HC.out.hi⟩
  case round =>
    obtain ⟨m, l, i1, h1, rfl, hm, rfl, ho, hg, hi0, hi1⟩ := hrel
    have hc1 := HC.out.got hg hi0 hi1
    have hvl := ho.lt
    by_cases hlt : (l.length : Int) < n
    · obtain ⟨oa, oc, rfl⟩ := ho.form
      have hne : (Value.slice oa l.length oc).ownBlock ≠ some p := fun e => by have := (hvl p e).1; omega
      have HO := Lib.hid ho
      have HN := Lib.hid hne
      clear ho hne hvl
      go_wp2_with fail
      (go_at_call 81; refine (spec_l01Byte p vb bs _ _ _ hc1).mono ?_; rintro e w2 ⟨x, i2, h2, rfl, hx0, hx1, hg2, hj0, hj1⟩)
      have ho2 := HO.out.got hg2 HN.out
      have hgg := hg.then hg2 hp
      have hz := hgg.size
      have hw8 := u8_in x hx0 hx1
      obtain ⟨k, rfl⟩ := Int.eq_ofNat_of_zero_le hx0
      have hkc : (k : Int) = ((UInt8.ofNat k).toNat : Int) := by simp; omega
      have HO2 := Lib.hid ho2
      have HKC := Lib.hid hkc
      clear ho2 hkc
      go_wp2_with (at_builtin; refine Stop.here ?_)
      refine wpList_appB _ Tryz.byteT rfl (.tmp 15) (.tmp 19) rfl (B := w.heap.size) (l := l) (m := [UInt8.ofNat k]) (HO2.out.alloc _) rfl (Sl.lit1 _ (UInt8.ofNat k) k HKC.out _ _ rfl) rfl (by simp; omega) (by simp; omega) ?_
      intro v4 w4 hown4 hgr4
      have hg4 : Got p w _ w4 := Got.appB (hgg.alloc _) hgr4 (HO2.out.alloc _)
      clear hgr4
      go_wp2
      go_roundw
      case rel => exact ⟨l.length + 1, _, i2, h2, by go_num, by omega, by simp, hown4, hg4, hj0, hj1⟩
      case measure => simp [intOf]; omega
    · have e : l.length = n := by omega
      subst e
      have hcv := run_string_of (P := Tryz.prog) wr Tryz.byteT Tryz.underlying9 ho.sl
      obtain ⟨oa, oc, rfl⟩ := ho.form
      clear ho hvl
      go_wp2
      go_ret
      exact ⟨_, rfl, strOf_size l, ⟨i1, h1, hg, hi0, hi1⟩⟩
end Go.Proofs.YtedgenmbdjadkaaGreatDoor
namespace Go.Proofs.YtedgenmbdjadkaaGreatDoor
open Go.ChangeShapes Go.WideShapes Go.ChangeAt Go.RowKit
theorem spec_l01LongI (m : Int) (n : Nat) (x : Int) (c : UInt8) (w : World) (hm : m = (n : Int)) (hx : x = (c.toNat : Int)) (hn : n ≤ 100000) :
    Calls Tryz.prog 93 #[.int .i64 m, .int .u8 x] w fun e w' => ∃ s, e = .returned (.string s) ∧ s.size = n ∧ Below w.heap.size w w' := by
  subst hm hx
  refine (spec_l01Long n c w hn).mono ?_
  rintro e w' ⟨rfl, hb⟩
  exact ⟨_, rfl, longT_size n c, hb⟩
theorem Tryz.elemCellD : Elem Tryz.prog 35 39 2 32 := Elem.of (.agg #[.string ⟨#[]⟩, .string ⟨#[]⟩]) Tryz.underlying35 (by kernel_rfl) rfl (by decide)
theorem spec_l01TextI (p : Nat) (vb : Value) (bs : List UInt8) (i h m : Int) (w : World) (hc : Cur w p vb bs i h) (h0 : 0 ≤ m) (h1 : m ≤ 5000) :
    Calls Tryz.prog 64 #[.pointer (some ⟨p, 0, none⟩), .int .i64 m] w fun e w' => ∃ s, e = .returned (.string s) ∧ (s.size : Int) = m ∧ Drawn p vb bs w w' := by
  obtain ⟨n, rfl⟩ := Int.eq_ofNat_of_zero_le h0
  refine (spec_l01Text p vb bs i h n w hc (by omega)).mono ?_
  rintro e w' ⟨s, rfl, hs, hd⟩
  exact ⟨s, rfl, by omega, hd⟩
theorem keys2_small {t1 t2 x : ByteArray} (h1 : t1.size = 40) (h2 : t2.size = 41) (hx : x ∈ ([⟨#[]⟩, ⟨#[97, 32, 98]⟩, ⟨#[110, 47, 42]⟩, ⟨#[127]⟩, t1, t2] : List ByteArray)) : x.size ≤ 100 := by
  simp only [List.mem_cons, List.not_mem_nil, or_false] at hx
  rcases hx with rfl | rfl | rfl | rfl | rfl | rfl
  · decide
  · decide
  · decide
  · decide
  · omega
  · omega
theorem keys1_small : ∀ s ∈ keysLit, s.size ≤ 100 := by decide
set_option maxRecDepth 100000 in
theorem spec_l02AnyKey (p : Nat) (vb : Value) (bs : List UInt8) (i h : Int) (w : World) (hc : Cur w p vb bs i h) :
    Calls Tryz.prog 103 #[.pointer (some ⟨p, 0, none⟩)] w fun e w' => ∃ s, e = .returned (.string s) ∧ s.size ≤ 100 ∧ Drawn p vb bs w w' := by
  have hp := hc.lt
  have HC := Lib.hid hc
  clear hc
  go_enter Tryz.func103, Tryz.ntmps103
  go_wp2_with fail
  (go_at_call 79; refine (spec_l01Once p vb bs _ _ 12 _ HC.out (by omega)).mono ?_; rintro e w1 ⟨b, rfl, i1, h1, hg1, ha1, hb1⟩)
  have hc1 := HC.out.got hg1 ha1 hb1
  cases b with
  | true =>
    go_wp2_with fail
    (go_at_call 93; refine (spec_l01LongI 40 40 97 97 _ (by decide) (by decide) (by omega)).mono ?_; rintro e w2 ⟨t1, rfl, ht1, hb2⟩)
    go_wp2_with fail
    (go_at_call 93; refine (spec_l01LongI 41 41 97 97 _ (by decide) (by decide) (by omega)).mono ?_; rintro e w3 ⟨t2, rfl, ht2, hb3⟩)
    go_wp2_with fail
    have hc3 := (hc1.below hb2).below hb3
    have hlt := hc3.lt
    (go_at_call 80; refine (spec_l01Pick p vb bs _ _ _ [⟨#[]⟩, ⟨#[97, 32, 98]⟩, ⟨#[110, 47, 42]⟩, ⟨#[127]⟩, t1, t2] _ (hc3.alloc _) (RdL.lit rStr w3 [⟨#[]⟩, ⟨#[97, 32, 98]⟩, ⟨#[110, 47, 42]⟩, ⟨#[127]⟩, t1, t2] 6 rfl (by decide) _ rfl _) (by simp) (by simp) (by simp [Value.ownBlock, World.ext_size]; omega)).mono ?_; rintro e w' ⟨x, i2, h2, rfl, hx, hg2, hj0, hj1⟩)
    go_wp2
    go_ret
    exact ⟨_, rfl, keys2_small ht1 ht2 hx, ⟨i2, h2, (((hg1.ofBelow hb2).ofBelow hb3).alloc _).then hg2 hp, hj0, hj1⟩⟩
  | false =>
    go_wp2_with fail
    (go_at_call 102; refine (spec_l02Key p vb bs _ _ _ hc1).mono ?_; rintro e w' ⟨x, i2, h2, rfl, hx, hg2, hj0, hj1⟩)
    go_wp2
    go_ret
    exact ⟨_, rfl, keys1_small x hx, ⟨i2, h2, hg1.then hg2 hp, hj0, hj1⟩⟩
set_option maxRecDepth 100000 in
theorem spec_l02Val (p : Nat) (vb : Value) (bs : List UInt8) (i h : Int) (w : World) (hc : Cur w p vb bs i h) :
    Calls Tryz.prog 104 #[.pointer (some ⟨p, 0, none⟩)] w fun e w' => ∃ s, e = .returned (.string s) ∧ s.size ≤ 100 ∧ Drawn p vb bs w w' := by
  have hp := hc.lt
  have HC := Lib.hid hc
  clear hc
  go_enter Tryz.func104, Tryz.ntmps104
  go_wp2_with fail
  (go_at_call 79; refine (spec_l01Once p vb bs _ _ 16 _ HC.out (by omega)).mono ?_; rintro e w1 ⟨b, rfl, i1, h1, hg1, ha1, hb1⟩)
  have hc1 := HC.out.got hg1 ha1 hb1
  cases b with
  | true =>
    go_wp2_with fail
    (go_at_call 46; refine (spec_l01Below p vb bs _ _ _ _ hc1 (by omega)).mono ?_; rintro e w2 ⟨x, i2, h2, rfl, ⟨hx0, hx1, _⟩, hg2, hj0, hj1⟩)
    have hx2 := hx1 (by omega)
    clear hx1
    obtain ⟨k, rfl⟩ := Int.eq_ofNat_of_zero_le hx0
    go_wp2_with fail
    (go_at_call 93; refine (spec_l01LongI (60 + (k : Int)) (60 + k) 5 5 _ (by omega) (by decide) (by omega)).mono ?_; rintro e w' ⟨t1, rfl, ht1, hb⟩; obtain ⟨X, rfl⟩ := hb.ext; clear hb)
    go_wp2
    go_ret
    exact ⟨_, rfl, by omega, ⟨i2, h2, (hg1.then hg2 hp).ext _, hj0, hj1⟩⟩
  | false =>
    go_wp2_with fail
    (go_at_call 46; refine (spec_l01Below p vb bs _ _ _ _ hc1 (by omega)).mono ?_; rintro e w2 ⟨x, i2, h2, rfl, ⟨hx0, hx1, _⟩, hg2, hj0, hj1⟩)
    have hx2 := hx1 (by omega)
    clear hx1
    have hc2 := hc1.got hg2 hj0 hj1
    go_wp2_with fail
    (go_at_call 64; refine (spec_l01TextI p vb bs _ _ _ _ hc2 hx0 (by omega)).mono ?_; rintro e w3 ⟨t, rfl, ht, i3, h3, hg3, hk0, hk1⟩)
    go_wp2
    go_ret
    exact ⟨t, rfl, by omega, ⟨i3, h3, (hg1.then hg2 hp).then hg3 hp, hk0, hk1⟩⟩
def SmallC (c : CellD) : Prop := c.key.size ≤ 100 ∧ c.val.size ≤ 100
def DrawnCs (p : Nat) (vb : Value) (bs : List UInt8) (w : World) (v : Value) (w' : World) : Prop := ∃ xs, OwnL rCell 39 w' w.heap.size v xs ∧ xs.length ≤ 40 ∧ (∀ x ∈ xs, SmallC x) ∧ Drawn p vb bs w w'
theorem small_snoc {xs : List CellD} {c : CellD} (h : ∀ x ∈ xs, SmallC x) (hc : SmallC c) : ∀ x ∈ xs ++ [c], SmallC x := by
  intro x hx
  rcases List.mem_append.1 hx with hx | hx
  · exact h x hx
  · rw [List.mem_singleton.1 hx]; exact hc
set_option maxRecDepth 100000 in
theorem spec_l21List (p : Nat) (vb : Value) (bs : List UInt8) (i h : Int) (w : World) (hc : Cur w p vb bs i h) :
    Calls Tryz.prog 78 #[.pointer (some ⟨p, 0, none⟩)] w fun e w' => ∃ v, e = .returned v ∧ DrawnCs p vb bs w v w' := by
  have hp := hc.lt
  have HC := Lib.hid hc
  clear hc
  go_enter Tryz.func78, Tryz.ntmps78
  go_wp2
  go_loopw [3, 4] (fun v k wr => ∃ (n : Nat) (xs : List CellD) (i' h' : Int), k = .int .i64 n ∧ n ≤ 4 ∧ xs.length = n ∧ (∀ x ∈ xs, SmallC x) ∧ OwnL rCell 39 wr w.heap.size v xs ∧ Got p w (curObj vb i' h') wr ∧ 0 ≤ i' ∧ i' ≤ bs.length) (fun _ k _ => 4 - (intOf k).toNat)
  case atStart => exact ⟨0, [], i, h, rfl, by omega, rfl, by simp, OwnL.empty rCell _ _, (Got.self HC.out.blk).alloc _, HC.out.lo, HC.out.hi⟩
  case round =>
    obtain ⟨n, xs, i1, h1, rfl, hn, rfl, hsm, ho, hg, hi0, hi1⟩ := hrel
    have hc1 := HC.out.got hg hi0 hi1
    have hvl := ho.lt
    obtain ⟨ao, co, rfl⟩ := ho.rd.form
    have hne : (Value.slice ao xs.length co).ownBlock ≠ some p := fun e => by have := (hvl p e).1; omega
    have HO := Lib.hid ho
    have HP := Lib.hid hne
    have HSM := Lib.hid hsm
    clear ho hne hvl hsm
    go_wp2_with fail
    (go_at_call 46; refine (spec_l01Below p vb bs _ _ _ _ hc1 (by omega)).mono ?_; rintro e w2 ⟨x, i2, h2, rfl, ⟨hx0, hx1, _⟩, hg2, hj0, hj1⟩)
    have hc2 := hc1.got hg2 hj0 hj1
    have hx2 := hx1 (by omega)
    clear hx1
    by_cases hlt : (xs.length : Int) < x
    · go_wp2_with fail
      (go_at_call 102; refine (spec_l02Key p vb bs _ _ _ hc2).mono ?_; rintro e w3 ⟨key, i3, h3, rfl, hkey, hg3, hk0, hk1⟩)
      have hc3 := hc2.got hg3 hk0 hk1
      go_wp2_with fail
      (go_at_call 46; refine (spec_l01Below p vb bs _ _ _ _ hc3 (by omega)).mono ?_; rintro e w4 ⟨y, i4, h4, rfl, ⟨hy0, hy1, _⟩, hg4, hl0, hl1⟩)
      have hc4 := hc3.got hg4 hl0 hl1
      have hy2 := hy1 (by omega)
      clear hy1
      go_wp2_with fail
      (go_at_call 64; refine (spec_l01TextI p vb bs _ _ _ _ hc4 hy0 (by omega)).mono ?_; rintro e w5 ⟨t, rfl, ht, i5, h5, hg5, hm0, hm1⟩)
      have ho5 := (((HO.out.got hg2 HP.out).got hg3 HP.out).got hg4 HP.out).got hg5 HP.out
      have hgg := (((hg.then hg2 hp).then hg3 hp).then hg4 hp).then hg5 hp
      have hz := hgg.size
      have HK := Lib.hid hkey
      clear hkey
      go_wp2_with (at_builtin; refine Stop.here ?_)
      refine wpList_appL rfl _ _ _ rfl Tryz.elemCellD (ho5.alloc _) rfl (RdL.oneAt rCell _ ⟨key, t⟩ _ rfl _ _ rfl) rfl (by simp only [List.length_singleton]; omega) (by simp only [List.length_singleton]; unfold maxLen; omega) (by simp; omega) ?_
      intro v6 w6 hown6 hgr6 _
      have hg6 : Got p w _ w6 := Got.app (hgg.alloc _) hgr6 (ho5.alloc _)
      clear hgr6
      go_wp2
      go_roundw
      case rel => exact ⟨xs.length + 1, _, i5, h5, by go_num, by omega, by simp, small_snoc HSM.out ⟨keys1_small key HK.out, by show t.size ≤ 100; omega⟩, hown6, hg6, hm0, hm1⟩
      case measure => simp [intOf]; omega
    · have ho2 := HO.out.got hg2 HP.out
      have hgg := hg.then hg2 hp
      have hz := hgg.size
      go_wp2_with fail
      (go_at_call 79; refine (spec_l01Once p vb bs _ _ 12 _ hc2 (by omega)).mono ?_; rintro e w3 ⟨b, rfl, i3, h3, hg3, ha3, hb3⟩)
      have hc3 := hc2.got hg3 ha3 hb3
      have hg3' := hgg.then hg3 hp
      have ho3 := ho2.got hg3 HP.out
      have hz3 := hg3'.size
      cases b with
      | true =>
        go_wp2_with fail
        (go_at_call 103; refine (spec_l02AnyKey p vb bs _ _ _ hc3).mono ?_; rintro e w4 ⟨key, rfl, hkey, i4, h4, hg4, hk0, hk1⟩)
        have hc4 := hc3.got hg4 hk0 hk1
        go_wp2_with fail
        (go_at_call 104; refine (spec_l02Val p vb bs _ _ _ hc4).mono ?_; rintro e w5 ⟨t, rfl, ht, i5, h5, hg5, hm0, hm1⟩)
        have hc5 := hc4.got hg5 hm0 hm1
        have ho5 := (ho3.got hg4 HP.out).got hg5 HP.out
        have hgg5 := (hg3'.then hg4 hp).then hg5 hp
        have hz5 := hgg5.size
        go_wp2_with (at_builtin; refine Stop.here ?_)
        refine wpList_appL rfl _ _ _ rfl Tryz.elemCellD (ho5.alloc _) rfl (RdL.oneAt rCell _ ⟨key, t⟩ _ rfl _ _ rfl) rfl (by simp only [List.length_singleton]; omega) (by simp only [List.length_singleton]; unfold maxLen; omega) (by simp; omega) ?_
        intro v6 w6 hown6 hgr6 _
        have hg6 : Got p w _ w6 := Got.app (hgg5.alloc _) hgr6 (ho5.alloc _)
        clear hgr6
        have hsm6 := small_snoc HSM.out (c := ⟨key, t⟩) ⟨hkey, ht⟩
        have hl6 : (xs ++ [(⟨key, t⟩ : CellD)]).length ≤ 5 := by simp; omega
        generalize xs ++ [(⟨key, t⟩ : CellD)] = ys at hown6 hsm6 hl6
        have hc6 := HC.out.got hg6 hm0 hm1
        obtain ⟨ay, cy, rfl⟩ := hown6.rd.form
        have hne6 : (Value.slice ay ys.length cy).ownBlock ≠ some p := fun e => by have := (hown6.lt p e).1; omega
        have HO6 := Lib.hid hown6
        have HP6 := Lib.hid hne6
        have HS6 := Lib.hid hsm6
        have hz6 := hg6.size
        clear hown6 hne6 hsm6
        go_wp2_with fail
        (go_at_call 79; refine (spec_l01Once p vb bs _ _ 40 _ hc6 (by omega)).mono ?_; rintro e w7 ⟨b, rfl, i7, h7, hg7, ha7, hb7⟩)
        have hc7 := hc6.got hg7 ha7 hb7
        have hg7' := hg6.then hg7 hp
        have ho7 := HO6.out.got hg7 HP6.out
        have HO7 := Lib.hid ho7
        clear ho7
        have hz7 := hg7'.size
        cases b with
        | false =>
          go_wp2
          go_ret
          exact ⟨_, rfl, ys, HO7.out, by omega, HS6.out, ⟨_, _, hg7', ha7, hb7⟩⟩
        | true =>
          go_wp2
          go_loopw [3, 5] (fun v k wr => ∃ (n : Nat) (zs : List CellD) (i' h' : Int), k = .int .i64 n ∧ n ≤ 30 ∧ zs.length ≤ 5 + n ∧ (∀ x ∈ zs, SmallC x) ∧ OwnL rCell 39 wr w.heap.size v zs ∧ Got p w (curObj vb i' h') wr ∧ 0 ≤ i' ∧ i' ≤ bs.length) (fun _ k _ => 30 - (intOf k).toNat)
          case atStart => exact ⟨0, ys, _, _, rfl, by omega, by omega, HS6.out, HO7.out, hg7', ha7, hb7⟩
          case round =>
            obtain ⟨n8, zs, i8, h8, rfl, hn8, hl8, hsm8, ho8, hg8, ha8, hb8⟩ := hrel
            obtain ⟨az, cz, rfl⟩ := ho8.rd.form
            have HO8 := Lib.hid ho8
            have HS8 := Lib.hid hsm8
            have hz8 := hg8.size
            clear ho8 hsm8
            by_cases hlt8 : (n8 : Int) < 30
            · go_wp2_with fail
              (go_at_call 93; refine (spec_l01LongI 60 60 5 5 _ (by decide) (by decide) (by omega)).mono ?_; rintro e w9 ⟨t9, rfl, ht9, hb9⟩)
              have ho9 : OwnL rCell 39 w9 w.heap.size _ zs := (by obtain ⟨X9, rfl⟩ := hb9.ext; exact HO8.out.ext X9)
              have hg9 := hg8.ofBelow hb9
              have hz9 := hg9.size
              go_wp2_with (at_builtin; refine Stop.here ?_)
              refine wpList_appL rfl _ _ _ rfl Tryz.elemCellD (ho9.alloc _) rfl (RdL.oneAt rCell _ ⟨⟨#[97]⟩, t9⟩ _ rfl _ _ rfl) rfl (by simp only [List.length_singleton]; omega) (by simp only [List.length_singleton]; unfold maxLen; omega) (by simp; omega) ?_
              intro v10 w10 hown10 hgr10 _
              have hg10 : Got p w _ w10 := Got.app (hg9.alloc _) hgr10 (ho9.alloc _)
              clear hgr10
              go_wp2
              go_roundw
              case rel => exact ⟨n8 + 1, _, i8, h8, by go_num, by omega, by simp; omega, small_snoc HS8.out ⟨by show (⟨#[97]⟩ : ByteArray).size ≤ 100; decide, by show t9.size ≤ 100; omega⟩, hown10, hg10, ha8, hb8⟩
              case measure => simp [intOf]; omega
            · go_wp2
              go_ret
              exact ⟨_, rfl, zs, HO8.out, by omega, HS8.out, ⟨_, _, hg8, ha8, hb8⟩⟩
      | false =>
        have hown6 := ho3
        have hg6 := hg3'
        have hsm6 := HSM.out
        have hl6 : xs.length ≤ 5 := by omega
        have hc6 := hc3
        have hne6 : (Value.slice ao xs.length co).ownBlock ≠ some p := fun e => by have := (hown6.lt p e).1; omega
        have HO6 := Lib.hid hown6
        have HP6 := Lib.hid hne6
        have HS6 := Lib.hid hsm6
        have hz6 := hg6.size
        clear hown6 hne6 hsm6
        go_wp2_with fail
        (go_at_call 79; refine (spec_l01Once p vb bs _ _ 40 _ hc6 (by omega)).mono ?_; rintro e w7 ⟨b, rfl, i7, h7, hg7, ha7, hb7⟩)
        have hc7 := hc6.got hg7 ha7 hb7
        have hg7' := hg6.then hg7 hp
        have ho7 := HO6.out.got hg7 HP6.out
        have HO7 := Lib.hid ho7
        clear ho7
        have hz7 := hg7'.size
        cases b with
        | false =>
          go_wp2
          go_ret
          exact ⟨_, rfl, xs, HO7.out, by omega, HS6.out, ⟨_, _, hg7', ha7, hb7⟩⟩
        | true =>
          go_wp2
          go_loopw [3, 5] (fun v k wr => ∃ (n : Nat) (zs : List CellD) (i' h' : Int), k = .int .i64 n ∧ n ≤ 30 ∧ zs.length ≤ 5 + n ∧ (∀ x ∈ zs, SmallC x) ∧ OwnL rCell 39 wr w.heap.size v zs ∧ Got p w (curObj vb i' h') wr ∧ 0 ≤ i' ∧ i' ≤ bs.length) (fun _ k _ => 30 - (intOf k).toNat)
          case atStart => exact ⟨0, xs, _, _, rfl, by omega, by omega, HS6.out, HO7.out, hg7', ha7, hb7⟩
          case round =>
            obtain ⟨n8, zs, i8, h8, rfl, hn8, hl8, hsm8, ho8, hg8, ha8, hb8⟩ := hrel
            obtain ⟨az, cz, rfl⟩ := ho8.rd.form
            have HO8 := Lib.hid ho8
            have HS8 := Lib.hid hsm8
            have hz8 := hg8.size
            clear ho8 hsm8
            by_cases hlt8 : (n8 : Int) < 30
            · go_wp2_with fail
              (go_at_call 93; refine (spec_l01LongI 60 60 5 5 _ (by decide) (by decide) (by omega)).mono ?_; rintro e w9 ⟨t9, rfl, ht9, hb9⟩)
              have ho9 : OwnL rCell 39 w9 w.heap.size _ zs := (by obtain ⟨X9, rfl⟩ := hb9.ext; exact HO8.out.ext X9)
              have hg9 := hg8.ofBelow hb9
              have hz9 := hg9.size
              go_wp2_with (at_builtin; refine Stop.here ?_)
              refine wpList_appL rfl _ _ _ rfl Tryz.elemCellD (ho9.alloc _) rfl (RdL.oneAt rCell _ ⟨⟨#[97]⟩, t9⟩ _ rfl _ _ rfl) rfl (by simp only [List.length_singleton]; omega) (by simp only [List.length_singleton]; unfold maxLen; omega) (by simp; omega) ?_
              intro v10 w10 hown10 hgr10 _
              have hg10 : Got p w _ w10 := Got.app (hg9.alloc _) hgr10 (ho9.alloc _)
              clear hgr10
              go_wp2
              go_roundw
              case rel => exact ⟨n8 + 1, _, i8, h8, by go_num, by omega, by simp; omega, small_snoc HS8.out ⟨by show (⟨#[97]⟩ : ByteArray).size ≤ 100; decide, by show t9.size ≤ 100; omega⟩, hown10, hg10, ha8, hb8⟩
              case measure => simp [intOf]; omega
            · go_wp2
              go_ret
              exact ⟨_, rfl, zs, HO8.out, by omega, HS8.out, ⟨_, _, hg8, ha8, hb8⟩⟩
end Go.Proofs.YtedgenmbdjadkaaGreatDoor
namespace Go.Proofs.YtedgenmbdjadkaaGreatDoor
open Go.ChangeShapes Go.WideShapes Go.ChangeAt Go.RowKit

theorem _root_.Go.Got.toBelowR {a w w' : World} {p : Nat} {o : Obj} (h : Got p w o w') (hb : Below a.heap.size a w) (hp : a.heap.size ≤ p) : Below a.heap.size a w' := by
  obtain ⟨X, rfl⟩ := h
  refine hb.trans ⟨rfl, rfl, rfl, by rw [World.ext_size, World.setB_size]; omega, fun k hk => ?_⟩
  have := hb.size
  rw [World.ext_get _ _ (by rw [World.setB_size]; omega), World.setB_get _ _ _ _ (by omega)]
def SeqL : List Int := [1, 2, 9, 100000, 100001, 0, -1]
theorem seqL_in : ∀ x ∈ SeqL, -1 ≤ x ∧ x ≤ 100001 := by decide
/-- a drawn list of cells -/
def DrawnL (w : World) (v : Value) (w' : World) : Prop := ∃ xs, OwnL rCell 39 w' w.heap.size v xs ∧ xs.length ≤ 40 ∧ (∀ x ∈ xs, SmallC x) ∧ Below w.heap.size w w'
theorem Tryz.elemIntD : Elem Tryz.prog 32 3 1 8 := Elem.of (.int .i64 0) Tryz.underlying32 (by kernel_rfl) rfl (by decide)
/-- drawn places -/
def DrawnPl (w : World) (v : Value) (w' : World) : Prop := ∃ xs, OwnL rInt 3 w' w.heap.size v xs ∧ xs.length = 12 ∧ (∀ x ∈ xs, 0 ≤ x ∧ x < 10000) ∧ Below w.heap.size w w'
set_option maxRecDepth 100000 in
theorem spec_DrawPlaces (v : Value) (bs : List UInt8) (w : World) (hs : Sl w v bs.length (bytesOf bs)) (hl : bs.length ≤ 140737488351232) (hb : ∀ b, v.ownBlock = some b → b < w.heap.size) :
    Calls Tryz.prog 14 #[v] w fun e w' => ∃ v', e = .returned v' ∧ DrawnPl w v' w' := by
  go_enter Tryz.func14, Tryz.ntmps14
  go_wp2_with fail
  (go_at_call 43; refine (spec_l01New v bs _ hs hl hb).mono ?_; rintro e w1 ⟨p, rfl, ⟨h, hc⟩, hb1, hp⟩)
  have hpl := hc.lt
  have hz1 := hb1.size
  have HC := Lib.hid hc
  clear hc
  go_wp2
  go_loopw [4, 5] (fun o k wr => ∃ (n : Nat) (xs : List Int) (i' h' : Int), k = .int .i64 n ∧ n ≤ 12 ∧ xs.length = n ∧ (∀ x ∈ xs, 0 ≤ x ∧ x < 10000) ∧ OwnL rInt 3 wr w1.heap.size o xs ∧ Got p w1 (curObj v i' h') wr ∧ 0 ≤ i' ∧ i' ≤ bs.length) (fun _ k _ => 12 - (intOf k).toNat)
  case atStart => exact ⟨0, [], _, h, rfl, by omega, rfl, by simp, OwnL.empty rInt _ _, (Got.self HC.out.blk).alloc _, HC.out.lo, HC.out.hi⟩
  case round =>
    obtain ⟨n, xs, i1, h1, rfl, hn, rfl, hsm, ho, hg, hi0, hi1⟩ := hrel
    have hc1 := HC.out.got hg hi0 hi1
    have hvl := ho.lt
    obtain ⟨ao, co, rfl⟩ := ho.rd.form
    have hne : (Value.slice ao xs.length co).ownBlock ≠ some p := fun e => by have := (hvl p e).1; omega
    have HO := Lib.hid ho
    have HP := Lib.hid hne
    have HSM := Lib.hid hsm
    clear ho hne hvl hsm
    by_cases hlt : (xs.length : Int) < 12
    · go_wp2_with fail
      (go_at_call 46; refine (spec_l01Below p v bs _ _ _ _ hc1 (by omega)).mono ?_; rintro e w2 ⟨x, i2, h2, rfl, ⟨hx0, hx1, _⟩, hg2, hj0, hj1⟩)
      have hx2 := hx1 (by omega)
      clear hx1
      have ho2 := HO.out.got hg2 HP.out
      have hgg := hg.then hg2 hpl
      have hz := hgg.size
      go_wp2_with (at_builtin; refine Stop.here ?_)
      refine wpList_appL rfl _ _ _ rfl Tryz.elemIntD (ho2.alloc _) rfl (RdL.oneAt rInt _ x _ rfl _ _ rfl) rfl (by simp only [List.length_singleton]; omega) (by simp only [List.length_singleton]; unfold maxLen; omega) (by simp; omega) ?_
      intro v6 w6 hown6 hgr6 _
      have hg6 : Got p w1 _ w6 := Got.app (hgg.alloc _) hgr6 (ho2.alloc _)
      clear hgr6
      have HO6 := Lib.hid hown6
      clear hown6
      go_wp2
      go_roundw
      case rel =>
        refine ⟨xs.length + 1, _, i2, h2, by go_num, by omega, by simp, fun y hy => ?_, HO6.out, hg6, hj0, hj1⟩
        rcases List.mem_append.1 hy with hy | hy
        · exact HSM.out y hy
        · rw [List.mem_singleton.1 hy]
          exact ⟨hx0, hx2⟩
      case measure => simp [intOf]; omega
    · have HB := Lib.hid (hg.toBelowR hb1 hp)
      go_wp2
      go_ret
      exact ⟨_, rfl, xs, HO.out.base (by omega), by omega, HSM.out, HB.out⟩
end Go.Proofs.YtedgenmbdjadkaaGreatDoor
namespace Go.Proofs.YtedgenmbdjadkaaGreatDoor
open Go.ChangeShapes Go.WideShapes Go.ChangeAt Go.RowKit

theorem imgK {P : Program} {f : FuncId} {args : Array Value} {R : Ending → World → Prop} {W : World} (S : World → Prop) (h : S W) (H : ∀ W0, S W0 → Calls P f args W0 R) : Calls P f args W R := H W h
theorem int_at {w : World} {B : Nat} {ao : Option Addr} {n cap : Nat} {xs : List Int} {e : TypeId} (h : OwnL rInt e w B (.slice ao n cap) xs) {i : Nat} (hi : i < xs.length) : n = xs.length ∧ ∃ b off, ao = some ⟨b, off, none⟩ ∧ b < w.heap.size ∧ w.cell? ⟨b, off + i, none⟩ = some (.int .i64 xs[i]) := by
  obtain ⟨ao', cap', hv, h1, h2, h3, h4⟩ := h.rd.shapeI
  cases hv
  obtain ⟨b, off, e1, e2, e3⟩ := h4 (by intro e; rw [e] at hi; simp at hi)
  exact ⟨rfl, b, off, e1, e2, e3 i hi⟩
theorem rd_one1 {α : Type} (V : View α) {e : TypeId} {w : World} {b : Nat} {cs : List Value} {d : α} {t : TypeId} (h : V.rd w cs d) (hb : w.heap[b]? = some (.cells cs.toArray t)) : (vSlice V e).rd w [.slice (some ⟨b, 0, none⟩) 1 1] [d] :=
  ⟨_, 1, [cs], rfl, Nat.le_refl _, by unfold maxLen; omega, (fun h => by cases h), rfl, fun i hi hc => by
    have : i = 0 := by simp at hi; omega
    subst this
    exact h, fun _ => ⟨b, 0, rfl, World.lt_of_get hb, fun j u hj => by
    rw [World.cell?_of_get hb, Nat.zero_add]
    simpa using hj⟩⟩
theorem heap5 (W : World) (a b c d e : Obj) (n : Nat) (hn : n = W.heap.size) : (((((W.alloc a).alloc b).alloc c).alloc d).alloc e).heap[n]? = some a ∧ (((((W.alloc a).alloc b).alloc c).alloc d).alloc e).heap[n + 1]? = some b ∧ (((((W.alloc a).alloc b).alloc c).alloc d).alloc e).heap[n + 1 + 1]? = some c ∧ (((((W.alloc a).alloc b).alloc c).alloc d).alloc e).heap[n + 1 + 1 + 1]? = some d ∧ (((((W.alloc a).alloc b).alloc c).alloc d).alloc e).heap[n + 1 + 1 + 1 + 1]? = some e := by
  subst hn
  show (((((W.heap.push a).push b).push c).push d).push e)[W.heap.size]? = some a ∧ (((((W.heap.push a).push b).push c).push d).push e)[W.heap.size + 1]? = some b ∧ (((((W.heap.push a).push b).push c).push d).push e)[W.heap.size + 1 + 1]? = some c ∧ (((((W.heap.push a).push b).push c).push d).push e)[W.heap.size + 1 + 1 + 1]? = some d ∧ (((((W.heap.push a).push b).push c).push d).push e)[W.heap.size + 1 + 1 + 1 + 1]? = some e
  refine ⟨?_, ?_, ?_, ?_, ?_⟩ <;> (simp only [Array.getElem?_push, Array.size_push]; repeat (first | rfl | rw [if_pos trivial] | rw [if_pos (by omega)] | rw [if_neg (by omega)]))
/-- what lies where: the two lists of cells, the two slots -/
structure ImgW (W w : World) (p : Nat) (n m : Int) : Prop where
  bel : Below W.heap.size W w
  lo : W.heap.size ≤ p
  a : w.heap[p]? = some (.cells #[.string ⟨#[97]⟩, .string ⟨#[49]⟩] 39)
  b : w.heap[p + 1]? = some (.cells #[.string ⟨#[98]⟩, .string ⟨#[50]⟩] 39)
  s : w.heap[p + 1 + 1]? = some (.cells #[.int .i64 n, .slice (some ⟨p, 0, none⟩) 1 1, .bool true, .int .i64 m, .slice (some ⟨p + 1, 0, none⟩) 1 1, .bool true] 41)
theorem ImgW.below {W w w' : World} {p : Nat} {n m : Int} (h : ImgW W w p n m) (hb : Below w.heap.size w w') : ImgW W w' p n m :=
  ⟨Below.then h.bel hb, h.lo, ((Grew.below hb) _ (World.lt_of_get h.a)).trans h.a, ((Grew.below hb) _ (World.lt_of_get h.b)).trans h.b, ((Grew.below hb) _ (World.lt_of_get h.s)).trans h.s⟩
theorem ImgW.set {W w : World} {p : Nat} {n m : Int} (h : ImgW W w p n m) (o : Obj) : ImgW W (w.setB (p + 1 + 1 + 1) o) p n m := by
  refine ⟨?_, h.lo, ?_, ?_, ?_⟩
  · have hl := h.lo
    exact ⟨h.bel.os, h.bel.tape, h.bel.output, by rw [World.setB_size]; exact h.bel.size, fun k hk => by rw [World.setB_get _ _ _ _ (by omega)]; exact h.bel.block k hk⟩
  · rw [World.setB_get _ _ _ _ (by omega)]; exact h.a
  · rw [World.setB_get _ _ _ _ (by omega)]; exact h.b
  · rw [World.setB_get _ _ _ _ (by omega)]; exact h.s
theorem img_RecA {W w : World} {p : Nat} {n m : Int} {t : ByteArray} (h : ImgW W w p n m) (hg : Glob w) (hn : 1 ≤ n ∧ n ≤ 50) (hm : 1 ≤ m ∧ m ≤ 50) (hnm : ¬ n < m) (ht : t = recText n [qD] ++ recText (n + 1) [cD]) :
    Calls Tryz.prog 19 #[.agg #[.slice (some ⟨p + 1 + 1, 0, none⟩) 2 2, .string t, .int .i64 0]] w fun e w' => ∃ v', e = .returned (.tuple #[v', .int .i64 (n + 1)]) ∧ OwnL rCell 39 w' w.heap.size v' [aD, cD] ∧ Below w.heap.size w w' := by
  have hz : t.size ≤ 2000 := by rw [ht]; exact img_size hn.1 hn.2
  have hr : (recsI t (n + 1)).1 = [[cD]] := by rw [ht]; exact img_recs hn.1 hn.2
  have hrd := img_rd (t := t) (n := n) (m := m) hz h.a h.b h.s
  have hbest : bestUp (imgD n m t).slots (imgD n m t).slots.length = ((0 : Nat) : Int) := by rw [img_best, if_neg hnm]
  have c := fun i => World.cell?_of_get (i := i) h.s
  have q := impl_Recovered (p + 1 + 1) 0 2 (some ⟨p, 0, none⟩) 1 (imgD n m t) ⟨n, [aD], true⟩ w hg hrd (img_ok (by omega) hn.2 (by omega) hm.2 hz) hbest (by show _ < 2; decide) (World.lt_of_get h.s) (by rw [c]; rfl) (by rw [c]; rfl) (by rw [c]; rfl) (one_rdl w aD p h.a) (by show 1 ≤ 1000; decide) (by show t.size ≤ 20000; omega) ⟨by show (0 : Int) ≤ n; omega, by show n ≤ 99999; omega⟩ [[cD]] (recsI t (n + 1)).2 (by show recsI t (n + 1) = _; rw [← hr]) (by decide) (by
    intro l hl
    simp only [List.mem_singleton] at hl
    subst hl
    refine ⟨by decide, fun c hc => ?_⟩
    simp only [List.mem_singleton] at hc
    subst hc
    constructor <;> decide)
  rw [img_foldA] at q
  exact q
theorem img_RecB {W w : World} {p : Nat} {n m : Int} {t : ByteArray} (h : ImgW W w p n m) (hg : Glob w) (hn : 1 ≤ n ∧ n ≤ 50) (hm : 1 ≤ m ∧ m ≤ 50) (hnm : n < m) (ht : t = recText m [qD] ++ recText (m + 1) [cD]) :
    Calls Tryz.prog 19 #[.agg #[.slice (some ⟨p + 1 + 1, 0, none⟩) 2 2, .string t, .int .i64 0]] w fun e w' => ∃ v', e = .returned (.tuple #[v', .int .i64 (m + 1)]) ∧ OwnL rCell 39 w' w.heap.size v' [bD, cD] ∧ Below w.heap.size w w' := by
  have hz : t.size ≤ 2000 := by rw [ht]; exact img_size hm.1 hm.2
  have hr : (recsI t (m + 1)).1 = [[cD]] := by rw [ht]; exact img_recs hm.1 hm.2
  have hrd := img_rd (t := t) (n := n) (m := m) hz h.a h.b h.s
  have hbest : bestUp (imgD n m t).slots (imgD n m t).slots.length = ((1 : Nat) : Int) := by rw [img_best, if_pos hnm]
  have c := fun i => World.cell?_of_get (i := i) h.s
  have q := impl_Recovered (p + 1 + 1) 1 2 (some ⟨p + 1, 0, none⟩) 1 (imgD n m t) ⟨m, [bD], true⟩ w hg hrd (img_ok (by omega) hn.2 (by omega) hm.2 hz) hbest (by show _ < 2; decide) (World.lt_of_get h.s) (by rw [c]; rfl) (by rw [c]; rfl) (by rw [c]; rfl) (one_rdl w bD (p + 1) h.b) (by show 1 ≤ 1000; decide) (by show t.size ≤ 20000; omega) ⟨by show (0 : Int) ≤ m; omega, by show m ≤ 99999; omega⟩ [[cD]] (recsI t (m + 1)).2 (by show recsI t (m + 1) = _; rw [← hr]) (by decide) (by
    intro l hl
    simp only [List.mem_singleton] at hl
    subst hl
    refine ⟨by decide, fun c hc => ?_⟩
    simp only [List.mem_singleton] at hc
    subst hc
    constructor <;> decide)
  rw [img_foldB] at q
  exact q
set_option maxRecDepth 100000 in
set_option maxHeartbeats 20000000 in
theorem law_FnImages (v : Value) (bs : List UInt8) (W : World) (hs : Sl W v bs.length (bytesOf bs)) (hb : ∀ b, v.ownBlock = some b → b < W.heap.size) (hg : Glob W) : Calls Tryz.prog 5 #[v] W (Yes W) := by
  have HS := Lib.hid hs
  have HB := Lib.hid hb
  have HG := Lib.hid hg
  clear hg
  unfold Yes
  by_cases hbig : 1048576 < bs.length
  · go_enter Tryz.func5, Tryz.ntmps5
    go_wp2_with fail
    (go_at_call 12; refine (laws_big v bs.length _ _ hs).mono ?_; rintro e w' ⟨rfl, rfl⟩)
    go_wp2
    go_ret
    exact ⟨rfl, (by repeat (first | with_reducible exact Below.refl _ _ | with_reducible apply Below.ofExt | with_reducible apply Below.ofAlloc | with_reducible apply Below.drew | with_reducible apply Below.ofDrewN | with_reducible assumption | (with_reducible refine Below.setCell ?_ (by first | exact Nat.le_refl _ | (simp [go_sem]; done) | (simp [go_sem]; omega)) _)))⟩
  clear hs hb
  have DP := Lib.hid (spec_DrawPlaces v bs W HS.out (by omega) HB.out)
  go_enter Tryz.func5, Tryz.ntmps5
  (try simp only []); repeat (first | go_skip | go_guarded | go_step | go_upon | go_back)
  (go_at_call 12; refine (laws_big v bs.length _ _ HS.out).mono ?_; rintro e w' ⟨rfl, rfl⟩)
  (try simp only []); repeat (first | go_skip | go_guarded | go_step | go_upon | go_back)
  (go_at_call 14; refine DP.out.mono ?_; rintro e w2 ⟨vp, rfl, ps, hop, hlp, hsp, hbw2⟩)
  obtain ⟨pa, pc, rfl⟩ := hop.rd.form
  obtain ⟨_, pb, po, rfl, hpl, y0⟩ := int_at hop (i := 0) (by omega)
  obtain ⟨_, pb', po', eb, _, y1⟩ := int_at hop (i := 1) (by omega)
  simp only [Option.some.injEq, Addr.mk.injEq, and_true] at eb
  obtain ⟨rfl, rfl⟩ := eb
  have hp0 := hsp _ (List.getElem_mem (show 0 < ps.length by omega))
  have hp1 := hsp _ (List.getElem_mem (show 1 < ps.length by omega))
  generalize ps[0] = p0 at *
  generalize ps[1] = p1 at *
  rw [Nat.add_zero] at y0
  have hpl2 : 1 < ps.length := by omega
  have hpl3 : (0 : Int) < ps.length := by omega
  have hpl4 : (1 : Int) < ps.length := by omega
  clear hop DP hsp
  obtain ⟨n, hn⟩ : ∃ n : Int, n = 1 + p0 % 50 := ⟨_, rfl⟩
  obtain ⟨m, hm⟩ : ∃ m : Int, m = 1 + p1 % 50 := ⟨_, rfl⟩
  have a0 := Int.emod_nonneg p0 (b := 50) (by omega)
  have a1 := Int.emod_lt_of_pos p0 (b := 50) (by omega)
  have b0 := Int.emod_nonneg p1 (b := 50) (by omega)
  have b1 := Int.emod_lt_of_pos p1 (b := 50) (by omega)
  have hn1 : 1 ≤ n := by omega
  have hn2 : n ≤ 50 := by omega
  have hm1 : 1 ≤ m := by omega
  have hm2 : m ≤ 50 := by omega
  have hz2 := hbw2.size
  have hzn : Hid (1 + p0 % 50 = n) := hn.symm
  have hzm : Hid (1 + p1 % 50 = m) := hm.symm
  clear a0 a1 b0 b1 hn hm
  by_cases hnm : n < m
  · have hcn : 1 + p0 % 50 < 1 + p1 % 50 := by rw [hzn.out, hzm.out]; exact hnm
    (try simp only []); repeat (first | go_skip | go_guarded | go_step | go_upon | go_back)
    rw [hzn.out, hzm.out]
    refine imgK (fun W0 => ImgW W W0 w2.heap.size n m ∧ W0.heap[w2.heap.size + 1 + 1 + 1]? = some (.cells #[.slice (some ⟨w2.heap.size + 1 + 1, 0, none⟩) 2 2, .string ⟨#[]⟩, .int .i64 0] 46) ∧ W0.heap[w2.heap.size + 1 + 1 + 1 + 1]? = some (.cells #[.string ⟨#[113]⟩, .string ⟨#[57]⟩] 39)) (by have h5 := heap5 w2 (.cells #[.string ⟨#[97]⟩, .string ⟨#[49]⟩] 39) (.cells #[.string ⟨#[98]⟩, .string ⟨#[50]⟩] 39) (.cells #[.int .i64 n, .slice (some ⟨w2.heap.size, 0, none⟩) 1 1, .bool true, .int .i64 m, .slice (some ⟨w2.heap.size + 1, 0, none⟩) 1 1, .bool true] 41) (.cells #[.slice (some ⟨w2.heap.size + 1 + 1, 0, none⟩) 2 2, .string ⟨#[]⟩, .int .i64 0] 46) (.cells #[.string ⟨#[113]⟩, .string ⟨#[57]⟩] 39) w2.heap.size rfl; exact ⟨⟨(by repeat (first | with_reducible exact Below.refl _ _ | with_reducible apply Below.ofExt | with_reducible apply Below.ofAlloc | with_reducible apply Below.drew | with_reducible apply Below.ofDrewN | with_reducible assumption | (with_reducible refine Below.setCell ?_ (by first | exact Nat.le_refl _ | (simp [go_sem]; done) | (simp [go_sem]; omega)) _))), hz2, h5.1, h5.2.1, h5.2.2.1⟩, h5.2.2.2.1, h5.2.2.2.2⟩) ?_
    rintro w5 ⟨hI5, hD5, hQ5⟩
    have d5 := impl_RecordText m (.slice (some ⟨w2.heap.size + 1 + 1 + 1 + 1, 0, none⟩) 1 1) [qD] w5 (e := 39) (HG.out.below hI5.bel).tab (rd_one1 vCell (cs := [.string ⟨#[113]⟩, .string ⟨#[57]⟩]) ⟨rfl, by constructor <;> decide⟩ hQ5) (by decide)
    have D5 := Lib.hid d5; have HD5 := Lib.hid hD5; clear d5 hD5 hQ5
    (go_at_call 18; refine D5.out.mono ?_; rintro e w6 ⟨rfl, hb6⟩)
    have hI6 := hI5.below hb6; have HD6 := Lib.hid (((Grew.below hb6) _ (World.lt_of_get HD5.out)).trans HD5.out)
    clear D5 HD5 hI5 hb6
    have d6 := impl_RecordText (m + 1) (.slice (some ⟨w6.heap.size, 0, none⟩) 1 1) [cD] (w6.alloc (.cells #[.string ⟨#[99]⟩, .string ⟨#[51]⟩] 39)) (e := 39) (HG.out.below (Below.then hI6.bel ((Below.refl _ _).ofAlloc _))).tab (rd_one1 vCell (cs := [.string ⟨#[99]⟩, .string ⟨#[51]⟩]) ⟨rfl, by constructor <;> decide⟩ (alloc_newA' w6 #[.string ⟨#[99]⟩, .string ⟨#[51]⟩] 39 (b := w6.heap.size) rfl)) (by decide)
    have D6 := Lib.hid d6; clear d6
    (try simp only []); repeat (first | go_skip | go_guarded | go_step | go_upon | go_back)
    (go_at_call 18; refine D6.out.mono ?_; rintro e w7 ⟨rfl, hb7⟩)
    have b67 := Below.then ((Below.refl w6.heap.size w6).ofAlloc _) hb7
    have hI7 := hI6.below b67; have hD7 := ((Grew.below b67) _ (World.lt_of_get HD6.out)).trans HD6.out
    have hp7 := World.lt_of_get hD7
    clear D6 HD6 hI6 hb7 b67
    obtain ⟨t, htx⟩ : ∃ t, t = recText m [qD] ++ recText (m + 1) [cD] := ⟨_, rfl⟩
    have hI8 := hI7.set (.cells #[.slice (some ⟨w2.heap.size + 1 + 1, 0, none⟩) 2 2, .string t, .int .i64 0] 46)
    have d8 := img_RecB hI8 (HG.out.below hI8.bel) ⟨hn1, hn2⟩ ⟨hm1, hm2⟩ hnm htx
    have D8 := Lib.hid d8; have HI8 := Lib.hid hI8; have HTX := Lib.hid htx; clear d8 hI8 hI7 htx
    have e7 := World.setB_self hD7
    rw [← e7]
    clear e7 hD7
    have hcz : ((recText m [qD]).size : Int) + (recText (m + 1) [cD]).size ≤ 2000 := by have := img_size (f := m) (by omega) (by omega); rw [ByteArray.size_append] at this; omega
    have c1 : ¬ (9223372036854775807 < ((recText m [qD]).size : Int) + (recText (m + 1) [cD]).size) := by omega
    have c2 : ((recText m [qD]).size : Int) + (recText (m + 1) [cD]).size ≤ 9223372036854775807 := by omega
    have c3 : ¬ ((((recText m [qD]).size + (recText (m + 1) [cD]).size : Nat) : Int) > IntKind.i64.max) := by show ¬ (9223372036854775807 < _); omega
    (try simp only []); repeat (first | go_skip | go_guarded | go_step | go_upon | go_back)
    rw [← HTX.out]
    (go_at_call 19; refine D8.out.mono ?_; rintro e w9 ⟨v9, rfl, ho9, hb9⟩)
    obtain ⟨a9, c9, rfl⟩ := ho9.rd.form
    have HI9 := Lib.hid (HI8.out.below hb9); have HO9 : Hid (RdL rCell w9 (.slice a9 2 c9) [bD, cD]) := Lib.hid ho9.rd
    have ho9l := ho9.rd
    have hbw9 := HI9.out.bel
    have z0 : w9.cell? ⟨w2.heap.size + 1, 0, none⟩ = some (.string ⟨#[98]⟩) := by rw [World.cell?_of_get HI9.out.b]; rfl
    have z1 : w9.cell? ⟨w2.heap.size + 1, 1, none⟩ = some (.string ⟨#[50]⟩) := by rw [World.cell?_of_get HI9.out.b]; rfl
    have lz : w2.heap.size + 1 < w9.heap.size := World.lt_of_get HI9.out.b
    clear D8 HI8 HI9 HTX ho9 hb9 ho9l hp7
    have hget := img_getB
    have HGC := Lib.hid hget.1; have HGW := Lib.hid hget.2.1; have HAN := Lib.hid hget.2.2; clear hget
    (try simp only []); repeat (first | go_skip | go_guarded | go_step | go_upon | go_back)
    refine wp_region_ord [(0,true),(1,true),(2,true),(3,true),(4,true),(5,true),(6,false),(7,true),(8,true),(9,true),(10,true),(11,false),(12,true),(13,true),(14,true),(15,true),(16,true),(17,true),(18,true),(19,true),(21,true),(22,true),(23,true),(24,true),(20,false),(25,true),(26,true),(27,true),(28,true),(29,true),(30,true),(31,true),(32,true)] 33 (by kernel_rfl) (by kernel_rfl) ?_
    repeat (refine wpOrd_quiet rfl (fun K hK => ?_); go_simp; (try simp (disch := omega) only [IntWalk.i64_in]); refine hK _ ?_; clear hK K)
    refine wpOrd_grow rfl (fun K hK => ?_); go_simp; go_at_call 20; refine (impl_GetKey _ [bD, cD] _ _ (by repeat (first | with_reducible exact HO9.out | with_reducible apply RdL.ext | with_reducible apply RdL.alloc | with_reducible apply RdL.drew))).mono ?_; rintro e w' ⟨rfl, hb⟩; obtain ⟨X, rfl⟩ := hb.ext; clear hb; try go_simp; refine hK _ _ (by show Sx _ _; (try simp only [← Array.append_assoc]); repeat (first | with_reducible exact Sx.drew _ | with_reducible exact Sx.same _ _ _ _ | with_reducible exact ⟨_, rfl⟩ | with_reducible apply Sx.more | with_reducible apply Sx.ext | with_reducible apply Sx.alloc | with_reducible apply Sx.draw | with_reducible exact Sx.refl _)) ?_; clear hK K
    rw [HGC.out]
    repeat (refine wpOrd_quiet rfl (fun K hK => ?_); go_simp; (try simp (disch := omega) only [IntWalk.i64_in]); refine hK _ ?_; clear hK K)
    refine wpOrd_grow rfl (fun K hK => ?_); go_simp; go_at_call 21; refine (impl_HasKey _ [bD, cD] _ _ (by repeat (first | with_reducible exact HO9.out | with_reducible apply RdL.ext | with_reducible apply RdL.alloc | with_reducible apply RdL.drew)) HAN.out).mono ?_; rintro e w' ⟨rfl, hb⟩; obtain ⟨X, rfl⟩ := hb.ext; clear hb; try go_simp; refine hK _ _ (by show Sx _ _; (try simp only [← Array.append_assoc]); repeat (first | with_reducible exact Sx.drew _ | with_reducible exact Sx.same _ _ _ _ | with_reducible exact ⟨_, rfl⟩ | with_reducible apply Sx.more | with_reducible apply Sx.ext | with_reducible apply Sx.alloc | with_reducible apply Sx.draw | with_reducible exact Sx.refl _)) ?_; clear hK K
    repeat (refine wpOrd_quiet rfl (fun K hK => ?_); go_simp; (try simp (disch := omega) only [IntWalk.i64_in]); refine hK _ ?_; clear hK K)
    refine wpOrd_grow rfl (fun K hK => ?_); go_simp; go_at_call 20; refine (impl_GetKey _ [bD, cD] _ _ (by repeat (first | with_reducible exact HO9.out | with_reducible apply RdL.ext | with_reducible apply RdL.alloc | with_reducible apply RdL.drew))).mono ?_; rintro e w' ⟨rfl, hb⟩; obtain ⟨X, rfl⟩ := hb.ext; clear hb; try go_simp; refine hK _ _ (by show Sx _ _; (try simp only [← Array.append_assoc]); repeat (first | with_reducible exact Sx.drew _ | with_reducible exact Sx.same _ _ _ _ | with_reducible exact ⟨_, rfl⟩ | with_reducible apply Sx.more | with_reducible apply Sx.ext | with_reducible apply Sx.alloc | with_reducible apply Sx.draw | with_reducible exact Sx.refl _)) ?_; clear hK K
    rw [HGW.out]
    repeat (refine wpOrd_quiet rfl (fun K hK => ?_); go_simp; (try simp (disch := omega) only [IntWalk.i64_in]); refine hK _ ?_; clear hK K)
    refine wpOrd_nil ?_
    (try simp only []); repeat (first | go_skip | go_guarded | go_step | go_upon | go_back)
    go_ret
    exact ⟨rfl, (by repeat (first | with_reducible exact Below.refl _ _ | with_reducible apply Below.ofExt | with_reducible apply Below.ofAlloc | with_reducible apply Below.drew | with_reducible apply Below.ofDrewN | with_reducible assumption | (with_reducible refine Below.setCell ?_ (by first | exact Nat.le_refl _ | (simp [go_sem]; done) | (simp [go_sem]; omega)) _)))⟩
  · have hcn : ¬ (1 + p0 % 50 < 1 + p1 % 50) := by rw [hzn.out, hzm.out]; exact hnm
    (try simp only []); repeat (first | go_skip | go_guarded | go_step | go_upon | go_back)
    rw [hzn.out, hzm.out]
    refine imgK (fun W0 => ImgW W W0 w2.heap.size n m ∧ W0.heap[w2.heap.size + 1 + 1 + 1]? = some (.cells #[.slice (some ⟨w2.heap.size + 1 + 1, 0, none⟩) 2 2, .string ⟨#[]⟩, .int .i64 0] 46) ∧ W0.heap[w2.heap.size + 1 + 1 + 1 + 1]? = some (.cells #[.string ⟨#[113]⟩, .string ⟨#[57]⟩] 39)) (by have h5 := heap5 w2 (.cells #[.string ⟨#[97]⟩, .string ⟨#[49]⟩] 39) (.cells #[.string ⟨#[98]⟩, .string ⟨#[50]⟩] 39) (.cells #[.int .i64 n, .slice (some ⟨w2.heap.size, 0, none⟩) 1 1, .bool true, .int .i64 m, .slice (some ⟨w2.heap.size + 1, 0, none⟩) 1 1, .bool true] 41) (.cells #[.slice (some ⟨w2.heap.size + 1 + 1, 0, none⟩) 2 2, .string ⟨#[]⟩, .int .i64 0] 46) (.cells #[.string ⟨#[113]⟩, .string ⟨#[57]⟩] 39) w2.heap.size rfl; exact ⟨⟨(by repeat (first | with_reducible exact Below.refl _ _ | with_reducible apply Below.ofExt | with_reducible apply Below.ofAlloc | with_reducible apply Below.drew | with_reducible apply Below.ofDrewN | with_reducible assumption | (with_reducible refine Below.setCell ?_ (by first | exact Nat.le_refl _ | (simp [go_sem]; done) | (simp [go_sem]; omega)) _))), hz2, h5.1, h5.2.1, h5.2.2.1⟩, h5.2.2.2.1, h5.2.2.2.2⟩) ?_
    rintro w5 ⟨hI5, hD5, hQ5⟩
    have d5 := impl_RecordText n (.slice (some ⟨w2.heap.size + 1 + 1 + 1 + 1, 0, none⟩) 1 1) [qD] w5 (e := 39) (HG.out.below hI5.bel).tab (rd_one1 vCell (cs := [.string ⟨#[113]⟩, .string ⟨#[57]⟩]) ⟨rfl, by constructor <;> decide⟩ hQ5) (by decide)
    have D5 := Lib.hid d5; have HD5 := Lib.hid hD5; clear d5 hD5 hQ5
    (go_at_call 18; refine D5.out.mono ?_; rintro e w6 ⟨rfl, hb6⟩)
    have hI6 := hI5.below hb6; have HD6 := Lib.hid (((Grew.below hb6) _ (World.lt_of_get HD5.out)).trans HD5.out)
    clear D5 HD5 hI5 hb6
    have d6 := impl_RecordText (n + 1) (.slice (some ⟨w6.heap.size, 0, none⟩) 1 1) [cD] (w6.alloc (.cells #[.string ⟨#[99]⟩, .string ⟨#[51]⟩] 39)) (e := 39) (HG.out.below (Below.then hI6.bel ((Below.refl _ _).ofAlloc _))).tab (rd_one1 vCell (cs := [.string ⟨#[99]⟩, .string ⟨#[51]⟩]) ⟨rfl, by constructor <;> decide⟩ (alloc_newA' w6 #[.string ⟨#[99]⟩, .string ⟨#[51]⟩] 39 (b := w6.heap.size) rfl)) (by decide)
    have D6 := Lib.hid d6; clear d6
    (try simp only []); repeat (first | go_skip | go_guarded | go_step | go_upon | go_back)
    (go_at_call 18; refine D6.out.mono ?_; rintro e w7 ⟨rfl, hb7⟩)
    have b67 := Below.then ((Below.refl w6.heap.size w6).ofAlloc _) hb7
    have hI7 := hI6.below b67; have hD7 := ((Grew.below b67) _ (World.lt_of_get HD6.out)).trans HD6.out
    have hp7 := World.lt_of_get hD7
    clear D6 HD6 hI6 hb7 b67
    obtain ⟨t, htx⟩ : ∃ t, t = recText n [qD] ++ recText (n + 1) [cD] := ⟨_, rfl⟩
    have hI8 := hI7.set (.cells #[.slice (some ⟨w2.heap.size + 1 + 1, 0, none⟩) 2 2, .string t, .int .i64 0] 46)
    have d8 := img_RecA hI8 (HG.out.below hI8.bel) ⟨hn1, hn2⟩ ⟨hm1, hm2⟩ hnm htx
    have D8 := Lib.hid d8; have HI8 := Lib.hid hI8; have HTX := Lib.hid htx; clear d8 hI8 hI7 htx
    have e7 := World.setB_self hD7
    rw [← e7]
    clear e7 hD7
    have hcz : ((recText n [qD]).size : Int) + (recText (n + 1) [cD]).size ≤ 2000 := by have := img_size (f := n) (by omega) (by omega); rw [ByteArray.size_append] at this; omega
    have c1 : ¬ (9223372036854775807 < ((recText n [qD]).size : Int) + (recText (n + 1) [cD]).size) := by omega
    have c2 : ((recText n [qD]).size : Int) + (recText (n + 1) [cD]).size ≤ 9223372036854775807 := by omega
    have c3 : ¬ ((((recText n [qD]).size + (recText (n + 1) [cD]).size : Nat) : Int) > IntKind.i64.max) := by show ¬ (9223372036854775807 < _); omega
    (try simp only []); repeat (first | go_skip | go_guarded | go_step | go_upon | go_back)
    rw [← HTX.out]
    (go_at_call 19; refine D8.out.mono ?_; rintro e w9 ⟨v9, rfl, ho9, hb9⟩)
    obtain ⟨a9, c9, rfl⟩ := ho9.rd.form
    have HI9 := Lib.hid (HI8.out.below hb9); have HO9 : Hid (RdL rCell w9 (.slice a9 2 c9) [aD, cD]) := Lib.hid ho9.rd
    have ho9l := ho9.rd
    have hbw9 := HI9.out.bel
    have z0 : w9.cell? ⟨w2.heap.size, 0, none⟩ = some (.string ⟨#[97]⟩) := by rw [World.cell?_of_get HI9.out.a]; rfl
    have z1 : w9.cell? ⟨w2.heap.size, 1, none⟩ = some (.string ⟨#[49]⟩) := by rw [World.cell?_of_get HI9.out.a]; rfl
    have lz : w2.heap.size < w9.heap.size := World.lt_of_get HI9.out.a
    clear D8 HI8 HI9 HTX ho9 hb9 ho9l hp7
    have hget := img_getA
    have HGC := Lib.hid hget.1; have HGW := Lib.hid hget.2.1; have HAN := Lib.hid hget.2.2; clear hget
    (try simp only []); repeat (first | go_skip | go_guarded | go_step | go_upon | go_back)
    refine wp_region_ord [(0,true),(1,true),(2,true),(3,true),(4,true),(5,true),(6,false),(7,true),(8,true),(9,true),(10,true),(11,false),(12,true),(13,true),(14,true),(15,true),(16,true),(17,true),(18,true),(19,true),(21,true),(22,true),(23,true),(24,true),(20,false),(25,true),(26,true),(27,true),(28,true),(29,true),(30,true),(31,true),(32,true)] 33 (by kernel_rfl) (by kernel_rfl) ?_
    repeat (refine wpOrd_quiet rfl (fun K hK => ?_); go_simp; (try simp (disch := omega) only [IntWalk.i64_in]); refine hK _ ?_; clear hK K)
    refine wpOrd_grow rfl (fun K hK => ?_); go_simp; go_at_call 20; refine (impl_GetKey _ [aD, cD] _ _ (by repeat (first | with_reducible exact HO9.out | with_reducible apply RdL.ext | with_reducible apply RdL.alloc | with_reducible apply RdL.drew))).mono ?_; rintro e w' ⟨rfl, hb⟩; obtain ⟨X, rfl⟩ := hb.ext; clear hb; try go_simp; refine hK _ _ (by show Sx _ _; (try simp only [← Array.append_assoc]); repeat (first | with_reducible exact Sx.drew _ | with_reducible exact Sx.same _ _ _ _ | with_reducible exact ⟨_, rfl⟩ | with_reducible apply Sx.more | with_reducible apply Sx.ext | with_reducible apply Sx.alloc | with_reducible apply Sx.draw | with_reducible exact Sx.refl _)) ?_; clear hK K
    rw [HGC.out]
    repeat (refine wpOrd_quiet rfl (fun K hK => ?_); go_simp; (try simp (disch := omega) only [IntWalk.i64_in]); refine hK _ ?_; clear hK K)
    refine wpOrd_grow rfl (fun K hK => ?_); go_simp; go_at_call 21; refine (impl_HasKey _ [aD, cD] _ _ (by repeat (first | with_reducible exact HO9.out | with_reducible apply RdL.ext | with_reducible apply RdL.alloc | with_reducible apply RdL.drew)) HAN.out).mono ?_; rintro e w' ⟨rfl, hb⟩; obtain ⟨X, rfl⟩ := hb.ext; clear hb; try go_simp; refine hK _ _ (by show Sx _ _; (try simp only [← Array.append_assoc]); repeat (first | with_reducible exact Sx.drew _ | with_reducible exact Sx.same _ _ _ _ | with_reducible exact ⟨_, rfl⟩ | with_reducible apply Sx.more | with_reducible apply Sx.ext | with_reducible apply Sx.alloc | with_reducible apply Sx.draw | with_reducible exact Sx.refl _)) ?_; clear hK K
    repeat (refine wpOrd_quiet rfl (fun K hK => ?_); go_simp; (try simp (disch := omega) only [IntWalk.i64_in]); refine hK _ ?_; clear hK K)
    refine wpOrd_grow rfl (fun K hK => ?_); go_simp; go_at_call 20; refine (impl_GetKey _ [aD, cD] _ _ (by repeat (first | with_reducible exact HO9.out | with_reducible apply RdL.ext | with_reducible apply RdL.alloc | with_reducible apply RdL.drew))).mono ?_; rintro e w' ⟨rfl, hb⟩; obtain ⟨X, rfl⟩ := hb.ext; clear hb; try go_simp; refine hK _ _ (by show Sx _ _; (try simp only [← Array.append_assoc]); repeat (first | with_reducible exact Sx.drew _ | with_reducible exact Sx.same _ _ _ _ | with_reducible exact ⟨_, rfl⟩ | with_reducible apply Sx.more | with_reducible apply Sx.ext | with_reducible apply Sx.alloc | with_reducible apply Sx.draw | with_reducible exact Sx.refl _)) ?_; clear hK K
    rw [HGW.out]
    repeat (refine wpOrd_quiet rfl (fun K hK => ?_); go_simp; (try simp (disch := omega) only [IntWalk.i64_in]); refine hK _ ?_; clear hK K)
    refine wpOrd_nil ?_
    (try simp only []); repeat (first | go_skip | go_guarded | go_step | go_upon | go_back)
    go_ret
    exact ⟨rfl, (by repeat (first | with_reducible exact Below.refl _ _ | with_reducible apply Below.ofExt | with_reducible apply Below.ofAlloc | with_reducible apply Below.drew | with_reducible apply Below.ofDrewN | with_reducible assumption | (with_reducible refine Below.setCell ?_ (by first | exact Nat.le_refl _ | (simp [go_sem]; done) | (simp [go_sem]; omega)) _)))⟩
end Go.Proofs.YtedgenmbdjadkaaGreatDoor
namespace Go.Proofs.YtedgenmbdjadkaaGreatDoor
open Go.ChangeShapes Go.WideShapes Go.ChangeAt Go.RowKit

theorem okWide_slice_has {P : Program} {W : World} {base : Nat} {t e : TypeId} {a : Addr} {len cap : Nat} (ht : P.underlying t = some (.slice e)) (h : Value.okWide P W .any base t (.slice (some a) len cap)) :
    a.spot = none ∧ a.block < W.heap.size ∧ len ≤ cap ∧ cap ≤ maxLen := by
  unfold Value.okWide at h
  rw [ht] at h
  unfold Cell.okWide at h
  rw [ht] at h
  unfold Cell.ok at h
  rw [ht] at h
  obtain ⟨h1, h2, _, h3, row, cells, h4, _⟩ := h
  refine ⟨h3, ?_, h1, ?_⟩
  · unfold World.shape? at h4
    rcases Nat.lt_or_ge a.block W.heap.size with h | h
    · exact h
    · rw [Array.getElem?_eq_none h] at h4
      cases h4
  · have : IntKind.i64.max = 9223372036854775807 := by decide
    unfold maxLen
    omega
theorem open_bytes {H : Type} {enc : TypeId × Value → H} {P : Program} {W : World} {base : Nat} {t e : TypeId} {v : Value} {d : DataW H} {p : List MemPlace} (ht : P.underlying t = some (.slice e)) (he : P.underlying e = some (.int .u8)) (hc : P.cellsOf e = 1)
    (hv : Value.okWide P W .any base t v) (h : DataW.Trod enc P W 0 (fun _ => true) true t v d p) : ∃ bs : List UInt8, Sl W v bs.length (bytesOf bs) ∧ ∀ b, v.ownBlock = some b → b < W.heap.size := by
  obtain ⟨ao, len, cap, rfl⟩ := okWide_slice ht hv
  obtain ⟨fuel, hf⟩ := h
  rcases open_ints ht he hc hf with ⟨h1, _⟩ | ⟨a, len', cap', zs, h1, _, h2, h3, h4, _, h5, h6⟩
  · simp only [Value.cells, List.cons.injEq, and_true, Value.slice.injEq] at h1
    obtain ⟨rfl, rfl, rfl⟩ := h1
    exact ⟨[], .inl ⟨rfl, rfl, rfl⟩, fun b hb => by simp [Value.ownBlock] at hb⟩
  · simp only [Value.cells, List.cons.injEq, and_true, Value.slice.injEq] at h1
    obtain ⟨rfl, rfl, rfl⟩ := h1
    obtain ⟨g1, g2, _, _⟩ := okWide_slice_has ht hv
    obtain ⟨b, off, sp⟩ := a
    simp only at g1 g2
    subst g1
    simp only [if_true] at h4
    have hl : ((zs.take len).map fun n => UInt8.ofNat n.toNat).length = len := by simp; omega
    refine ⟨(zs.take len).map fun n => UInt8.ofNat n.toNat, .inr ⟨b, off, cap, by rw [hl], by omega, h3, fun j u hj => ?_⟩, fun k hk => by simp [Value.ownBlock] at hk; omega⟩
    have hjl : j < len := by
      have := (List.getElem?_eq_some_iff.1 hj).1
      simp [bytesOf] at this
      omega
    have hz : j < zs.length := by omega
    have := h5 j hz
    have ea : (Addr.add ⟨b, off, none⟩ j) = ⟨b, off + j, none⟩ := by
      unfold Addr.add
      split
      · next h => subst h; rfl
      · rfl
    rw [ea] at this
    rw [this]
    simp only [bytesOf, List.map_map, List.getElem?_map, List.getElem?_take, hjl, if_true, List.getElem?_eq_getElem hz, Option.map_some, Option.some.injEq, Function.comp] at hj
    rw [← hj, List.getD_eq_getElem?_getD, List.getElem?_eq_getElem hz]
    have hr := bounds_u8 (h6 zs[j] (List.getElem_mem hz))
    simp only [Option.getD_some, Option.some.injEq, Value.int.injEq, true_and]
    have : (UInt8.ofNat zs[j].toNat).toNat = zs[j].toNat := by simp [UInt8.toNat_ofNat']; omega
    rw [this]
    omega
end Go.Proofs.YtedgenmbdjadkaaGreatDoor
