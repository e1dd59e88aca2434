/- RecordsIn and LastSeq: the reference's and the program's. Each condition stands in its theorem. -/
import Derived.Test.YtedgenmbdjadkaaGreatDoorRecs
import Derived.Test.YtedgenmbdjadkaaGreatDoorLinesI
import Derived.Test.YtedgenmbdjadkaaGreatDoorReadRI
set_option linter.unusedVariables false
set_option linter.unusedSimpArgs false
namespace Go.Proofs.YtedgenmbdjadkaaGreatDoor
open Go.ChangeShapes Go.WideShapes Go.ChangeAt Go.RowKit

theorem OwnSS.lt {w : World} {B : Nat} {v : Value} {ls : List (List CellD)} {hs : List SlH} {fps : List (List Nat)} (h : OwnSS w B v ls hs fps) : ∀ b ∈ fps.flatten, b < w.heap.size := h.el.lt
/-- what a round of the reading of records comes upon -/
def RecRel (fr : Int) (s : ByteArray) (B : Nat) (w wr : World) (o : Value) (n : Nat) (ls : List (List CellD)) (hs : List SlH) (fps : List (List Nat)) (sz : Int) : Prop :=
  OwnSS wr B o ls hs fps ∧ recs fr ((linesB s).drop n) ls sz = recsI s fr ∧ ls.length ≤ n ∧ (0 ≤ sz ∧ sz ≤ n * 1048577) ∧ Below B w wr
set_option maxRecDepth 100000 in
set_option maxHeartbeats 4000000 in
theorem spec_RecordsIn (s : ByteArray) (fr : Int) (w : World) (hs : s.size ≤ 1048576) :
    Calls Tryz.prog 7 #[.string s, .int .i64 fr] w (RsP s fr w) := by
  go_enter Tryz.func7, Tryz.ntmps7
  go_wp2_with fail
  (go_at_call 36; refine (spec_in fr 1 100000 _).mono ?_; rintro e w' ⟨rfl, rfl⟩)
  have hE0 := OwnSS.empty w
  cases hin : inB fr 1 100000 with
  | false =>
    have HR := Lib.hid (recsI_out (s := s) hin)
    have HE := Lib.hid hE0
    clear hE0
    go_wp2
    refine bodyPost_ret (by simp [results, Tryz.results7, go_sem]; rfl) rfl ?_
    exact RsP.mk HE.out HR.out (by repeat (first | with_reducible exact Below.refl _ _ | with_reducible apply Below.ofExt | with_reducible apply Below.ofAlloc | with_reducible apply Below.drew | with_reducible apply Below.ofDrewN | with_reducible assumption | (with_reducible refine Below.setCell ?_ (by first | exact Nat.le_refl _ | (simp [go_sem]; done) | (simp [go_sem]; omega)) _)))
  | true =>
    have hfr : 1 ≤ fr ∧ fr ≤ 100000 := by unfold inB at hin; simp at hin; omega
    have HR := Lib.hid (recsI_in (s := s) hin)
    clear hin
    have HE := Lib.hid hE0
    clear hE0
    go_wp2_with fail
    (go_at_call 35; refine (spec_LinesIn s _ hs).mono ?_; rintro e w1 ⟨lv, xs, rfl, hl, hx, hb1⟩)
    obtain rfl := linesB_eq hx
    obtain ⟨la, lc, rfl⟩ := hl.rd.form
    have hll := linesB_len s
    have HL0 := Lib.hid hl
    have HE1 := Lib.hid (HE.out.bel hb1)
    have hbw := Below.then (Below.ofAlloc (Below.refl w.heap.size w) (.cells #[] 35)) hb1
    clear hb1 hl hx HE
    go_wp2
    go_loopw [6, 8, 9, 10, 11, 12] (fun o sz k _ _ _ wr => ∃ (n : Nat) (ls : List (List CellD)) (hs : List SlH) (fps : List (List Nat)) (z : Int), k = .int .i64 n ∧ sz = .int .i64 z ∧ n ≤ (linesB s).length ∧ RecRel fr s w.heap.size w wr o n ls hs fps z ∧ OwnL rStr 9 wr (w.alloc (.cells #[] 35)).heap.size (.slice la (linesB s).length lc) (linesB s)) (fun _ _ k _ _ _ _ => (linesB s).length - (intOf k).toNat)
    case atStart => exact ⟨0, [], [], [], 0, rfl, rfl, by omega, ⟨HE1.out, by rw [List.drop_zero, HR.out], by simp, by omega, hbw⟩, HL0.out⟩
    case round =>
      clear HE1 HL0 hbw
      obtain ⟨n, ls, hs, fps, z, rfl, rfl, hn, ⟨ho, hrec, hln, hz, hbel⟩, hl⟩ := hrel
      rename_i wr
      obtain ⟨oa, oc, rfl⟩ := ho.form
      have HO := Lib.hid ho
      have HRC := Lib.hid hrec
      have HL := Lib.hid hl
      have hws := hbel.size
      have hlen2 := ho.len
      clear ho hrec
      by_cases hlt : (n : Int) < (linesB s).length
      case neg =>
        have he := recs_end fr (linesB s) n ls z (by omega)
        have HX := Lib.hid (HRC.out.symm.trans he)
        clear hl he
        go_wp2
        refine bodyPost_ret (by simp [results, Tryz.results7, go_sem]; rfl) rfl ?_
        exact RsP.mk HO.out HX.out hbel
      have hk : n < (linesB s).length := by omega
      obtain ⟨_, pb, po, hpe, hpl, y0⟩ := str_at hl hk
      cases hpe
      have hsx := linesB_mem (List.getElem_mem hk)
      have hdrop := fun p (a : recStep fr ls z (linesB s)[n] = some p) => recs_some hk a
      have hnone := fun (a : recStep fr ls z (linesB s)[n] = none) => recs_none hk a
      generalize (linesB s)[n] = x at *
      have HD := Lib.hid hdrop
      have HN := Lib.hid hnone
      clear hl hdrop hnone
      go_wp2_with fail
      (go_at_call 37; refine (spec_ReadRecord x _ (by omega)).mono ?_; rintro e w3 ⟨q, rv, b, cs, rfl, hrv, hok, hb3⟩)
      obtain ⟨ra, rc, rfl⟩ := hrv.rd.form
      have hbw3 : Below w.heap.size w w3 := Below.then hbel hb3
      have HO3 := Lib.hid (HO.out.bel hb3)
      have HL3 := Lib.hid (own_bel HL.out hb3)
      have y3 := (Grew.below hb3).cell y0
      have hpl3 := Nat.lt_of_lt_of_le hpl hb3.size
      have hws3 := hb3.size
      have HLT := Lib.hid HO.out.lt
      have HRV := Lib.hid hrv
      clear hb3 HO HL y0 hpl hbel hrv
      cases b with
      | false =>
        have hno := (hok.2 rfl).2.2
        have HX := Lib.hid (HRC.out.symm.trans (HN.out (step_no hno)))
        clear hok hno
        go_wp2
        refine bodyPost_ret (by simp [results, Tryz.results7, go_sem]; rfl) rfl ?_
        exact RsP.mk HO3.out HX.out hbw3
      | true =>
        have hyes := hok.1 rfl
        obtain ⟨hq, _, _, hcz⟩ := readI_inv hyes
        have HCZ := Lib.hid hcz
        clear hok hcz
        by_cases hA : ls.length = 0 ∧ q < fr
        case pos =>
          have hst := HD.out _ (step_skip hyes hA.1 hA.2)
          have HX := Lib.hid (hst.symm.trans HRC.out)
          have e1 : (q == fr + (ls.length : Int)) = false := by rw [beq_eq_false_iff_ne]; omega
          have e2 : (q != fr + (ls.length : Int)) = true := by rw [bne, e1]; rfl
          obtain ⟨hA1, hA2⟩ := hA
          obtain rfl := List.eq_nil_of_length_eq_zero hA1
          clear hst hyes hA1
          go_wp2
          go_roundw
          case rel => exact ⟨n + 1, [], hs, fps, z + x.size, by go_num, by go_num, by omega, ⟨HO3.out, HX.out, by simp, by omega, hbw3⟩, HL3.out⟩
          case measure => simp [intOf]; omega
        case neg =>
          by_cases hB : q = fr + ls.length
          case neg =>
            have HX := Lib.hid (HRC.out.symm.trans (HN.out (step_stop hyes hA hB)))
            have e1 : (q == fr + (ls.length : Int)) = false := by rw [beq_eq_false_iff_ne]; omega
            have e2 : (q != fr + (ls.length : Int)) = true := by rw [bne, e1]; rfl
            clear hyes
            by_cases h0 : ls.length = 0
            · have h2 : fr < q := by omega
              obtain rfl := List.eq_nil_of_length_eq_zero h0
              clear h0
              go_wp2
              refine bodyPost_ret (by simp [results, Tryz.results7, go_sem]; rfl) rfl ?_
              exact RsP.mk HO3.out HX.out hbw3
            · have h1 : (0 : Int) < ls.length := by omega
              go_wp2
              refine bodyPost_ret (by simp [results, Tryz.results7, go_sem]; rfl) rfl ?_
              exact RsP.mk HO3.out HX.out hbw3
          case pos =>
            have HX := Lib.hid ((HD.out _ (step_add hyes hB)).symm.trans HRC.out)
            have e1 : (q == fr + (ls.length : Int)) = true := by rw [beq_iff_eq]; exact hB
            have e2 : (q != fr + (ls.length : Int)) = false := by rw [bne, e1]; rfl
            clear hyes
            go_wp2_with (at_builtin; refine Stop.here ?_)
            refine wpList_appL rfl _ _ _ rfl (R := rSl) (e := 35) Tryz.elemCellSS (B := w.heap.size) (v := .slice oa ls.length oc) (xs := hs) (HO3.out.row.alloc _) rfl (ys := [⟨ra, cs.length, rc⟩]) (RdL.oneAt rSl _ ⟨ra, cs.length, rc⟩ _ rfl _ _ rfl) rfl (by simp only [List.length_singleton]; omega) (by simp only [List.length_singleton]; unfold maxLen; omega) (by simp [World.ext_size]; omega) ?_
            intro v6 w6 ho6 hg6 _
            obtain ⟨fp, hc1, hc2, hc3⟩ := own_of_cells HRV.out (fun d hd => by have := HCZ.out d hd; exact ⟨by omega, by omega⟩)
            have hO6 := (HO3.out.alloc (.cells #[.slice ra cs.length rc] 35)).snoc (View.ownGrow hc1 (Grew.alloc _ _)) hc2 (fun b hb => by have := hc3 b hb; omega) (fun b hb hb' => by have := HLT.out b hb; have := hc3 b hb'; omega) ho6 hg6
            have hb6 : Below w.heap.size w w6 := (Below.ofAlloc hbw3 _).grown hg6 (by simp; omega) (fun k e => ((HO3.out.row.alloc (.cells #[.slice ra cs.length rc] 35)).lt k e).1)
            have hap := own_apart (HL3.out.alloc (.cells #[.slice ra cs.length rc] 35)) (HO3.out.row.alloc (.cells #[.slice ra cs.length rc] 35)) (by decide)
            have hL6 := OwnL.kept (HL3.out.alloc (.cells #[.slice ra cs.length rc] 35)) hg6 hap
            obtain ⟨oa6, oc6, rfl⟩ := hO6.form
            rw [List.length_append, List.length_singleton] at hO6
            have HO6 := Lib.hid hO6
            have HL6 := Lib.hid hL6
            have hnb : some pb ≠ (Value.slice oa ls.length oc).ownBlock := by
              rcases hap with h | h
              · simp [Value.ownBlock] at h
              · exact h
            have y6 := (World.cell?_of_block (w := w3.alloc (.cells #[.slice ra cs.length rc] 35)) (w' := w6) (a := ⟨pb, po + n, none⟩) (hg6.block pb (by simp; omega) hnb)).trans ((Grew.alloc w3 _).cell y3)
            have hpl6 : pb < w6.heap.size := by have := hg6.size; simp at this; omega
            have HB6 := Lib.hid hb6
            clear ho6 hg6 hO6 hL6 hc1 hc2 hc3 HO3 HL3 hb6 y3 hpl3 hap hnb
            go_wp2
            go_roundw
            case rel => exact ⟨n + 1, ls ++ [cs], _, _, z + x.size, by go_num, by go_num, by omega, ⟨HO6.out, HX.out, by rw [List.length_append, List.length_singleton]; omega, by omega, HB6.out⟩, HL6.out⟩
            case measure => simp [intOf]; omega
set_option maxRecDepth 100000 in
set_option maxHeartbeats 4000000 in
theorem impl_RecordsIn (s : ByteArray) (fr : Int) (w : World) (hg : Glob w) (hs : s.size ≤ 1048576) :
    Calls Tryz.prog 8 #[.string s, .int .i64 fr] w (RsP s fr w) := by
  have HG := Lib.hid hg
  clear hg
  go_enter Tryz.func8, Tryz.ntmps8
  go_wp2_with fail
  (go_at_call 38; refine (impl_in fr 1 100000 _).mono ?_; rintro e w' ⟨rfl, rfl⟩)
  have hE0 := OwnSS.nil w w.heap.size
  cases hin : inB fr 1 100000 with
  | false =>
    have HR := Lib.hid (recsI_out (s := s) hin)
    have HE := Lib.hid hE0
    clear hE0
    go_wp2
    refine bodyPost_ret (by simp [results, Tryz.results8, go_sem]; rfl) rfl ?_
    exact RsP.mk HE.out HR.out (by repeat (first | with_reducible exact Below.refl _ _ | with_reducible apply Below.ofExt | with_reducible apply Below.ofAlloc | with_reducible apply Below.drew | with_reducible apply Below.ofDrewN | with_reducible assumption | (with_reducible refine Below.setCell ?_ (by first | exact Nat.le_refl _ | (simp [go_sem]; done) | (simp [go_sem]; omega)) _)))
  | true =>
    have hfr : 1 ≤ fr ∧ fr ≤ 100000 := by unfold inB at hin; simp at hin; omega
    have HR := Lib.hid (recsI_in (s := s) hin)
    clear hin
    have HE := Lib.hid hE0
    clear hE0
    go_wp2_with fail
    (go_at_call 34; refine (impl_LinesIn s _ HG.out.max hs).mono ?_; rintro e w1 ⟨lv, xs, rfl, hl, hx, hb1⟩)
    obtain rfl := linesB_eq hx
    obtain ⟨la, lc, rfl⟩ := hl.rd.form
    have hll := linesB_len s
    have HL0 := Lib.hid hl
    have HE1 := Lib.hid (HE.out.bel hb1)
    have hbw := hb1
    clear hl hx HE
    go_wp2
    go_loopw [6, 7, 9, 10, 11, 12, 13, 20] (fun o sz _ _ _ _ _ k wr => ∃ (n : Nat) (ls : List (List CellD)) (hs : List SlH) (fps : List (List Nat)) (z : Int), k = .int .i64 n ∧ sz = .int .i64 z ∧ n ≤ (linesB s).length ∧ RecRel fr s w.heap.size w wr o n ls hs fps z ∧ OwnL rStr 9 wr w.heap.size (.slice la (linesB s).length lc) (linesB s)) (fun _ _ _ _ _ _ _ k _ => (linesB s).length - (intOf k).toNat)
    case atStart => exact ⟨0, [], [], [], 0, rfl, rfl, by omega, ⟨HE1.out, by rw [List.drop_zero, HR.out], by simp, by omega, hbw⟩, HL0.out⟩
    case round =>
      clear HE1 HL0 hbw
      obtain ⟨n, ls, hs, fps, z, rfl, rfl, hn, ⟨ho, hrec, hln, hz, hbel⟩, hl⟩ := hrel
      rename_i wr
      obtain ⟨oa, oc, rfl⟩ := ho.form
      have HO := Lib.hid ho
      have HRC := Lib.hid hrec
      have HL := Lib.hid hl
      have hws := hbel.size
      have hlen2 := ho.len
      clear ho hrec
      by_cases hlt : (n : Int) < (linesB s).length
      case neg =>
        have he := recs_end fr (linesB s) n ls z (by omega)
        have HX := Lib.hid (HRC.out.symm.trans he)
        clear hl he
        go_wp2
        refine bodyPost_ret (by simp [results, Tryz.results8, go_sem]; rfl) rfl ?_
        exact RsP.mk HO.out HX.out hbel
      have hk : n < (linesB s).length := by omega
      obtain ⟨_, pb, po, hpe, hpl, y0⟩ := str_at hl hk
      cases hpe
      have hsx := linesB_mem (List.getElem_mem hk)
      have hdrop := fun p (a : recStep fr ls z (linesB s)[n] = some p) => recs_some hk a
      have hnone := fun (a : recStep fr ls z (linesB s)[n] = none) => recs_none hk a
      generalize (linesB s)[n] = x at *
      have HD := Lib.hid hdrop
      have HN := Lib.hid hnone
      clear hl hdrop hnone
      go_wp2_with fail
      (go_at_call 39; refine (impl_ReadRecord x _ (HG.out.below hbel) (by omega)).mono ?_; rintro e w3 ⟨q, rv, b, cs, rfl, hrv, hok, hb3⟩)
      obtain ⟨ra, rc, rfl⟩ := hrv.rd.form
      have hbw3 : Below w.heap.size w w3 := Below.then hbel hb3
      have HO3 := Lib.hid (HO.out.bel hb3)
      have HL3 := Lib.hid (own_bel HL.out hb3)
      have y3 := (Grew.below hb3).cell y0
      have hpl3 := Nat.lt_of_lt_of_le hpl hb3.size
      have hws3 := hb3.size
      have HLT := Lib.hid HO.out.lt
      have HRV := Lib.hid hrv
      clear hb3 HO HL y0 hpl hbel hrv
      cases b with
      | false =>
        obtain ⟨rfl, rfl, hno⟩ := hok.2 rfl
        have HX := Lib.hid (HRC.out.symm.trans (HN.out (step_no hno)))
        clear hok hno
        by_cases h0 : ls.length = 0
        · obtain rfl := List.eq_nil_of_length_eq_zero h0
          clear h0
          have h3 : (0 : Int) < fr := by omega
          go_wp2
          refine bodyPost_ret (by simp [results, Tryz.results8, go_sem]; rfl) rfl ?_
          exact RsP.mk HO3.out HX.out hbw3
        · have h1 : ((ls.length : Int) == 0) = false := by rw [beq_eq_false_iff_ne]; omega
          go_wp2
          refine bodyPost_ret (by simp [results, Tryz.results8, go_sem]; rfl) rfl ?_
          exact RsP.mk HO3.out HX.out hbw3
      | true =>
        have hyes := hok.1 rfl
        obtain ⟨hq, _, _, hcz⟩ := readI_inv hyes
        have HCZ := Lib.hid hcz
        clear hok hcz
        by_cases hA : ls.length = 0 ∧ q < fr
        case pos =>
          have hst := HD.out _ (step_skip hyes hA.1 hA.2)
          have HX := Lib.hid (hst.symm.trans HRC.out)
          have e1 : (q == fr + (ls.length : Int)) = false := by rw [beq_eq_false_iff_ne]; omega
          have e2 : (q != fr + (ls.length : Int)) = true := by rw [bne, e1]; rfl
          obtain ⟨hA1, hA2⟩ := hA
          obtain rfl := List.eq_nil_of_length_eq_zero hA1
          clear hst hyes hA1
          go_wp2
          go_roundw
          case rel => exact ⟨n + 1, [], hs, fps, z + x.size, by go_num, by go_num, by omega, ⟨HO3.out, HX.out, by simp, by omega, hbw3⟩, HL3.out⟩
          case measure => simp [intOf]; omega
        case neg =>
          by_cases hB : q = fr + ls.length
          case neg =>
            have HX := Lib.hid (HRC.out.symm.trans (HN.out (step_stop hyes hA hB)))
            have e1 : (q == fr + (ls.length : Int)) = false := by rw [beq_eq_false_iff_ne]; omega
            have e2 : (q != fr + (ls.length : Int)) = true := by rw [bne, e1]; rfl
            clear hyes
            by_cases h0 : ls.length = 0
            · have h2 : fr < q := by omega
              obtain rfl := List.eq_nil_of_length_eq_zero h0
              have e3 : (q != fr) = true := by rw [bne_iff_ne]; omega
              have h3 : ¬ q < fr := by omega
              have h4 : decide (q < fr) = false := decide_eq_false h3
              have h5 : (!decide (q < fr)) = true := by rw [h4]; rfl
              clear h0 e1 e2
              go_wp2
              refine bodyPost_ret (by simp [results, Tryz.results8, go_sem]; rfl) rfl ?_
              exact RsP.mk HO3.out HX.out hbw3
            · have h1 : ((ls.length : Int) == 0) = false := by rw [beq_eq_false_iff_ne]; omega
              go_wp2
              refine bodyPost_ret (by simp [results, Tryz.results8, go_sem]; rfl) rfl ?_
              exact RsP.mk HO3.out HX.out hbw3
          case pos =>
            have HX := Lib.hid ((HD.out _ (step_add hyes hB)).symm.trans HRC.out)
            have e1 : (q == fr + (ls.length : Int)) = true := by rw [beq_iff_eq]; exact hB
            have e2 : (q != fr + (ls.length : Int)) = false := by rw [bne, e1]; rfl
            clear hyes
            have hqf : ¬ q < fr := by omega
            by_cases h0 : ls.length = 0
            case neg =>
              have h1 : ((ls.length : Int) == 0) = false := by rw [beq_eq_false_iff_ne]; omega
              go_wp2_with (at_builtin; refine Stop.here ?_)
              refine wpList_appL rfl _ _ _ rfl (R := rSl) (e := 35) Tryz.elemCellSS (B := w.heap.size) (v := .slice oa ls.length oc) (xs := hs) (HO3.out.row.alloc _) rfl (ys := [⟨ra, cs.length, rc⟩]) (RdL.oneAt rSl _ ⟨ra, cs.length, rc⟩ _ rfl _ _ rfl) rfl (by simp only [List.length_singleton]; omega) (by simp only [List.length_singleton]; unfold maxLen; omega) (by simp [World.ext_size]; omega) ?_
              intro v6 w6 ho6 hg6 _
              obtain ⟨fp, hc1, hc2, hc3⟩ := own_of_cells HRV.out (fun d hd => by have := HCZ.out d hd; exact ⟨by omega, by omega⟩)
              have hO6 := (HO3.out.alloc (.cells #[.slice ra cs.length rc] 35)).snoc (View.ownGrow hc1 (Grew.alloc _ _)) hc2 (fun b hb => by have := hc3 b hb; omega) (fun b hb hb' => by have := HLT.out b hb; have := hc3 b hb'; omega) ho6 hg6
              have hb6 : Below w.heap.size w w6 := (Below.ofAlloc hbw3 _).grown hg6 (by simp; omega) (fun k e => ((HO3.out.row.alloc (.cells #[.slice ra cs.length rc] 35)).lt k e).1)
              have hap := own_apart (HL3.out.alloc (.cells #[.slice ra cs.length rc] 35)) (HO3.out.row.alloc (.cells #[.slice ra cs.length rc] 35)) (by decide)
              have hL6 := OwnL.kept (HL3.out.alloc (.cells #[.slice ra cs.length rc] 35)) hg6 hap
              obtain ⟨oa6, oc6, rfl⟩ := hO6.form
              rw [List.length_append, List.length_singleton] at hO6
              have HO6 := Lib.hid hO6
              have HL6 := Lib.hid hL6
              have hnb : some pb ≠ (Value.slice oa ls.length oc).ownBlock := by
                rcases hap with h | h
                · simp [Value.ownBlock] at h
                · exact h
              have y6 := (World.cell?_of_block (w := w3.alloc (.cells #[.slice ra cs.length rc] 35)) (w' := w6) (a := ⟨pb, po + n, none⟩) (hg6.block pb (by simp; omega) hnb)).trans ((Grew.alloc w3 _).cell y3)
              have hpl6 : pb < w6.heap.size := by have := hg6.size; simp at this; omega
              have HB6 := Lib.hid hb6
              clear ho6 hg6 hO6 hL6 hc1 hc2 hc3 HO3 HL3 hb6 y3 hpl3 hap hnb
              go_wp2
              go_roundw
              case rel => exact ⟨n + 1, ls ++ [cs], _, _, z + x.size, by go_num, by go_num, by omega, ⟨HO6.out, HX.out, by rw [List.length_append, List.length_singleton]; omega, by omega, HB6.out⟩, HL6.out⟩
              case measure => simp [intOf]; omega
            case pos =>
              obtain rfl := List.eq_nil_of_length_eq_zero h0
              simp only [List.length_nil, Int.natCast_zero, Int.add_zero] at hB
              subst hB
              have e3 : (q != q) = false := by simp
              have h3 : ¬ q < q := by omega
              have h4 : decide (q < q) = false := decide_eq_false h3
              have h5 : (!decide (q < q)) = true := by rw [h4]; rfl
              clear h0 e1 e2 hqf hA
              go_wp2_with (at_builtin; refine Stop.here ?_)
              refine wpList_appL rfl _ _ _ rfl (R := rSl) (e := 35) Tryz.elemCellSS (B := w.heap.size) (v := .slice oa 0 oc) (xs := hs) (HO3.out.row.alloc _) rfl (ys := [⟨ra, cs.length, rc⟩]) (RdL.oneAt rSl _ ⟨ra, cs.length, rc⟩ _ rfl _ _ rfl) rfl (by simp only [List.length_singleton]; omega) (by simp only [List.length_singleton]; unfold maxLen; omega) (by simp [World.ext_size]; omega) ?_
              intro v6 w6 ho6 hg6 _
              obtain ⟨fp, hc1, hc2, hc3⟩ := own_of_cells HRV.out (fun d hd => by have := HCZ.out d hd; exact ⟨by omega, by omega⟩)
              have hO6 := (HO3.out.alloc (.cells #[.slice ra cs.length rc] 35)).snoc (View.ownGrow hc1 (Grew.alloc _ _)) hc2 (fun b hb => by have := hc3 b hb; omega) (fun b hb hb' => by have := HLT.out b hb; have := hc3 b hb'; omega) ho6 hg6
              have hb6 : Below w.heap.size w w6 := (Below.ofAlloc hbw3 _).grown hg6 (by simp; omega) (fun k e => ((HO3.out.row.alloc (.cells #[.slice ra cs.length rc] 35)).lt k e).1)
              have hap := own_apart (HL3.out.alloc (.cells #[.slice ra cs.length rc] 35)) (HO3.out.row.alloc (.cells #[.slice ra cs.length rc] 35)) (by decide)
              have hL6 := OwnL.kept (HL3.out.alloc (.cells #[.slice ra cs.length rc] 35)) hg6 hap
              obtain ⟨oa6, oc6, rfl⟩ := hO6.form
              rw [List.length_append, List.length_singleton] at hO6
              have HO6 := Lib.hid hO6
              have HL6 := Lib.hid hL6
              have hnb : some pb ≠ (Value.slice oa 0 oc).ownBlock := by
                rcases hap with h | h
                · simp [Value.ownBlock] at h
                · exact h
              have y6 := (World.cell?_of_block (w := w3.alloc (.cells #[.slice ra cs.length rc] 35)) (w' := w6) (a := ⟨pb, po + n, none⟩) (hg6.block pb (by simp; omega) hnb)).trans ((Grew.alloc w3 _).cell y3)
              have hpl6 : pb < w6.heap.size := by have := hg6.size; simp at this; omega
              have HB6 := Lib.hid hb6
              clear ho6 hg6 hO6 hL6 hc1 hc2 hc3 HO3 HL3 hb6 y3 hpl3 hap hnb
              go_wp2
              go_roundw
              case rel => exact ⟨n + 1, [] ++ [cs], _, _, z + x.size, by go_num, by go_num, by omega, ⟨HO6.out, HX.out, by rw [List.length_append, List.length_singleton]; omega, by omega, HB6.out⟩, HL6.out⟩
              case measure => simp [intOf]; omega
end Go.Proofs.YtedgenmbdjadkaaGreatDoor
