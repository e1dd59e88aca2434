/- The program's reader of a record. Each condition stands in its theorem. -/
import Derived.Test.YtedgenmbdjadkaaGreatDoorReadC
import Derived.Lib.SplitLaws
set_option linter.unusedVariables false
set_option linter.unusedSimpArgs false
namespace Go.Proofs.YtedgenmbdjadkaaGreatDoor
open Go.ChangeShapes Go.WideShapes Go.ChangeAt Go.RowKit

theorem lib_split (s : ByteArray) (c : UInt8) (w : World) (hg : Glob w) (hs : s.size ≤ 1048576) :
    Calls Tryz.prog 72 #[.string s, .string ⟨#[c]⟩] w (SplP 9 c s w) := by
  obtain ⟨m, hm⟩ := hg.max
  refine (Tryz.strings_Split s ⟨#[c]⟩ m w (by omega) hm (Nat.le_refl 1)).mono ?_
  rintro e w' ⟨rfl, rfl⟩
  have hx := splitB_eq c s
  have hl : (Lib.splitB ⟨#[c]⟩ 0 (Lib.countB s ⟨#[c]⟩) s).length = Lib.countB s ⟨#[c]⟩ + 1 := Lib.splitB_all ⟨#[c]⟩ (Nat.le_refl 1) 0 _ s rfl
  have hle : Lib.countB s ⟨#[c]⟩ + 1 ≤ 1048577 := by
    have := splitL_length c s.data.toList
    rw [← hx, List.length_map, hl] at this
    have e : s.data.toList.length = s.size := by simp
    omega
  refine SplP.mk (OwnL.lit rStr w (Lib.splitB ⟨#[c]⟩ 0 (Lib.countB s ⟨#[c]⟩) s) _ hl.symm (by unfold maxLen; omega) _ ?_ 9) hx (by repeat (first | with_reducible exact Below.refl _ _ | with_reducible apply Below.ofExt | with_reducible apply Below.ofAlloc | with_reducible apply Below.drew | with_reducible apply Below.ofDrewN | with_reducible assumption | (with_reducible refine Below.setCell ?_ (by first | exact Nat.le_refl _ | (simp [go_sem]; done) | (simp [go_sem]; omega)) _)))
  congr 1
  generalize Lib.splitB ⟨#[c]⟩ 0 (Lib.countB s ⟨#[c]⟩) s = xs
  induction xs with
  | nil => rfl
  | cons x xs ih => rw [List.map_cons, List.flatMap_cons, ih]; rfl
theorem lib_cut (s : ByteArray) (c : UInt8) (w : World) (hg : Glob w) (hs : s.size ≤ 1048576) :
    Calls Tryz.prog 74 #[.string s, .string ⟨#[c]⟩] w fun e w' => ∃ b, e = .returned (.tuple #[.string (strOf (Lib.cut s.data.toList [c]).1), .string (strOf (Lib.cut s.data.toList [c]).2.1), .bool b]) ∧ Below w.heap.size w w' := by
  obtain ⟨m, hm⟩ := hg.max
  refine (Tryz.strings_Cut s ⟨#[c]⟩ m w (by omega) hm).mono ?_
  rintro e w' ⟨rfl, k, rfl⟩
  exact ⟨_, rfl, (by repeat (first | with_reducible exact Below.refl _ _ | with_reducible apply Below.ofExt | with_reducible apply Below.ofAlloc | with_reducible apply Below.drew | with_reducible apply Below.ofDrewN | with_reducible assumption | (with_reducible refine Below.setCell ?_ (by first | exact Nat.le_refl _ | (simp [go_sem]; done) | (simp [go_sem]; omega)) _)))⟩
theorem cut_len (l : List UInt8) (c : UInt8) : (Lib.cut l [c]).1.length ≤ l.length ∧ (Lib.cut l [c]).2.1.length ≤ l.length := by
  rw [Lib.cut_eq]
  split
  · simp only [List.length_take, List.length_drop]
    omega
  · simp
theorem size_nil {s : ByteArray} (h : s.toList = []) : s.size = 0 := by
  rw [bl1] at h
  have : s.data.toList.length = s.size := by simp
  rw [h] at this
  exact this.symm
theorem size_ne {s : ByteArray} (h : ¬ s.toList = []) : s.size ≠ 0 := fun e => h (by
  rw [bl1]
  apply List.eq_nil_of_length_eq_zero
  have : s.data.toList.length = s.size := by simp
  rw [this, e])
theorem str_same {r s : ByteArray} (h : (r.toList == s.toList) = true) : r = s := by
  apply ByteArray.ext
  apply Array.toList_inj.1
  rw [← bl1, ← bl1]
  exact eq_of_beq h
set_option maxRecDepth 100000 in
set_option maxHeartbeats 4000000 in
theorem impl_ReadRecord (s : ByteArray) (w : World) (hg : Glob w) (hs : s.size ≤ 1048576) :
    Calls Tryz.prog 39 #[.string s] w (RrP s w) := by
  have HG := Lib.hid hg
  clear hg
  go_enter Tryz.func39, Tryz.ntmps39
  by_cases hbig : (4000 : Int) < s.size
  · have hr := readI_big (t := s) (by omega)
    have HR := Lib.hid hr
    clear hr
    go_wp2
    refine bodyPost_ret (by simp [results, Tryz.results39, go_sem]; rfl) rfl ?_
    exact RrP.mk (OwnL.nil rCell _ _ _) (RrOk.no HR.out) (by repeat (first | with_reducible exact Below.refl _ _ | with_reducible apply Below.ofExt | with_reducible apply Below.ofAlloc | with_reducible apply Below.drew | with_reducible apply Below.ofDrewN | with_reducible assumption | (with_reducible refine Below.setCell ?_ (by first | exact Nat.le_refl _ | (simp [go_sem]; done) | (simp [go_sem]; omega)) _)))
  go_wp2_with fail
  (go_at_call 72; refine (lib_split s 32 _ HG.out hs).mono ?_; rintro e w1 ⟨pv, xs, rfl, hp, hxs, hb1⟩)
  have hbw : Below w.heap.size w w1 := hb1
  have HG1 := Lib.hid (HG.out.below hb1)
  obtain ⟨pa, pc, rfl⟩ := hp.rd.form
  obtain ⟨ws, hws⟩ : ∃ ws, ws = splitL 32 s.data.toList := ⟨_, rfl⟩
  rw [← hws] at hxs
  have HXS := Lib.hid hxs
  have hwl : ws.length = xs.length := by rw [← hxs, List.length_map]
  have hne : 0 < xs.length := by
    rw [← hwl, hws]
    have := splitL_ne 32 s.data.toList
    cases hh : splitL 32 s.data.toList with
    | nil => exact absurd hh this
    | cons a b => simp
  have hxl : xs.length ≤ 4001 := by
    rw [← hwl, hws]
    have := splitL_length 32 s.data.toList
    have e : s.data.toList.length = s.size := by simp
    omega
  have hh0 : ws.headD [] = xs[0].data.toList := by
    obtain ⟨h2, h3⟩ := map_get xs ws hxs hne
    rw [← h3]
    cases ws with
    | nil => simp at h2
    | cons a b => rfl
  obtain ⟨_, pb, po, rfl, hpl, y0⟩ := str_at hp hne
  have hpc : xs.length ≤ pc := by
    obtain ⟨_, _, hv, h1, _⟩ := hp.rd.shapeS
    cases hv
    exact h1
  have HWS := Lib.hid hws
  have HH0 := Lib.hid hh0
  have hsm : ∀ x ∈ xs, x.size ≤ s.size := split_small (c := 32) (by rw [hxs, hws])
  have hsz0 : xs[0].size ≤ 1048576 := Nat.le_trans (hsm _ (List.getElem_mem hne)) hs
  have HSM := Lib.hid hsm
  have HP := Lib.hid hp
  clear hsm
  generalize xs[0] = x0 at *
  clear hp hb1 hxs hws hh0
  rw [Nat.add_zero] at y0
  go_wp2_with fail
  (go_at_call 73; refine (impl_ReadDecimal x0 _ HG1.out hsz0).mono ?_; rintro e w2 ⟨n, ok, rfl, hnum, hb2⟩)
  have hb2s := hb2.size
  have hbw2 : Below w.heap.size w w2 := Below.then hbw hb2
  have hnr : 0 ≤ n ∧ n ≤ 1000000000 := hnum.1
  have HG2 := Lib.hid (HG.out.below hbw2)
  have HP2 := Lib.hid (own_bel HP.out hb2)
  rw [← HH0.out] at hnum
  have HN := Lib.hid hnum
  clear hnum hb2 HP HH0 y0 hpl hbw HG1
  have hKK : (max (xs.length : Int) 2).toNat - 1 - 1 = xs.length - 2 := by omega
  by_cases hp1 : pc = 1
  · go_wp2
    go_loopw [8, 10, 11, 12, 13, 14, 15, 16, 17, 37] (fun o _ _ _ _ _ _ _ _ k wr => ∃ (j : Nat) (cs : List CellD), k = .int .i64 j ∧ j ≤ xs.length - 2 ∧ Below w.heap.size w wr ∧ OwnL rCell 39 wr w.heap.size o cs ∧ OwnL rStr 9 wr w.heap.size (.slice (some ⟨pb, po, none⟩) xs.length pc) xs ∧ ReadsTo ((midL ws).take j) cs ∧ Sm cs ∧ cs.length ≤ j) (fun _ _ _ _ _ _ _ _ _ k _ => xs.length - (intOf k).toNat)
    case atStart => exact ⟨0, [], rfl, by omega, hbw2, OwnL.nil _ _ _ _, HP2.out, by rw [List.take_zero]; exact ReadsTo.nil, Sm.nil, by simp⟩
    case round =>
      clear HP2
      obtain ⟨j, cs, rfl, hj, hbel, ho, hp, hrt, hsmc, hcl⟩ := hrel
      rename_i wr
      obtain ⟨oa, oc, rfl⟩ := ho.rd.form
      have HO := Lib.hid ho
      have HP := Lib.hid hp
      have HRT := Lib.hid hrt
      have HSC := Lib.hid hsmc
      have hws := hbel.size
      clear ho hrt hsmc
      by_cases hlt : (j : Int) < ((xs.length - 2 : Nat) : Int)
      case pos =>
        exact absurd hlt (by omega)
      case neg =>
        have hall := mid_all (ws := ws) (j := j) (by omega)
        have hrt := HRT.out
        rw [hall] at hrt
        have hml := mid_len ws
        have hcs := hrt.length
        have hrd := cells_rdS HO.out HSC.out
        rw [HWS.out] at hrt
        have hnum := HN.out
        rw [HWS.out] at hnum
        have HNO := Lib.hid (fun h => read_no (t := s) hnum hrt h)
        have hcl2 : cs.length ≤ 1048576 := by omega
        have D := impl_RecordText n (.slice oa cs.length oc) cs wr (HG.out.below hbel).tab hrd hcl2
        have HD := Lib.hid D
        clear hrt hnum hp D hrd hall hml hcs
        by_cases h0 : s.toList = []
        · have h1 : s.toList.isEmpty = true := by rw [h0]; rfl
          have hno := HNO.out (.inr (.inl (size_nil h0)))
          have HNN := Lib.hid hno
          clear hno HNO
          go_wp2
          refine bodyPost_ret (by simp [results, Tryz.results39, go_sem]; rfl) rfl ?_
          exact RrP.mk (OwnL.nil rCell _ _ _) (RrOk.no HNN.out) hbel
        have h1 : s.toList.isEmpty = false := by rw [List.isEmpty_eq_false_iff]; exact h0
        go_wp2_with fail
        (go_at_call 18; refine HD.out.mono ?_; rintro e w3 ⟨rfl, hb3⟩)
        have hbw3 : Below w.heap.size w w3 := Below.then hbel hb3
        have HO3 := Lib.hid (own_bel HO.out hb3)
        obtain ⟨r, hr⟩ : ∃ r, r = recText n cs := ⟨_, rfl⟩
        rw [← hr] at HNO ⊢
        have HR := Lib.hid hr
        clear hb3 HO hr HD
        cases h2 : (r.toList == s.toList) with
        | false =>
          have hno := HNO.out (.inl (fun e => by rw [e] at h2; simp at h2))
          have HNN := Lib.hid hno
          clear hno HNO
          go_wp2
          refine bodyPost_ret (by simp [results, Tryz.results39, go_sem]; rfl) rfl ?_
          exact RrP.mk (OwnL.nil rCell _ _ _) (RrOk.no HNN.out) hbw3
        | true =>
          have hyes := str_same h2
          have HY := Lib.hid (RrOk.yes (n := n) (cs := cs) (s := s) (by rw [← HR.out]; exact hyes) (size_ne h0))
          clear hyes HNO
          go_wp2
          refine bodyPost_ret (by simp [results, Tryz.results39, go_sem]; rfl) rfl ?_
          exact RrP.mk HO3.out HY.out hbw3
  · go_wp2
    go_loopw [8, 10, 11, 12, 13, 14, 15, 16, 17, 37] (fun o _ _ _ _ _ _ _ _ k wr => ∃ (j : Nat) (cs : List CellD), k = .int .i64 j ∧ j ≤ xs.length - 2 ∧ Below w.heap.size w wr ∧ OwnL rCell 39 wr w.heap.size o cs ∧ OwnL rStr 9 wr w.heap.size (.slice (some ⟨pb, po, none⟩) xs.length pc) xs ∧ ReadsTo ((midL ws).take j) cs ∧ Sm cs ∧ cs.length ≤ j) (fun _ _ _ _ _ _ _ _ _ k _ => xs.length - (intOf k).toNat)
    case atStart => exact ⟨0, [], rfl, by omega, hbw2, OwnL.nil _ _ _ _, HP2.out, by rw [List.take_zero]; exact ReadsTo.nil, Sm.nil, by simp⟩
    case round =>
      clear HP2
      obtain ⟨j, cs, rfl, hj, hbel, ho, hp, hrt, hsmc, hcl⟩ := hrel
      rename_i wr
      obtain ⟨oa, oc, rfl⟩ := ho.rd.form
      have HO := Lib.hid ho
      have HP := Lib.hid hp
      have HRT := Lib.hid hrt
      have HSC := Lib.hid hsmc
      have hws := hbel.size
      clear ho hrt hsmc
      by_cases hlt : (j : Int) < ((xs.length - 2 : Nat) : Int)
      case pos =>
        have hk : j + 1 < xs.length := by omega
        obtain ⟨hk2, hwx⟩ := map_get xs ws HXS.out hk
        obtain ⟨_, pb', po', hpe, hpl, y0⟩ := str_at hp hk
        cases hpe
        rw [show po + (j + 1) = po + 1 + j by omega] at y0
        have hsx : xs[j + 1].size ≤ 1048576 := Nat.le_trans (HSM.out _ (List.getElem_mem hk)) hs
        have hms := mid_step (ws := ws) (j := j) (by omega)
        rw [hwx] at hms
        have HMS := Lib.hid hms
        generalize xs[j + 1] = x at *
        clear hp hms
        have hgw := HG.out.below hbel
        have HGW := Lib.hid hgw
        clear hgw
        have hcl := cut_len x.data.toList 61
        have hxe : x.data.toList.length = x.size := by simp
        have hk1 : (strOf (Lib.cut x.data.toList [61]).1).size ≤ 1048576 := by rw [strOf_size]; omega
        have hk2' : (strOf (Lib.cut x.data.toList [61]).2.1).size ≤ 1048576 := by rw [strOf_size]; omega
        have DC := Lib.hid (lib_cut x 61 wr HGW.out hsx)
        have hcr : ∀ k v, Unh (Lib.cut x.data.toList [61]).1 k → Unh (Lib.cut x.data.toList [61]).2.1 v → CellR x.data.toList ⟨k, v⟩ := fun k v a b => cellR_cut a b
        obtain ⟨ca, hca⟩ : ∃ ca, ca = (Lib.cut x.data.toList [61]).1 := ⟨_, rfl⟩
        obtain ⟨cb, hcb⟩ : ∃ cb, cb = (Lib.cut x.data.toList [61]).2.1 := ⟨_, rfl⟩
        rw [← hca, ← hcb] at hcr
        rw [← hca] at hk1
        rw [← hcb] at hk2'
        simp only [← hca, ← hcb] at DC
        have HCR := Lib.hid hcr
        clear hcl hcr hca hcb hxe
        go_wp2_with fail
        (go_at_call 74; refine DC.out.mono ?_; rintro e w3 ⟨cok, rfl, hb3⟩)
        have hbw3 : Below w.heap.size w w3 := Below.then hbel hb3
        have HP3 := Lib.hid (own_bel HP.out hb3)
        have HO3 := Lib.hid (own_bel HO.out hb3)
        clear hb3 HP HO hbel y0 hpl DC HGW
        have DU := Lib.hid (impl_Unhex (strOf ca) w3 (HG.out.below hbw3) hk1)
        go_wp2_with fail
        (go_at_call 75; refine DU.out.mono ?_; rintro e w4 ⟨rk, okk, rfl, hrk, huk, hb4⟩)
        have hbw4 : Below w.heap.size w w4 := Below.then hbw3 hb4
        have HP4 := Lib.hid (own_bel HP3.out hb4)
        have HO4 := Lib.hid (own_bel HO3.out hb4)
        rw [strOf_list] at huk
        have HUK := Lib.hid huk
        clear hb4 HP3 HO3 hbw3 huk DU
        have DV := Lib.hid (impl_Unhex (strOf cb) w4 (HG.out.below hbw4) hk2')
        go_wp2_with fail
        (go_at_call 75; refine DV.out.mono ?_; rintro e w5 ⟨rv, okv, rfl, hrv, huv, hb5⟩)
        have hbw5 : Below w.heap.size w w5 := Below.then hbw4 hb5
        have HP5 := Lib.hid (own_bel HP4.out hb5)
        have HO5 := Lib.hid (own_bel HO4.out hb5)
        have hws5 := hbw5.size
        rw [strOf_list] at huv
        have hrt2 := HRT.out.snoc (HCR.out rk rv HUK.out huv)
        rw [← HMS.out] at hrt2
        have HRT2 := Lib.hid hrt2
        have HAP := Lib.hid (own_apart HP5.out HO5.out (by decide))
        clear hb5 HP4 HO4 hbw4 huv hrt2 DV
        go_wp2_with (at_builtin; refine Stop.here ?_)
        refine wpList_appL rfl _ _ _ rfl (R := rCell) (e := 39) Tryz.elemCellS (B := w.heap.size) (v := .slice oa cs.length oc) (xs := cs) (HO5.out.alloc _) rfl (ys := [⟨rk, rv⟩]) (RdL.oneAt rCell _ ⟨rk, rv⟩ _ rfl _ _ rfl) rfl (by simp only [List.length_singleton]; omega) (by simp only [List.length_singleton]; unfold maxLen; omega) (by rw [World.size_alloc]; omega) ?_
        intro w6v w6 ho6 hg6 _
        have hb6 : Below w.heap.size w w6 := Below.appL (a := w) (R := rCell) (e := 39) (v := .slice oa cs.length oc) (xs := cs) (by repeat (first | with_reducible exact Below.refl _ _ | with_reducible apply Below.ofExt | with_reducible apply Below.ofAlloc | with_reducible apply Below.drew | with_reducible apply Below.ofDrewN | with_reducible assumption | (with_reducible refine Below.setCell ?_ (by first | exact Nat.le_refl _ | (simp [go_sem]; done) | (simp [go_sem]; omega)) _))) hg6 (HO5.out.alloc _)
        have hp6 := OwnL.kept (v := .slice (some ⟨pb, po, none⟩) xs.length pc) (HP5.out.alloc _) hg6 HAP.out
        have HO6 := Lib.hid ho6
        have HP6 := Lib.hid hp6
        clear ho6 hp6 hg6 HO5 HP5 HAP
        go_wp2
        go_roundw
        case rel => exact ⟨j + 1, _, by go_num, by omega, hb6, HO6.out, HP6.out, HRT2.out, HSC.out.snoc hrk hrv, by rw [List.length_append, List.length_singleton]; omega⟩
        case measure => simp [intOf]; omega
      case neg =>
        have hall := mid_all (ws := ws) (j := j) (by omega)
        have hrt := HRT.out
        rw [hall] at hrt
        have hml := mid_len ws
        have hcs := hrt.length
        have hrd := cells_rdS HO.out HSC.out
        rw [HWS.out] at hrt
        have hnum := HN.out
        rw [HWS.out] at hnum
        have HNO := Lib.hid (fun h => read_no (t := s) hnum hrt h)
        have hcl2 : cs.length ≤ 1048576 := by omega
        have D := impl_RecordText n (.slice oa cs.length oc) cs wr (HG.out.below hbel).tab hrd hcl2
        have HD := Lib.hid D
        clear hrt hnum hp D hrd hall hml hcs
        by_cases h0 : s.toList = []
        · have h1 : s.toList.isEmpty = true := by rw [h0]; rfl
          have hno := HNO.out (.inr (.inl (size_nil h0)))
          have HNN := Lib.hid hno
          clear hno HNO
          go_wp2
          refine bodyPost_ret (by simp [results, Tryz.results39, go_sem]; rfl) rfl ?_
          exact RrP.mk (OwnL.nil rCell _ _ _) (RrOk.no HNN.out) hbel
        have h1 : s.toList.isEmpty = false := by rw [List.isEmpty_eq_false_iff]; exact h0
        go_wp2_with fail
        (go_at_call 18; refine HD.out.mono ?_; rintro e w3 ⟨rfl, hb3⟩)
        have hbw3 : Below w.heap.size w w3 := Below.then hbel hb3
        have HO3 := Lib.hid (own_bel HO.out hb3)
        obtain ⟨r, hr⟩ : ∃ r, r = recText n cs := ⟨_, rfl⟩
        rw [← hr] at HNO ⊢
        have HR := Lib.hid hr
        clear hb3 HO hr HD
        cases h2 : (r.toList == s.toList) with
        | false =>
          have hno := HNO.out (.inl (fun e => by rw [e] at h2; simp at h2))
          have HNN := Lib.hid hno
          clear hno HNO
          go_wp2
          refine bodyPost_ret (by simp [results, Tryz.results39, go_sem]; rfl) rfl ?_
          exact RrP.mk (OwnL.nil rCell _ _ _) (RrOk.no HNN.out) hbw3
        | true =>
          have hyes := str_same h2
          have HY := Lib.hid (RrOk.yes (n := n) (cs := cs) (s := s) (by rw [← HR.out]; exact hyes) (size_ne h0))
          clear hyes HNO
          go_wp2
          refine bodyPost_ret (by simp [results, Tryz.results39, go_sem]; rfl) rfl ?_
          exact RrP.mk HO3.out HY.out hbw3
end Go.Proofs.YtedgenmbdjadkaaGreatDoor
