/- The reference's reader of a record. Each condition stands in its theorem. -/
import Derived.Test.YtedgenmbdjadkaaGreatDoorReadS
import Derived.Test.YtedgenmbdjadkaaGreatDoorCloneC
set_option linter.unusedVariables false
set_option linter.unusedSimpArgs false
namespace Go.Proofs.YtedgenmbdjadkaaGreatDoor
open Go.ChangeShapes Go.WideShapes Go.ChangeAt Go.RowKit

theorem own_bel {α : Type} {R : RowOf α} {e : TypeId} {w w' : World} {B : Nat} {v : Value} {xs : List α} (h : OwnL R e w B v xs) (hb : Below w.heap.size w w') : OwnL R e w' B v xs := by
  obtain ⟨X, rfl⟩ := hb.ext
  exact h.ext X
theorem own_apart {α β : Type} {R : RowOf α} {R' : RowOf β} {e e' : TypeId} {w : World} {B B' : Nat} {v v' : Value} {xs : List α} {ys : List β} (h : OwnL R e w B v xs) (h' : OwnL R' e' w B' v' ys) (he : e ≠ e') : v.ownBlock = none ∨ v.ownBlock ≠ v'.ownBlock := by
  rcases h.2 with ⟨rfl, h0⟩ | ⟨g, cap, cur, rfl, hg, hh, _⟩
  · exact .inl rfl
  · right
    rcases h'.2 with ⟨rfl, _⟩ | ⟨g', cap', cur', rfl, hg', hh', _⟩
    · simp [Value.ownBlock]
    · intro hb
      have hb : g = g' := by simpa [Value.ownBlock] using hb
      subst hb
      rw [hh] at hh'
      injection hh' with hh'
      injection hh' with _ hh'
      exact he hh'
theorem own_apartB {α : Type} {R : RowOf α} {e : TypeId} {w : World} {B b n c : Nat} {v : Value} {xs : List α} (h : OwnL R e w B v xs) (hb : b < B) : (Value.slice (some ⟨b, 0, none⟩) n c).ownBlock = none ∨ (Value.slice (some ⟨b, 0, none⟩) n c).ownBlock ≠ v.ownBlock := by
  refine .inr fun e => ?_
  have := (h.lt b e.symm).1
  omega
/-- what the readers of a record leave -/
def RrP (s : ByteArray) (w : World) (e : Ending) (w' : World) : Prop := ∃ n v b cs, e = .returned (.tuple #[.int .i64 n, v, .bool b]) ∧ OwnL rCell 39 w' w.heap.size v cs ∧ RrOk s n b cs ∧ Below w.heap.size w w'
theorem RrP.mk {s : ByteArray} {n : Int} {v : Value} {b : Bool} {cs : List CellD} {w w' : World} (h1 : OwnL rCell 39 w' w.heap.size v cs) (h2 : RrOk s n b cs) (h3 : Below w.heap.size w w') : RrP s w (.returned (.tuple #[.int .i64 n, v, .bool b])) w' := ⟨n, v, b, cs, rfl, h1, h2, h3⟩
theorem rr_fail (r s : ByteArray) (h : r.toList = [] ∨ (r.toList == s.toList) = false) : r ≠ s ∨ s.size = 0 ∨ true = false := by
  by_cases e : r = s
  · subst e
    rcases h with h | h
    · right
      left
      rw [bl1] at h
      have : r.data.toList.length = r.size := by simp
      rw [h] at this
      exact this.symm
    · simp at h
  · exact .inl e
theorem rr_hold (r s : ByteArray) (h0 : ¬ r.toList = []) (h : (r.toList == s.toList) = true) : r = s ∧ s.size ≠ 0 := by
  have e : r = s := by
    apply ByteArray.ext
    apply Array.toList_inj.1
    rw [← bl1, ← bl1]
    exact eq_of_beq h
  refine ⟨e, fun hz => h0 ?_⟩
  rw [bl1]
  apply List.eq_nil_of_length_eq_zero
  have : r.data.toList.length = r.size := by simp
  rw [this, e, hz]
theorem cells_rdS {w : World} {B : Nat} {v : Value} {xs : List CellD} (h : OwnL rCell 39 w B v xs) (hs : Sm xs) : (vSlice vCell 39).rd w [v] xs := by
  obtain ⟨fp, ho, _⟩ := own_of_cells h (fun d hd => by have := hs d hd; exact ⟨by omega, by omega⟩)
  exact View.toRd _ ho
theorem str_at {w : World} {B : Nat} {ao : Option Addr} {n cap : Nat} {xs : List ByteArray} {e : TypeId} (h : OwnL rStr e w B (.slice ao n cap) xs) {i : Nat} (hi : i < xs.length) : n = xs.length ∧ ∃ b off, ao = some ⟨b, off, none⟩ ∧ b < w.heap.size ∧ w.cell? ⟨b, off + i, none⟩ = some (.string xs[i]) := by
  obtain ⟨ao', cap', hv, h1, h2, h3, h4⟩ := h.rd.shapeS
  cases hv
  obtain ⟨b, off, e1, e2, e3⟩ := h4 (by intro e; rw [e] at hi; simp at hi)
  exact ⟨rfl, b, off, e1, e2, e3 i hi⟩
set_option maxRecDepth 100000 in
set_option maxHeartbeats 4000000 in
theorem spec_ReadRecord (s : ByteArray) (w : World) (hs : s.size ≤ 1048576) :
    Calls Tryz.prog 37 #[.string s] w (RrP s w) := by
  have hE0 : OwnL rCell 39 (w.alloc (.cells #[] 39)) w.heap.size (.slice (some ⟨w.heap.size, 0, none⟩) 0 0) [] := OwnL.empty rCell 39 w
  have HE := Lib.hid hE0
  clear hE0
  go_enter Tryz.func37, Tryz.ntmps37
  by_cases hbig : (4000 : Int) < s.size
  · have hr := readI_big (t := s) (by omega)
    have HR := Lib.hid hr
    clear hr
    go_wp2
    refine bodyPost_ret (by simp [results, Tryz.results37, go_sem]; rfl) rfl ?_
    exact RrP.mk HE.out (RrOk.no HR.out) (by repeat (first | with_reducible exact Below.refl _ _ | with_reducible apply Below.ofExt | with_reducible apply Below.ofAlloc | with_reducible apply Below.drew | with_reducible apply Below.ofDrewN | with_reducible assumption | (with_reducible refine Below.setCell ?_ (by first | exact Nat.le_refl _ | (simp [go_sem]; done) | (simp [go_sem]; omega)) _)))
  go_wp2_with fail
  (go_at_call 69; refine (spec_l21Split s 32 _ hs).mono ?_; rintro e w1 ⟨pv, xs, rfl, hp, hxs, hb1⟩)
  have hsz1 : w.heap.size + 1 ≤ w1.heap.size := by have := hb1.size; simpa using this
  have hbw : Below w.heap.size w w1 := Below.then (show Below w.heap.size w (w.alloc (.cells #[] 39)) from (by repeat (first | with_reducible exact Below.refl _ _ | with_reducible apply Below.ofExt | with_reducible apply Below.ofAlloc | with_reducible apply Below.drew | with_reducible apply Below.ofDrewN | with_reducible assumption | (with_reducible refine Below.setCell ?_ (by first | exact Nat.le_refl _ | (simp [go_sem]; done) | (simp [go_sem]; omega)) _)))) hb1
  have HE1 := Lib.hid (own_bel HE.out hb1)
  have HP := Lib.hid (hp.base (B' := w.heap.size) (by simp))
  obtain ⟨pa, pc, rfl⟩ := hp.rd.form
  obtain ⟨ws, hws⟩ : ∃ ws, ws = splitL 32 s.data.toList := ⟨_, rfl⟩
  rw [← hws] at hxs
  have HXS := Lib.hid hxs
  have hwl : ws.length = xs.length := by rw [← hxs, List.length_map]
  have hne : 0 < xs.length := by
    rw [← hwl, hws]
    have := splitL_ne 32 s.data.toList
    cases hh : splitL 32 s.data.toList with
    | nil => exact absurd hh this
    | cons a b => simp
  have hxl : xs.length ≤ 4001 := by
    rw [← hwl, hws]
    have := splitL_length 32 s.data.toList
    have e : s.data.toList.length = s.size := by simp
    omega
  have hh0 : ws.headD [] = xs[0].data.toList := by
    obtain ⟨h2, h3⟩ := map_get xs ws hxs hne
    rw [← h3]
    cases ws with
    | nil => simp at h2
    | cons a b => rfl
  obtain ⟨_, pb, po, rfl, hpl, y0⟩ := str_at hp hne
  have HWS := Lib.hid hws
  have HH0 := Lib.hid hh0
  have hsm : ∀ x ∈ xs, x.size ≤ s.size := split_small (c := 32) (by rw [hxs, hws])
  have hsz0 : xs[0].size ≤ 1048576 := Nat.le_trans (hsm _ (List.getElem_mem hne)) hs
  have HSM := Lib.hid hsm
  clear hsm
  generalize xs[0] = x0 at *
  clear hp hb1 hxs hws hh0 HE
  rw [Nat.add_zero] at y0
  go_wp2_with fail
  (go_at_call 70; refine (spec_ReadDecimal x0 _ hsz0).mono ?_; rintro e w2 ⟨n, ok, rfl, hnum, hb2⟩)
  have hb2s := hb2.size
  have hbw2 : Below w.heap.size w w2 := Below.then hbw hb2
  have hnr : 0 ≤ n ∧ n ≤ 1000000000 := hnum.1
  have HE2 := Lib.hid (own_bel HE1.out hb2)
  have HP2 := Lib.hid (own_bel HP.out hb2)
  rw [← HH0.out] at hnum
  have HN := Lib.hid hnum
  clear hnum hb2 HE1 HP HH0 y0 hpl hbw
  have hsz2 : w.heap.size + 1 ≤ w2.heap.size := Nat.le_trans hsz1 hb2s
  have hE3 : OwnL rCell 39 (w2.alloc (.cells #[] 39)) w2.heap.size (.slice (some ⟨w2.heap.size, 0, none⟩) 0 0) [] := OwnL.empty rCell 39 w2
  have HL0 := Lib.hid (hE3.base (B' := w.heap.size + 1) hsz2)
  clear hE3
  go_wp2
  go_loopw [9, 10, 11, 12, 13, 14, 15] (fun o k _ _ _ _ _ wr => ∃ (j : Nat) (cs : List CellD), k = .int .i64 (j + 1 : Nat) ∧ (j = 0 ∨ j + 2 ≤ xs.length) ∧ Below w.heap.size w wr ∧ OwnL rCell 39 wr (w.heap.size + 1) o cs ∧ OwnL rStr 9 wr w.heap.size (.slice (some ⟨pb, po, none⟩) xs.length pc) xs ∧ OwnL rCell 39 wr w.heap.size (.slice (some ⟨w.heap.size, 0, none⟩) 0 0) [] ∧ ReadsTo ((midL ws).take j) cs ∧ Sm cs ∧ cs.length ≤ j) (fun _ k _ _ _ _ _ _ => xs.length - (intOf k).toNat)
  case atStart => exact ⟨0, [], rfl, .inl rfl, (by repeat (first | with_reducible exact Below.refl _ _ | with_reducible apply Below.ofExt | with_reducible apply Below.ofAlloc | with_reducible apply Below.drew | with_reducible apply Below.ofDrewN | with_reducible assumption | (with_reducible refine Below.setCell ?_ (by first | exact Nat.le_refl _ | (simp [go_sem]; done) | (simp [go_sem]; omega)) _))), HL0.out, HP2.out.alloc _, HE2.out.alloc _, by rw [List.take_zero]; exact ReadsTo.nil, Sm.nil, by simp⟩
  case round =>
    clear HL0 HE2 HP2
    obtain ⟨j, cs, rfl, hj, hbel, ho, hp, he, hrt, hsmc, hcl⟩ := hrel
    rename_i wr
    obtain ⟨oa, oc, rfl⟩ := ho.rd.form
    have HO := Lib.hid ho
    have HP := Lib.hid hp
    have HE := Lib.hid he
    have HRT := Lib.hid hrt
    have HSC := Lib.hid hsmc
    have hws := hbel.size
    clear ho he hrt hsmc
    by_cases hlt : ((j + 1 : Nat) : Int) < (xs.length : Int) - 1
    case pos =>
      have hk : j + 1 < xs.length := by omega
      obtain ⟨hk2, hwx⟩ := map_get xs ws HXS.out hk
      obtain ⟨_, pb', po', hpe, hpl, y0⟩ := str_at hp hk
      cases hpe
      have hsx : xs[j + 1].size ≤ 1048576 := Nat.le_trans (HSM.out _ (List.getElem_mem hk)) hs
      have hsx2 : xs[j + 1].size ≤ 4000 := Nat.le_trans (HSM.out _ (List.getElem_mem hk)) (by omega)
      have hmg := mid_get (ws := ws) (j := j) (by omega)
      have hms := mid_step (ws := ws) (j := j) (by omega)
      rw [hwx] at hmg hms
      have HMG := Lib.hid hmg
      have HMS := Lib.hid hms
      generalize xs[j + 1] = x at *
      clear hp hmg hms
      go_wp2_with fail
      (go_at_call 69; refine (spec_l21Split x 61 _ hsx).mono ?_; rintro e w3 ⟨qv, qs, rfl, hq, hqs, hb3⟩)
      have hbw3 : Below w.heap.size w w3 := Below.then hbel hb3
      have HE3 := Lib.hid (own_bel HE.out hb3)
      have HP3 := Lib.hid (own_bel HP.out hb3)
      have HO3 := Lib.hid (own_bel HO.out hb3)
      have hws3 := hb3.size
      have hqsm : ∀ x' ∈ qs, x'.size ≤ x.size := split_small hqs
      obtain ⟨qa, qc, rfl⟩ := hq.rd.form
      clear hb3 HE HP HO hbel y0 hpl
      by_cases hq2 : qs.length = 2
      case neg =>
        have hno := read_no2 (t := s) (i := j) (by rw [← HWS.out]; exact HMG.out) (by rw [← hqs, List.length_map]; exact hq2)
        have HNO := Lib.hid hno
        have hq2' : ((qs.length : Int) == 2) = false := by rw [beq_eq_false_iff_ne]; omega
        clear hno hqs hq2
        go_wp2
        refine bodyPost_ret (by simp [results, Tryz.results37, go_sem]; rfl) rfl ?_
        exact RrP.mk HE3.out (RrOk.no HNO.out) (by repeat (first | with_reducible exact Below.refl _ _ | with_reducible apply Below.ofExt | with_reducible apply Below.ofAlloc | with_reducible apply Below.drew | with_reducible apply Below.ofDrewN | with_reducible assumption | (with_reducible refine Below.setCell ?_ (by first | exact Nat.le_refl _ | (simp [go_sem]; done) | (simp [go_sem]; omega)) _)))
      obtain ⟨qx, qy, rfl, hqq⟩ := two_of hqs hq2
      have hsqx : qx.size ≤ 4000 := Nat.le_trans (hqsm qx (by simp)) hsx2
      have hsqy : qy.size ≤ 4000 := Nat.le_trans (hqsm qy (by simp)) hsx2
      obtain ⟨_, qb, qo, rfl, hql, yx⟩ := str_at hq (i := 0) (by simp)
      obtain ⟨_, qb', qo', hqe, _, yy⟩ := str_at hq (i := 1) (by simp)
      cases hqe
      simp only [List.getElem_cons_zero, List.getElem_cons_succ, Nat.add_zero] at yx yy
      have HQ := Lib.hid hqq
      clear hqs hq2 hqsm hq hqq
      go_wp2_with fail
      (go_at_call 71; refine (spec_Unhex qx _ (by omega)).mono ?_; rintro e w4 ⟨rk, okk, rfl, hrk, huk, hb4⟩)
      have hbw4 : Below w.heap.size w w4 := Below.then hbw3 hb4
      have HE4 := Lib.hid (own_bel HE3.out hb4)
      have HP4 := Lib.hid (own_bel HP3.out hb4)
      have HO4 := Lib.hid (own_bel HO3.out hb4)
      have y4 := (Grew.below hb4).cell yy
      have hql4 := Nat.lt_of_lt_of_le hql hb4.size
      have hws4 := hb4.size
      have HUK := Lib.hid huk
      clear hb4 HE3 HP3 HO3 yx yy hql hbw3 huk
      go_wp2_with fail
      (go_at_call 71; refine (spec_Unhex qy _ (by omega)).mono ?_; rintro e w5 ⟨rv, okv, rfl, hrv, huv, hb5⟩)
      have hbw5 : Below w.heap.size w w5 := Below.then hbw4 hb5
      have HE5 := Lib.hid (own_bel HE4.out hb5)
      have HP5 := Lib.hid (own_bel HP4.out hb5)
      have HO5 := Lib.hid (own_bel HO4.out hb5)
      have hws5 := hb5.size
      have hcell := cellR_split (w := x.data.toList) (a := qx.data.toList) (b := qy.data.toList) (k := rk) (v := rv) HQ.out HUK.out huv
      have hrt2 := HRT.out.snoc hcell
      rw [← HMS.out] at hrt2
      have HRT2 := Lib.hid hrt2
      have HAP := Lib.hid (own_apart HP5.out HO5.out (by decide))
      have HAE := Lib.hid (own_apartB (b := w.heap.size) (n := 0) (c := 0) HO5.out (Nat.lt_succ_self _))
      clear hb5 HE4 HP4 HO4 y4 hql4 hbw4 huv hcell hrt2 HQ
      go_wp2_with (at_builtin; refine Stop.here ?_)
      refine wpList_appL rfl _ _ _ rfl (R := rCell) (e := 39) Tryz.elemCellS (B := w.heap.size + 1) (v := .slice oa cs.length oc) (xs := cs) (HO5.out.alloc _) rfl (ys := [⟨rk, rv⟩]) (RdL.oneAt rCell _ ⟨rk, rv⟩ _ rfl _ _ rfl) rfl (by simp only [List.length_singleton]; omega) (by simp only [List.length_singleton]; unfold maxLen; omega) (by rw [World.size_alloc]; omega) ?_
      intro w6v w6 ho6 hg6 _
      have hb6 : Below w.heap.size w w6 := Below.appL (a := w) (R := rCell) (e := 39) (v := .slice oa cs.length oc) (xs := cs) (by repeat (first | with_reducible exact Below.refl _ _ | with_reducible apply Below.ofExt | with_reducible apply Below.ofAlloc | with_reducible apply Below.drew | with_reducible apply Below.ofDrewN | with_reducible assumption | (with_reducible refine Below.setCell ?_ (by first | exact Nat.le_refl _ | (simp [go_sem]; done) | (simp [go_sem]; omega)) _))) hg6 ((HO5.out.base (Nat.le_succ _)).alloc _)
      have hp6 := OwnL.kept (v := .slice (some ⟨pb, po, none⟩) xs.length pc) (HP5.out.alloc _) hg6 HAP.out
      have he6 := OwnL.kept (v := .slice (some ⟨w.heap.size, 0, none⟩) 0 0) (HE5.out.alloc _) hg6 HAE.out
      have HO6 := Lib.hid ho6
      have HP6 := Lib.hid hp6
      have HE6 := Lib.hid he6
      clear ho6 hp6 he6 hg6 HO5 HP5 HE5 HAP HAE
      go_wp2
      go_roundw
      case rel => exact ⟨j + 1, _, by go_num, by omega, hb6, HO6.out, HP6.out, HE6.out, HRT2.out, HSC.out.snoc hrk hrv, by rw [List.length_append, List.length_singleton]; omega⟩
      case measure => simp [intOf]; omega
    case neg =>
      have hall := mid_all (ws := ws) (j := j) (by omega)
      have hrt := HRT.out
      rw [hall] at hrt
      have hml := mid_len ws
      have hcs := hrt.length
      have hrd := cells_rdS HO.out HSC.out
      rw [HWS.out] at hrt
      have hnum := HN.out
      rw [HWS.out] at hnum
      have HNO := Lib.hid (fun h => read_no (t := s) hnum hrt h)
      have hcl2 : cs.length ≤ 1048576 := by omega
      have D := spec_RecordText n (.slice oa cs.length oc) cs wr hrd hcl2
      have HD := Lib.hid D
      clear hrt hnum hp D hrd hall hml hcs
      go_wp2_with fail
      (go_at_call 16; refine HD.out.mono ?_; rintro e w3 ⟨rfl, hb3⟩)
      have hbw3 : Below w.heap.size w w3 := Below.then hbel hb3
      have HE3 := Lib.hid (own_bel HE.out hb3)
      have HO3 := Lib.hid (own_bel (HO.out.base (Nat.le_succ _)) hb3)
      have hsr := recText_size n cs
      obtain ⟨r, hr⟩ : ∃ r, r = recText n cs := ⟨_, rfl⟩
      rw [← hr] at HNO hsr ⊢
      have HR := Lib.hid hr
      clear hb3 HE HO hr HD
      cases ok with
      | false =>
        go_wp2
        refine bodyPost_ret (by simp [results, Tryz.results37, go_sem]; rfl) rfl ?_
        exact RrP.mk HE3.out (RrOk.no (HNO.out (.inr (.inr trivial)))) hbw3
      | true =>
        have HF := Lib.hid (rr_fail r s)
        have HH := Lib.hid (rr_hold r s)
        by_cases h0 : r.toList = []
        · have h1 : r.toList.isEmpty = true := by rw [h0]; rfl
          have hno := HNO.out (HF.out (.inl h0))
          have HNN := Lib.hid hno
          clear hno HNO
          go_wp2
          refine bodyPost_ret (by simp [results, Tryz.results37, go_sem]; rfl) rfl ?_
          exact RrP.mk HE3.out (RrOk.no HNN.out) hbw3
        · have h1 : r.toList.isEmpty = false := by rw [List.isEmpty_eq_false_iff]; exact h0
          cases h2 : (r.toList == s.toList) with
          | false =>
            have hno := HNO.out (HF.out (.inr h2))
            have HNN := Lib.hid hno
            clear hno HNO
            go_wp2
            refine bodyPost_ret (by simp [results, Tryz.results37, go_sem]; rfl) rfl ?_
            exact RrP.mk HE3.out (RrOk.no HNN.out) hbw3
          | true =>
            have hyes := HH.out h0 h2
            have HY := Lib.hid (RrOk.yes (n := n) (cs := cs) (s := s) (by rw [← HR.out]; exact hyes.1) hyes.2)
            clear hyes HNO
            go_wp2
            refine bodyPost_ret (by simp [results, Tryz.results37, go_sem]; rfl) rfl ?_
            exact RrP.mk HO3.out HY.out hbw3
end Go.Proofs.YtedgenmbdjadkaaGreatDoor
