/- The laws FnTorn and FnSeqTold: their walks. Each condition stands in its theorem. -/
import Derived.Test.YtkfkbojcnbpmdaaDoorReadRI
import Derived.Test.YtkfkbojcnbpmdaaDoorDrawR
import Derived.Test.YtkfkbojcnbpmdaaDoorTorn
set_option linter.unusedVariables false
set_option linter.unusedSimpArgs false
namespace Go.Proofs.YtkfkbojcnbpmdaaDoor
open Go.ChangeShapes Go.WideShapes Go.ChangeAt Go.RowKit

theorem RrOk.isNone {s : ByteArray} {n : Int} {b : Bool} {cs : List CellD} (h : RrOk s n b cs) (hn : readI s = none) : b = false := by
  cases b with
  | true =>
    have := h.1 rfl
    rw [hn] at this
    cases this
  | false => rfl
theorem RrOk.isSome {s : ByteArray} {n q : Int} {b : Bool} {cs ds : List CellD} (h : RrOk s n b cs) (hn : readI s = some (q, ds)) : b = true ∧ n = q ∧ cs = ds := by
  cases b with
  | true =>
    have := h.1 rfl
    rw [hn] at this
    injection this with this
    injection this with e1 e2
    exact ⟨rfl, e1.symm, e2.symm⟩
  | false =>
    have := (h.2 rfl).2.2
    rw [hn] at this
    cases this
theorem smalls_sm {a : List CellD} (h : ∀ x ∈ a, SmallC x) : Sm a := fun c hc => by
  have := h c hc
  unfold SmallC at this
  exact ⟨by omega, by omega⟩
theorem int_at {w : World} {B : Nat} {ao : Option Addr} {n cap : Nat} {xs : List Int} {e : TypeId} (h : OwnL rInt e w B (.slice ao n cap) xs) {i : Nat} (hi : i < xs.length) : n = xs.length ∧ ∃ b off, ao = some ⟨b, off, none⟩ ∧ b < w.heap.size ∧ w.cell? ⟨b, off + i, none⟩ = some (.int .i64 xs[i]) := by
  obtain ⟨ao', cap', hv, h1, h2, h3, h4⟩ := h.rd.shapeI
  cases hv
  obtain ⟨b, off, e1, e2, e3⟩ := h4 (by intro e; rw [e] at hi; simp at hi)
  exact ⟨rfl, b, off, e1, e2, e3 i hi⟩
theorem own_int_bel {e : TypeId} {w w' : World} {B : Nat} {v : Value} {xs : List Int} (h : OwnL rInt e w B v xs) (hb : Below w.heap.size w w') : OwnL rInt e w' B v xs := own_bel h hb
set_option maxRecDepth 100000 in
set_option maxHeartbeats 4000000 in
theorem law_FnTorn (v : Value) (bs : List UInt8) (W : World) (hs : Sl W v bs.length (bytesOf bs)) (hb : ∀ b, v.ownBlock = some b → b < W.heap.size) (hg : Glob W) : Calls Tryd.prog 4 #[v] W (Yes W) := by
  have HS := Lib.hid hs
  have HB := Lib.hid hb
  have HG := Lib.hid hg
  clear hg
  unfold Yes
  by_cases hbig : 1048576 < bs.length
  · go_enter Tryd.func4, Tryd.ntmps4
    go_wp2_with fail
    (go_at_call 6; refine (laws_big v bs.length _ _ hs).mono ?_; rintro e w' ⟨rfl, rfl⟩)
    go_wp2
    go_ret
    exact ⟨rfl, (by repeat (first | with_reducible exact Below.refl _ _ | with_reducible apply Below.ofExt | with_reducible apply Below.ofAlloc | with_reducible apply Below.drew | with_reducible apply Below.ofDrewN | with_reducible assumption | (with_reducible refine Below.setCell ?_ (by first | exact Nat.le_refl _ | (simp [go_sem]; done) | (simp [go_sem]; omega)) _)))⟩
  clear hs hb
  go_enter Tryd.func4, Tryd.ntmps4
  go_wp2_with fail
  (go_at_call 6; refine (laws_big v bs.length _ _ HS.out).mono ?_; rintro e w' ⟨rfl, rfl⟩)
  go_wp2_with fail
  (go_at_call 7; refine (spec_DrawRecordText v bs _ HS.out (by omega) HB.out).mono ?_; rintro e w1 ⟨sq, va, rfl, _, xs, hoa, hla, hsa, hb1⟩)
  obtain ⟨aa, ca, rfl⟩ := hoa.rd.form
  have HA1 := Lib.hid hoa
  have HSM := Lib.hid (smalls_sm hsa)
  have hz1 := hb1.size
  clear hoa hsa
  have DP := Lib.hid (spec_DrawPlaces v bs w1 (Sl.below HS.out hb1) (by omega) (fun b hb => by have := HB.out b hb; omega))
  go_wp2_with fail
  (go_at_call 8; refine DP.out.mono ?_; rintro e w2 ⟨vp, rfl, ps, hop, hlp, hsp, hb2⟩)
  have hb02 : Below W.heap.size W w2 := Below.then hb1 hb2
  have HA2 := Lib.hid (own_bel HA1.out hb2)
  obtain ⟨pa, pc, rfl⟩ := hop.rd.form
  obtain ⟨_, pb, po, rfl, hpl, y0⟩ := int_at hop (i := 0) (by omega)
  obtain ⟨_, pb', po', hpe, _, y1⟩ := int_at hop (i := 1) (by omega)
  cases hpe
  have hp0 := hsp _ (List.getElem_mem (show 0 < ps.length by omega))
  have hp1 := hsp _ (List.getElem_mem (show 1 < ps.length by omega))
  generalize ps[0] = p0 at *
  generalize ps[1] = p1 at *
  rw [Nat.add_zero] at y0
  clear hop HA1 DP hb1 hb2 hsp
  have DR := Lib.hid (impl_RecordText (1 + p0) (.slice aa xs.length ca) xs w2 (HG.out.below hb02).tab (cells_rdS HA2.out HSM.out) (by omega))
  go_wp2_with fail
  (go_at_call 9; refine DR.out.mono ?_; rintro e w3 ⟨rfl, hb3⟩)
  have hb03 : Below W.heap.size W w3 := Below.then hb02 hb3
  have HA3 := Lib.hid (own_bel HA2.out hb3)
  have z0 := (Grew.below hb3).cell y0
  have z1 := (Grew.below hb3).cell y1
  have hpl3 := Nat.lt_of_lt_of_le hpl hb3.size
  obtain ⟨t, ht⟩ : ∃ t, t = recText (1 + p0) xs := ⟨_, rfl⟩
  have htz := recText_size (1 + p0) xs
  rw [← ht] at htz ⊢
  have HT := Lib.hid ht
  clear ht y0 y1 hb3 DR HA2 hpl
  by_cases h0 : t.toList = []
  · have h1 : t.toList.isEmpty = true := by rw [h0]; rfl
    have DS := Lib.hid (spec_RecordText (1 + p0) (.slice aa xs.length ca) xs w3 (cells_rdS HA3.out HSM.out) (by omega))
    go_wp2_with fail
    (go_at_call 12; refine DS.out.mono ?_; rintro e w4 ⟨rfl, hb4⟩)
    have hb04 : Below W.heap.size W w4 := Below.then hb03 hb4
    rw [← HT.out]
    go_wp2
    go_ret
    exact ⟨rfl, hb04⟩
  have h1 : t.toList.isEmpty = false := by rw [List.isEmpty_eq_false_iff]; exact h0
  have htn := size_ne h0
  obtain ⟨k, hk⟩ : ∃ k : Nat, k = (p1 % (t.size : Int)).toNat := ⟨_, rfl⟩
  have hkl : k < t.size := by
    have a := Int.emod_nonneg p1 (b := (t.size : Int)) (by omega)
    have b := Int.emod_lt_of_pos p1 (b := (t.size : Int)) (by omega)
    omega
  have htm : p1.tmod (t.size : Int) = (k : Int) := by
    rw [Int.tmod_eq_emod_of_nonneg (by omega), hk, Int.toNat_of_nonneg (Int.emod_nonneg p1 (by omega))]
  have hkl2 : (k : Int) ≤ t.size := by omega
  have hnone := torn_no HT.out.symm htn hkl
  have hsome := whole_yes HT.out.symm htn
  have HN := Lib.hid hnone
  have HY := Lib.hid hsome
  have hxs : (t.extract 0 k).size ≤ 1048576 := by
    rw [ByteArray.size_extract]
    omega
  have D1 := Lib.hid (impl_ReadRecord (t.extract 0 k) w3 (HG.out.below hb03) hxs)
  clear hk hnone hsome hxs
  go_wp2_with fail
  (go_at_call 10; refine D1.out.mono ?_; rintro e w4 ⟨n1, v1, b1, cs1, rfl, _, hok1, hb4⟩)
  have hb04 : Below W.heap.size W w4 := Below.then hb03 hb4
  obtain rfl := hok1.isNone HN.out
  have D2 := Lib.hid (impl_ReadRecord t w4 (HG.out.below hb04) (by omega))
  clear D1 hok1 hb4
  go_wp2_with fail
  (go_at_call 10; refine D2.out.mono ?_; rintro e w5 ⟨n2, v2, b2, cs2, rfl, _, hok2, hb5⟩)
  have hb05 : Below W.heap.size W w5 := Below.then hb04 hb5
  obtain ⟨rfl, _⟩ := hok2.isSome HY.out
  clear D2 hok2 hb5
  go_wp2
  go_ret
  exact ⟨rfl, hb05⟩
set_option maxRecDepth 100000 in
theorem impl_RecordSizeR (va : Value) (a : List CellD) (w : World) (hg : Glob w) (hr : (vSlice vCell 51).rd w [va] a) (hl : a.length ≤ 1048576) :
    Calls Tryd.prog 11 #[va] w fun e w' => e = .returned (.int .i64 ((recText 100000 a).size : Nat)) ∧ Below w.heap.size w w' := by
  obtain ⟨ao, ac, rfl⟩ := vSlice.form hr
  have D := Lib.hid (impl_RecordText 100000 _ a w hg.tab hr hl)
  clear hg hr
  have hz := recText_size 100000 a
  go_enter Tryd.func11, Tryd.ntmps11
  go_wp2_with fail
  (go_at_call 9; refine D.out.mono ?_; rintro e w' ⟨rfl, hb⟩)
  go_wp2
  go_ret
  exact ⟨rfl, hb⟩
set_option maxRecDepth 100000 in
set_option maxHeartbeats 4000000 in
theorem law_FnSeqTold (v : Value) (bs : List UInt8) (W : World) (hs : Sl W v bs.length (bytesOf bs)) (hb : ∀ b, v.ownBlock = some b → b < W.heap.size) (hg : Glob W) : Calls Tryd.prog 3 #[v] W (Yes W) := by
  have HS := Lib.hid hs
  have HB := Lib.hid hb
  have HG := Lib.hid hg
  clear hg
  unfold Yes
  by_cases hbig : 1048576 < bs.length
  · go_enter Tryd.func3, Tryd.ntmps3
    go_wp2_with fail
    (go_at_call 6; refine (laws_big v bs.length _ _ hs).mono ?_; rintro e w' ⟨rfl, rfl⟩)
    go_wp2
    go_ret
    exact ⟨rfl, (by repeat (first | with_reducible exact Below.refl _ _ | with_reducible apply Below.ofExt | with_reducible apply Below.ofAlloc | with_reducible apply Below.drew | with_reducible apply Below.ofDrewN | with_reducible assumption | (with_reducible refine Below.setCell ?_ (by first | exact Nat.le_refl _ | (simp [go_sem]; done) | (simp [go_sem]; omega)) _)))⟩
  clear hs hb
  go_enter Tryd.func3, Tryd.ntmps3
  go_wp2_with fail
  (go_at_call 6; refine (laws_big v bs.length _ _ HS.out).mono ?_; rintro e w' ⟨rfl, rfl⟩)
  go_wp2_with fail
  (go_at_call 7; refine (spec_DrawRecordText v bs _ HS.out (by omega) HB.out).mono ?_; rintro e w1 ⟨sq, va, rfl, _, xs, hoa, hla, hsa, hb1⟩)
  obtain ⟨aa, ca, rfl⟩ := hoa.rd.form
  have HA1 := Lib.hid hoa
  have HSM := Lib.hid (smalls_sm hsa)
  have hz1 := hb1.size
  clear hoa hsa
  have DP := Lib.hid (spec_DrawPlaces v bs w1 (Sl.below HS.out hb1) (by omega) (fun b hb => by have := HB.out b hb; omega))
  go_wp2_with fail
  (go_at_call 8; refine DP.out.mono ?_; rintro e w2 ⟨vp, rfl, ps, hop, hlp, hsp, hb2⟩)
  have hb02 : Below W.heap.size W w2 := Below.then hb1 hb2
  have HA2 := Lib.hid (own_bel HA1.out hb2)
  obtain ⟨pa, pc, rfl⟩ := hop.rd.form
  obtain ⟨_, pb, po, rfl, hpl, y0⟩ := int_at hop (i := 0) (by omega)
  have hp0 := hsp _ (List.getElem_mem (show 0 < ps.length by omega))
  generalize ps[0] = p0 at *
  rw [Nat.add_zero] at y0
  clear hop HA1 DP hb1 hb2 hsp
  have DR := Lib.hid (impl_RecordText (1 + p0) (.slice aa xs.length ca) xs w2 (HG.out.below hb02).tab (cells_rdS HA2.out HSM.out) (by omega))
  go_wp2_with fail
  (go_at_call 9; refine DR.out.mono ?_; rintro e w3 ⟨rfl, hb3⟩)
  have hb03 : Below W.heap.size W w3 := Below.then hb02 hb3
  have HA3 := Lib.hid (own_bel HA2.out hb3)
  have z0 := (Grew.below hb3).cell y0
  have hpl3 := Nat.lt_of_lt_of_le hpl hb3.size
  obtain ⟨t, ht⟩ : ∃ t, t = recText (1 + p0) xs := ⟨_, rfl⟩
  have htz := recText_size (1 + p0) xs
  rw [← ht] at htz ⊢
  have HT := Lib.hid ht
  clear ht y0 hb3 DR HA2 hpl
  have DR := Lib.hid (impl_RecordText (2 + p0) (.slice aa xs.length ca) xs w3 (HG.out.below hb03).tab (cells_rdS HA3.out HSM.out) (by omega))
  go_wp2_with fail
  (go_at_call 9; refine DR.out.mono ?_; rintro e w4 ⟨rfl, hb4⟩)
  have hb04 : Below W.heap.size W w4 := Below.then hb03 hb4
  have HA4 := Lib.hid (own_bel HA3.out hb4)
  have y0 := (Grew.below hb4).cell z0
  have hpl4 := Nat.lt_of_lt_of_le hpl3 hb4.size
  obtain ⟨u, hu⟩ : ∃ u, u = recText (2 + p0) xs := ⟨_, rfl⟩
  have huz := recText_size (2 + p0) xs
  rw [← hu] at huz ⊢
  have HU := Lib.hid hu
  clear hu z0 hb4 DR HA3 hpl3
  by_cases h0 : t.toList = [] ∨ u.toList = []
  · have D7 := Lib.hid (impl_RecordText 7 (.slice none 0 0) [] w4 (HG.out.below hb04).tab (cells_rdS (OwnL.nil rCell _ w4 0) Sm.nil) (by simp))
    have h7 : ¬ (recText 7 []).toList = [] := fun e => rec7 (size_nil e)
    obtain ⟨r7, hr7⟩ : ∃ r7, r7 = recText 7 [] := ⟨_, rfl⟩
    rw [← hr7] at h7
    have h7e : r7.toList.isEmpty = false := by rw [List.isEmpty_eq_false_iff]; exact h7
    by_cases ht0 : t.toList = []
    · have ht1 : t.toList.isEmpty = true := by rw [ht0]; rfl
      clear h0
      go_wp2_with fail
      (go_at_call 9; refine D7.out.mono ?_; rintro e w5 ⟨rfl, hb5⟩)
      have hb05 : Below W.heap.size W w5 := Below.then hb04 hb5
      rw [← hr7]
      clear hr7 D7
      go_wp2
      go_ret
      exact ⟨rfl, hb05⟩
    · have hu0 := h0.resolve_left ht0
      have ht1 : t.toList.isEmpty = false := by rw [List.isEmpty_eq_false_iff]; exact ht0
      have hu1 : u.toList.isEmpty = true := by rw [hu0]; rfl
      clear h0
      go_wp2_with fail
      (go_at_call 9; refine D7.out.mono ?_; rintro e w5 ⟨rfl, hb5⟩)
      have hb05 : Below W.heap.size W w5 := Below.then hb04 hb5
      rw [← hr7]
      clear hr7 D7
      go_wp2
      go_ret
      exact ⟨rfl, hb05⟩
  have ht0 : ¬ t.toList = [] := fun e => h0 (.inl e)
  have hu0 : ¬ u.toList = [] := fun e => h0 (.inr e)
  clear h0
  have ht1 : t.toList.isEmpty = false := by rw [List.isEmpty_eq_false_iff]; exact ht0
  have hu1 : u.toList.isEmpty = false := by rw [List.isEmpty_eq_false_iff]; exact hu0
  have YT := Lib.hid (whole_yes HT.out.symm (size_ne ht0))
  have YU := Lib.hid (whole_yes HU.out.symm (size_ne hu0))
  have htu : (t.toList == u.toList) = false := by
    rw [beq_eq_false_iff_ne]
    intro e
    have e2 := str_same (beq_iff_eq.2 e)
    have a := YT.out
    rw [e2, YU.out] at a
    injection a with a
    injection a with a _
    omega
  have D1 := Lib.hid (impl_ReadRecord t w4 (HG.out.below hb04) (by omega))
  go_wp2_with fail
  (go_at_call 10; refine D1.out.mono ?_; rintro e w5 ⟨n1, v1, b1, cs1, rfl, _, hok1, hb5⟩)
  have hb05 : Below W.heap.size W w5 := Below.then hb04 hb5
  obtain ⟨rfl, rfl, _⟩ := hok1.isSome YT.out
  have HA5 := Lib.hid (own_bel HA4.out hb5)
  have z0 := (Grew.below hb5).cell y0
  have hpl5 := Nat.lt_of_lt_of_le hpl4 hb5.size
  clear D1 hok1 hb5 HA4 y0 hpl4
  have D2 := Lib.hid (impl_ReadRecord u w5 (HG.out.below hb05) (by omega))
  go_wp2_with fail
  (go_at_call 10; refine D2.out.mono ?_; rintro e w6 ⟨n2, v2, b2, cs2, rfl, _, hok2, hb6⟩)
  have hb06 : Below W.heap.size W w6 := Below.then hb05 hb6
  obtain ⟨rfl, rfl, _⟩ := hok2.isSome YU.out
  have HA6 := Lib.hid (own_bel HA5.out hb6)
  have y0 := (Grew.below hb6).cell z0
  have hpl6 := Nat.lt_of_lt_of_le hpl5 hb6.size
  clear D2 hok2 hb6 HA5 z0 hpl5
  have D3 := Lib.hid (impl_RecordSizeR (.slice aa xs.length ca) xs w6 (HG.out.below hb06) (cells_rdS HA6.out HSM.out) (by omega))
  go_wp2_with fail
  (go_at_call 11; refine D3.out.mono ?_; rintro e w7 ⟨rfl, hb7⟩)
  have hb07 : Below W.heap.size W w7 := Below.then hb06 hb7
  have HA7 := Lib.hid (own_bel HA6.out hb7)
  have hrz := recText_size 100000 xs
  have hle : (recText 100000 xs).size ≠ 0 → t.size ≤ (recText 100000 xs).size + 4 := fun h => by
    rw [HT.out]
    exact rec_size (by omega) h
  obtain ⟨z, hz⟩ : ∃ z, z = (recText 100000 xs).size := ⟨_, rfl⟩
  rw [← hz] at hrz hle ⊢
  have hzr := Lib.hid hz
  clear hz
  by_cases hz0 : z = 0
  · subst hz0
    clear hle
    go_wp2
    go_ret
    exact ⟨rfl, hb07⟩
  have hle2 := hle hz0
  have hzz : ((z : Int) == 0) = false := by rw [beq_eq_false_iff_ne]; omega
  have D4 := impl_RecordSizeR (.slice aa xs.length ca) xs w7 (HG.out.below hb07) (cells_rdS HA7.out HSM.out) (by omega)
  rw [← hzr.out] at D4
  have D4 := Lib.hid D4
  clear hle
  go_wp2_with fail
  (go_at_call 11; refine D4.out.mono ?_; rintro e w8 ⟨rfl, hb8⟩)
  have hb08 : Below W.heap.size W w8 := Below.then hb07 hb8
  clear D4 hb8
  go_wp2
  go_ret
  refine ⟨?_, hb08⟩
  have hd : decide ((t.size : Int) ≤ (z : Int) + 4) = true := decide_eq_true (by omega)
  show Ending.returned (.bool (decide ((t.size : Int) ≤ (z : Int) + 4))) = _
  rw [hd]
end Go.Proofs.YtkfkbojcnbpmdaaDoor
