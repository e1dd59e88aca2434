/- Texts of this claim, merged: the laws of the walks and what they stand on. Each condition stands in its theorem. -/
import Derived.Test.YtedgenmbdjadkaaGreatDoorJN3
import Derived.ChangeSlices
set_option linter.unusedVariables false
set_option linter.unusedSimpArgs false
namespace Go.Proofs.YtedgenmbdjadkaaGreatDoor
open Go.ChangeShapes Go.WideShapes Go.ChangeAt Go.RowKit

theorem int_at {w : World} {B : Nat} {ao : Option Addr} {n cap : Nat} {xs : List Int} {e : TypeId} (h : OwnL rInt e w B (.slice ao n cap) xs) {i : Nat} (hi : i < xs.length) : n = xs.length ∧ ∃ b off, ao = some ⟨b, off, none⟩ ∧ b < w.heap.size ∧ w.cell? ⟨b, off + i, none⟩ = some (.int .i64 xs[i]) := by
  obtain ⟨ao', cap', hv, h1, h2, h3, h4⟩ := h.rd.shapeI
  cases hv
  obtain ⟨b, off, e1, e2, e3⟩ := h4 (by intro e; rw [e] at hi; simp at hi)
  exact ⟨rfl, b, off, e1, e2, e3 i hi⟩
theorem lit_nil (w : World) : (vSlice vCell 39).rd w [.slice none 0 0] [] := View.toRd _ (.inl ⟨rfl, rfl, rfl⟩ : (vSlice vCell 39).own w [] [.slice none 0 0] [])
set_option maxRecDepth 100000 in
set_option maxHeartbeats 8000000 in
theorem law_FnJournalCuts (v : Value) (bs : List UInt8) (W : World) (hs : Sl W v bs.length (bytesOf bs)) (hb : ∀ b, v.ownBlock = some b → b < W.heap.size) (hg : Glob W) : Calls Tryz.prog 4 #[v] W (Yes W) := by
  have HS := Lib.hid hs
  have HB := Lib.hid hb
  have HG := Lib.hid hg
  clear hg
  unfold Yes
  by_cases hbig : 1048576 < bs.length
  · go_enter Tryz.func4, Tryz.ntmps4
    go_wp2_with fail
    (go_at_call 12; refine (laws_big v bs.length _ _ hs).mono ?_; rintro e w' ⟨rfl, rfl⟩)
    go_wp2
    go_ret
    exact ⟨rfl, (by repeat (first | with_reducible exact Below.refl _ _ | with_reducible apply Below.ofExt | with_reducible apply Below.ofAlloc | with_reducible apply Below.drew | with_reducible apply Below.ofDrewN | with_reducible assumption | (with_reducible refine Below.setCell ?_ (by first | exact Nat.le_refl _ | (simp [go_sem]; done) | (simp [go_sem]; omega)) _)))⟩
  clear hs hb
  go_enter Tryz.func4, Tryz.ntmps4
  go_wp2_with fail
  (go_at_call 12; refine (laws_big v bs.length _ _ HS.out).mono ?_; rintro e w' ⟨rfl, rfl⟩)
  go_wp2_with fail
  (go_at_call 13; refine (spec_DrawRecordsIn v bs _ HS.out (by omega) HB.out).mono ?_; rintro e w1 ⟨t, fr, rfl, ht, hfr, hb1⟩)
  have hz1 := hb1.size
  have DP := Lib.hid (spec_DrawPlaces v bs w1 (Sl.below HS.out hb1) (by omega) (fun b hb => by have := HB.out b hb; omega))
  go_wp2_with fail
  (go_at_call 14; refine DP.out.mono ?_; rintro e w2 ⟨vp, rfl, ps, hop, hlp, hsp, hb2⟩)
  have hb02 : Below W.heap.size W w2 := Below.then hb1 hb2
  obtain ⟨pa, pc, rfl⟩ := hop.rd.form
  obtain ⟨_, pb, po, rfl, hpl, y0⟩ := int_at hop (i := 0) (by omega)
  have hp0 := hsp _ (List.getElem_mem (show 0 < ps.length by omega))
  generalize ps[0] = p0 at *
  rw [Nat.add_zero] at y0
  clear hop DP hb1 hb2 hsp
  obtain ⟨k, hk⟩ : ∃ k : Nat, k = (p0 % ((t.size : Int) + 1)).toNat := ⟨_, rfl⟩
  have hkl : k ≤ t.size := by
    have a := Int.emod_nonneg p0 (b := (t.size : Int) + 1) (by omega)
    have b := Int.emod_lt_of_pos p0 (b := (t.size : Int) + 1) (by omega)
    omega
  have htm : p0.tmod ((t.size : Int) + 1) = (k : Int) := by
    have a := Int.emod_nonneg p0 (b := (t.size : Int) + 1) (by omega)
    rw [Int.tmod_eq_emod_of_nonneg hp0.1]
    omega
  have hkl2 : (k : Int) ≤ t.size := by omega
  clear hk
  have D1 := Lib.hid (impl_RecordsIn t fr w2 (HG.out.below hb02) (by omega))
  go_wp2_with fail
  (go_at_call 8; refine D1.out.mono ?_; rintro e w3 ⟨va, sza, la, hsa, fpa, rfl, hoa, hra, hb3⟩)
  have hb03 : Below W.heap.size W w3 := Below.then hb02 hb3
  obtain ⟨aa, ca, rfl⟩ := hoa.form
  have HA := Lib.hid hoa
  clear hoa D1 hb3 y0 hpl
  have D2 := Lib.hid (impl_RecordsIn (t.extract 0 k) fr w3 (HG.out.below hb03) (by rw [ByteArray.size_extract]; omega))
  go_wp2_with fail
  (go_at_call 8; refine D2.out.mono ?_; rintro e w4 ⟨vb, szb, lb, hsb, fpb, rfl, hob, hrb, hb4⟩)
  have hb04 : Below W.heap.size W w4 := Below.then hb03 hb4
  obtain ⟨ab, cb, rfl⟩ := hob.form
  have HA4 := Lib.hid (HA.out.bel hb4)
  have HB4 := Lib.hid hob
  have hcut := cut_records t fr hkl
  rw [hra, hrb] at hcut
  dsimp only at hcut
  obtain ⟨hpre, hszk⟩ := hcut
  have hlen := hpre.length_le
  have HPRE := Lib.hid hpre
  have hle : ¬ ((la.length : Int) < lb.length) := by omega
  have hle2 : ¬ ((k : Int) < szb) := by omega
  have hd1 : decide (la.length < lb.length) = false := decide_eq_false (by omega)
  have hd2 : decide ((k : Int) < szb) = false := decide_eq_false hle2
  have hml : lb.length ≤ 9223372036854775807 := by
    have := HB4.out.len
    obtain ⟨_, _, _, h1, h2, _⟩ := HB4.out.row.rd.shape
    unfold maxLen at h2
    omega
  clear hob D2 hb4 HA hra hrb hpre hb03 hb02
  go_wp2
  go_loopw [2, 11] (fun _ i wr => ∃ (n : Nat), i = .int .i64 n ∧ n ≤ lb.length ∧ Below w4.heap.size w4 wr) (fun _ i _ => lb.length - (intOf i).toNat)
  case atStart => exact ⟨0, rfl, by omega, Below.refl _ _⟩
  case round =>
    obtain ⟨n, rfl, hn, hbel⟩ := hrel
    obtain ⟨X, rfl⟩ := hbel.ext
    by_cases hlt : (n : Int) < lb.length
    · have hkb : n < lb.length := by omega
      have hka : n < la.length := by omega
      obtain ⟨ba, offa, aoa, capa, acapa, ea, hbla, ya, ra⟩ := HA4.out.at hka
      obtain ⟨bb, offb, aob, capb, acapb, eb, hblb, yb, rb⟩ := HB4.out.at hkb
      have hee : lb[n] = la[n] := by
        obtain ⟨tl, htl⟩ := HPRE.out
        subst htl
        rw [List.getElem_append_left hkb]
      rw [hee] at yb rb
      injection ea with ea1 ea2 ea3
      injection eb with eb1 eb2 eb3
      subst ea1 ea3 eb1 eb3
      have HRA := Lib.hid ra
      have HRB := Lib.hid rb
      generalize la[n] = d at *
      clear ra rb hee ea2 eb2
      go_wp2
      refine wp_region_ord [(0,true),(1,true),(2,true),(3,true),(4,true),(5,true),(6,true),(7,true),(8,false),(9,true)] 10 (by kernel_rfl) (by kernel_rfl) ?_
      repeat (refine wpOrd_quiet rfl (fun K hK => ?_); go_simp; (try simp (disch := omega) only [IntWalk.i64_in]); refine hK _ ?_; clear hK K)
      refine wpOrd_grow rfl (fun K hK => ?_); go_simp; go_at_call 15; refine (laws_sameCellsC _ _ d _ (by repeat (first | with_reducible exact HRB.out | with_reducible apply RdL.ext | with_reducible apply RdL.alloc | with_reducible apply RdL.drew)) (by repeat (first | with_reducible exact HRA.out | with_reducible apply RdL.ext | with_reducible apply RdL.alloc | with_reducible apply RdL.drew))).mono ?_; rintro e w' ⟨rfl, hb⟩; obtain ⟨X, rfl⟩ := hb.ext; clear hb; try go_simp; refine hK _ _ (by show Sx _ _; (try simp only [← Array.append_assoc]); repeat (first | with_reducible exact Sx.drew _ | with_reducible exact Sx.same _ _ _ _ | with_reducible exact ⟨_, rfl⟩ | with_reducible apply Sx.more | with_reducible apply Sx.ext | with_reducible apply Sx.alloc | with_reducible apply Sx.draw | with_reducible exact Sx.refl _)) ?_; clear hK K
      repeat (refine wpOrd_quiet rfl (fun K hK => ?_); go_simp; (try simp (disch := omega) only [IntWalk.i64_in]); refine hK _ ?_; clear hK K)
      refine wpOrd_nil ?_
      go_wp2
      go_roundw
      case rel => exact ⟨n + 1, by go_num, by omega, (by repeat (first | with_reducible exact Below.refl _ _ | with_reducible apply Below.ofExt | with_reducible apply Below.ofAlloc | with_reducible apply Below.drew | with_reducible apply Below.ofDrewN | with_reducible assumption | (with_reducible refine Below.setCell ?_ (by first | exact Nat.le_refl _ | (simp [go_sem]; done) | (simp [go_sem]; omega)) _)))⟩
      case measure => simp [intOf]; omega
    · have hb05 : Below W.heap.size W (w4.ext X) := Below.then hb04 hbel
      generalize w4.ext X = w5 at *
      clear HA4 HB4 HPRE hbel hb04
      have D5 := Lib.hid (spec_RecordText 1 (.slice none 0 0) [] w5 (lit_nil _) (by simp))
      go_wp2_with fail
      (go_at_call 16; refine D5.out.mono ?_; rintro e w6 ⟨rfl, hb6⟩)
      have hb06 : Below W.heap.size W w6 := Below.then hb05 hb6
      have hr1 := recs_one (cs := []) (t := recText 1 []) rfl rec1_nil
      have hl1 : lastI (recText 1 []) 1 = 1 := by unfold lastI; rw [hr1]; show wrap64 (wrap64 (1 + ((1 : Nat) : Int)) - 1) = 1; decide +kernel
      have hz6 := recText_size 1 []
      have HR1 := Lib.hid hr1
      have HL1 := Lib.hid hl1
      generalize recText 1 [] = one at *
      clear hr1 hl1 D5 hb6 hb05
      have D6 := Lib.hid (impl_RecordsIn one 1 w6 (HG.out.below hb06) (by omega))
      go_wp2_with fail
      (go_at_call 8; refine D6.out.mono ?_; rintro e w7 ⟨vc, szc, lc, hsc, fpc, rfl, hoc, hrc, hb7⟩)
      have hb07 : Below W.heap.size W w7 := Below.then hb06 hb7
      obtain ⟨ac, cc, rfl⟩ := hoc.form
      rw [HR1.out] at hrc
      injection hrc with hrc1 hrc2
      subst hrc1
      clear hoc D6 hb7 hb06
      have D7 := impl_LastSeq one 1 w7 (HG.out.below hb07) (by omega)
      rw [HL1.out] at D7
      have D7 := Lib.hid D7
      go_wp2_with fail
      (go_at_call 17; refine D7.out.mono ?_; rintro e w8 ⟨rfl, hb8⟩)
      have hb08 : Below W.heap.size W w8 := Below.then hb07 hb8
      go_wp2
      go_ret
      exact ⟨rfl, hb08⟩
end Go.Proofs.YtedgenmbdjadkaaGreatDoor
namespace Go.Proofs.YtedgenmbdjadkaaGreatDoor
open Go.ChangeShapes Go.WideShapes Go.ChangeAt Go.RowKit
/-- the cursor has gone on; a journal lies at the first new block, another at B -/
def JX (p : Nat) (vb : Value) (bs : List UInt8) (w : World) (B : Nat) (t0 : ByteArray) (n0 : Int) (t : ByteArray) (n : Int) (w' : World) : Prop :=
  ∃ i' h', Got p w (curObj vb i' h') w' ∧ 0 ≤ i' ∧ i' ≤ bs.length ∧ w.heap.size < B ∧ w'.heap[w.heap.size]? = some (jObj t0 n0) ∧ w'.heap[B]? = some (jObj t n)
section
variable {p B : Nat} {vb : Value} {bs : List UInt8} {w w1 w2 : World} {t0 t : ByteArray} {n0 n : Int}
theorem JX.draw {i' h' : Int} (h : JX p vb bs w B t0 n0 t n w1) (g : Got p w1 (curObj vb i' h') w2) (h0 : 0 ≤ i') (h1 : i' ≤ bs.length) (hp : p < w.heap.size) : JX p vb bs w B t0 n0 t n w2 := by
  obtain ⟨i, hh, a, b, c, k, d, e⟩ := h
  exact ⟨i', h', a.then g hp, h0, h1, k, (g.other (World.lt_of_get d) (by omega)).trans d, (g.other (World.lt_of_get e) (by omega)).trans e⟩
theorem JX.below (h : JX p vb bs w B t0 n0 t n w1) (g : Below w1.heap.size w1 w2) : JX p vb bs w B t0 n0 t n w2 := by
  obtain ⟨i, hh, a, b, c, k, d, e⟩ := h
  exact ⟨i, hh, a.ofBelow g, b, c, k, (g.block _ (World.lt_of_get d)).trans d, (g.block _ (World.lt_of_get e)).trans e⟩
theorem JX.set (h : JX p vb bs w B t0 n0 t n w1) (t' : ByteArray) (n' : Int) : JX p vb bs w B t0 n0 t' n' (w1.setB B (jObj t' n')) := by
  obtain ⟨i, hh, a, b, c, k, d, e⟩ := h
  exact ⟨i, hh, a.past (by omega) _, b, c, k, by rw [World.setB_get _ _ _ _ (by omega)]; exact d, World.setB_at _ _ _ (World.lt_of_get e)⟩
theorem JX.set0 (h : JX p vb bs w B t0 n0 t n w1) (t' : ByteArray) (n' : Int) : JX p vb bs w B t' n' t n (w1.setB w.heap.size (jObj t' n')) := by
  obtain ⟨i, hh, a, b, c, k, d, e⟩ := h
  exact ⟨i, hh, a.past (by omega) _, b, c, k, World.setB_at _ _ _ (World.lt_of_get d), by rw [World.setB_get _ _ _ _ (by omega)]; exact e⟩
theorem JX.self (h : JX p vb bs w B t0 n0 t n w1) : w1.setB B (jObj t n) = w1 := by
  obtain ⟨i, hh, a, b, c, k, d, e⟩ := h
  exact World.setB_self e
theorem JX.self0 (h : JX p vb bs w B t0 n0 t n w1) : w1.setB w.heap.size (jObj t0 n0) = w1 := by
  obtain ⟨i, hh, a, b, c, k, d, e⟩ := h
  exact World.setB_self d
theorem JX.got (h : JX p vb bs w B t0 n0 t n w1) : ∃ i' h', Got p w (curObj vb i' h') w1 ∧ 0 ≤ i' ∧ i' ≤ bs.length := by
  obtain ⟨i, hh, a, b, c, k, d, e⟩ := h
  exact ⟨i, hh, a, b, c⟩
theorem JX.at1 (h : JX p vb bs w B t0 n0 t n w1) : w1.heap[B]? = some (jObj t n) := by
  obtain ⟨i, hh, a, b, c, k, d, e⟩ := h
  exact e
theorem JX.at0 (h : JX p vb bs w B t0 n0 t n w1) : w1.heap[w.heap.size]? = some (jObj t0 n0) := by
  obtain ⟨i, hh, a, b, c, k, d, e⟩ := h
  exact d
theorem JX.cell0 (h : JX p vb bs w B t0 n0 t n w1) : w1.cell? ⟨B, 0, none⟩ = some (.string t) := by rw [World.cell?_of_get h.at1]; rfl
theorem JX.cell1 (h : JX p vb bs w B t0 n0 t n w1) : w1.cell? ⟨B, 1, none⟩ = some (.int .i64 n) := by rw [World.cell?_of_get h.at1]; rfl
theorem JX.start {i' h' : Int} (hg : Got p w (curObj vb i' h') w1) (h0 : 0 ≤ i') (h1 : i' ≤ bs.length) (e0 : w1.heap[w.heap.size]? = some (jObj t0 n0)) (t : ByteArray) (n : Int) : JX p vb bs w w1.heap.size t0 n0 t n (w1.alloc (jObj t n)) :=
  ⟨i', h', hg.alloc _, h0, h1, World.lt_of_get e0, (Below.heap_alloc _ _ _ (World.lt_of_get e0)).trans e0, World.alloc_new _ _⟩
end
set_option maxRecDepth 100000 in
set_option maxHeartbeats 2000000 in
theorem spec_l22Any (p : Nat) (vb : Value) (bs : List UInt8) (i h : Int) (w : World) (hc : Cur w p vb bs i h) :
    Calls Tryz.prog 63 #[.pointer (some ⟨p, 0, none⟩)] w fun e w' => ∃ t n, e = .returned (.agg #[.string t, .int .i64 n]) ∧ DrawnJ p vb bs w t w' := by
  have hp := hc.lt
  have HC := Lib.hid hc
  clear hc
  go_enter Tryz.func63, Tryz.ntmps63
  go_wp2_with fail
  (go_at_call 44; refine (spec_l22Journal p vb bs _ _ _ (HC.out.alloc _)).mono ?_; rintro e w1 ⟨t, n, rfl, ht, i1, h1, hg1, ha1, hb1⟩)
  have e0 : w1.heap[w.heap.size]? = some (jObj ⟨#[]⟩ 0) := (hg1.other (by simp) (by omega)).trans (World.alloc_new _ _)
  have hg1' := hg1.ofAlloc hp
  have hx := JX.start hg1' ha1 hb1 e0 t n
  unfold jObj at hx
  have HX := Lib.hid hx
  have hc1 := ((HC.out.alloc _).got hg1 ha1 hb1).alloc (.cells #[.string t, .int .i64 n] 44)
  have hpl := hc1.lt
  have hz1 := World.lt_of_get e0
  clear hx e0
  go_wp2_with fail
  (go_at_call 46; refine (spec_l01Below p vb bs _ _ _ _ hc1 (by omega)).mono ?_; rintro e w2 ⟨x, i2, h2, rfl, ⟨hx0, hx1, _⟩, hg2, ha2, hb2⟩)
  have hx2 := hx1 (by omega)
  clear hx1
  have HX2 := Lib.hid (JX.draw HX.out hg2 ha2 hb2 hp)
  have hc2 := hc1.got hg2 ha2 hb2
  clear HX
  by_cases c0 : x = 0
  · have k0 : (x == 0) = true := by simp [c0]
    go_wp2_with fail
    (go_at_call 45; refine (spec_l01PickInt p vb bs _ _ _ [-1, 0, 5, 100000] _ (hc2.alloc _) (RdL.lit rInt w2 [-1, 0, 5, 100000] 4 rfl (by decide) _ rfl _) (by decide) (by decide) (by have := hc2.lt; simp [Value.ownBlock]; omega)).mono ?_; rintro e w3 ⟨z, i3, h3, rfl, hz, hg3, ha3, hb3⟩)
    have HX3 := Lib.hid ((HX2.out.below (Below.ofAlloc (Below.refl _ _) _)).draw hg3 ha3 hb3 hp)
    have hz3 := World.lt_of_get HX3.out.at1
    have HX4 := Lib.hid (HX3.out.set t z)
    have HX21 := Lib.hid (HX4.out.set0 t z)
    have hz20 := World.lt_of_get HX3.out.at1
    have hz21 := World.lt_of_get HX3.out.at0
    have hAB : w.heap.size ≠ w1.heap.size := by omega
    have hBA : w1.heap.size ≠ w.heap.size := by omega
    rw [← HX3.out.self, ← (HX3.out.set t n).self0]
    unfold jObj
    go_wp2
    refine bodyPost_ret (by simp [results, Tryz.results63, go_sem, hz20, hz21]; rfl) rfl ?_
    obtain ⟨i20, h20, hg20, ha20, hb20⟩ := HX21.out.got
    exact ⟨_, _, rfl, ht, ⟨i20, h20, hg20, ha20, hb20⟩⟩
  · have k0 : (x == 0) = false := by simp [c0]
    by_cases c1 : x = 1
    · have k1 : (x == 1) = true := by simp [c1]
      go_wp2_with fail
      (go_at_call 46; refine (spec_l01Below p vb bs _ _ _ _ hc2 (by omega)).mono ?_; rintro e w3 ⟨y, i3, h3, rfl, ⟨hy0, hy1, _⟩, hg3, ha3, hb3⟩)
      have hy2 := hy1 (by omega)
      clear hy1
      obtain ⟨k, rfl⟩ := Int.eq_ofNat_of_zero_le hy0
      go_wp2_with fail
      (go_at_call 93; refine (spec_l01LongI (20000 + (k : Int)) (20000 + k) 10 10 _ (by omega) (by decide) (by omega)).mono ?_; rintro e w4 ⟨t1, rfl, ht1, hb4⟩)
      have HX3 := Lib.hid ((HX2.out.draw hg3 ha3 hb3 hp).below hb4)
      have hz3 := World.lt_of_get HX3.out.at1
      have HX4 := Lib.hid (HX3.out.set t1 n)
      have ht1' : t1.size ≤ 20001 := by omega
      have HX21 := Lib.hid (HX4.out.set0 t1 n)
      have hz20 := World.lt_of_get HX3.out.at1
      have hz21 := World.lt_of_get HX3.out.at0
      have hAB : w.heap.size ≠ w1.heap.size := by omega
      have hBA : w1.heap.size ≠ w.heap.size := by omega
      rw [← HX3.out.self, ← (HX3.out.set t n).self0]
      unfold jObj
      go_wp2
      refine bodyPost_ret (by simp [results, Tryz.results63, go_sem, hz20, hz21]; rfl) rfl ?_
      obtain ⟨i20, h20, hg20, ha20, hb20⟩ := HX21.out.got
      exact ⟨_, _, rfl, ht1', ⟨i20, h20, hg20, ha20, hb20⟩⟩
    · have k1 : (x == 1) = false := by simp [c1]
      have HX20 := Lib.hid (HX2.out.set0 ⟨#[]⟩ 0)
      have HX21 := Lib.hid (HX2.out.set0 t n)
      have hl1 := HX20.out.cell0
      have hl2 := HX20.out.cell1
      have hz20 := World.lt_of_get HX2.out.at1
      have hz21 := World.lt_of_get HX2.out.at0
      try simp only [World.setB_size] at hz20 hz21
      rw [← HX2.out.self0]
      unfold jObj at hl1 hl2 ⊢
      go_wp2
      refine bodyPost_ret (by simp [results, Tryz.results63, go_sem, hz20, hz21]; rfl) rfl ?_
      obtain ⟨i20, h20, hg20, ha20, hb20⟩ := HX21.out.got
      exact ⟨_, _, rfl, ht, ⟨i20, h20, hg20, ha20, hb20⟩⟩
theorem _root_.Go.Got.toBelowK {a w w' : World} {p : Nat} {o : Obj} (h : Got p w o w') (hb : Below a.heap.size a w) (hp : a.heap.size ≤ p) : Below a.heap.size a w' := by
  obtain ⟨X, rfl⟩ := h
  refine hb.trans ⟨rfl, rfl, rfl, by rw [World.ext_size, World.setB_size]; omega, fun k hk => ?_⟩
  have := hb.size
  rw [World.ext_get _ _ (by rw [World.setB_size]; omega), World.setB_get _ _ _ _ (by omega)]
def DrawnT (w : World) (t s : ByteArray) (w' : World) : Prop := t.size ≤ 20001 ∧ s.size ≤ 5 ∧ Below w.heap.size w w'
set_option maxRecDepth 100000 in
theorem spec_DrawAddText (v : Value) (bs : List UInt8) (w : World) (hs : Sl w v bs.length (bytesOf bs)) (hl : bs.length ≤ 140737488351232) (hb : ∀ b, v.ownBlock = some b → b < w.heap.size) :
    Calls Tryz.prog 22 #[v] w fun e w' => ∃ t n s, e = .returned (.tuple #[.agg #[.string t, .int .i64 n], .string s]) ∧ DrawnT w t s w' := by
  have HS := Lib.hid hs
  have HB := Lib.hid hb
  clear hs hb
  go_enter Tryz.func22, Tryz.ntmps22
  go_wp2_with fail
  (go_at_call 43; refine (spec_l01New v bs _ (HS.out.alloc _) hl (fun b hb => by have := HB.out b hb; simp; omega)).mono ?_; rintro e w1 ⟨p, rfl, ⟨h, hc⟩, hb1, hp⟩)
  have hz1 := hb1.size
  simp at hp hz1
  have hpl := hc.lt
  go_wp2_with fail
  (go_at_call 63; refine (spec_l22Any p v bs _ _ _ hc).mono ?_; rintro e w2 ⟨t, n, rfl, ht, i2, h2, hg2, ha2, hb2⟩)
  have hc2 := hc.got hg2 ha2 hb2
  go_wp2_with fail
  (go_at_call 46; refine (spec_l01Below p v bs _ _ _ _ hc2 (by omega)).mono ?_; rintro e w3 ⟨x, i3, h3, rfl, ⟨hx0, hx1, _⟩, hg3, ha3, hb3⟩)
  have hc3 := hc2.got hg3 ha3 hb3
  have hx2 := hx1 (by omega)
  clear hx1
  go_wp2_with fail
  (go_at_call 64; refine (spec_l01TextI p v bs _ _ _ _ hc3 hx0 (by omega)).mono ?_; rintro e w4 ⟨s, rfl, hs, i4, h4, hg4, ha4, hb4⟩)
  have hbb := hg4.toBelowK ((hg3.toBelowK (hg2.toBelowK hb1 (by simp; omega)) (by simp; omega))) (by simp; omega)
  have hbw : Below w.heap.size w w4 := by
    obtain ⟨X, rfl⟩ := hbb.ext
    exact ((Below.refl _ w).ofAlloc _).ofExt _
  have e0 : w4.heap[w.heap.size]? = some (jObj ⟨#[]⟩ 0) := (hbb.block w.heap.size (by simp)).trans (World.alloc_new w _)
  have hz4 := World.lt_of_get e0
  rw [← World.setB_self e0]
  unfold jObj
  clear e0
  go_wp2
  refine bodyPost_ret (by simp [results, Tryz.results22, go_sem, hz4]; rfl) rfl ?_
  exact ⟨_, _, _, rfl, ht, by omega, hbw.past (Nat.le_refl _) _⟩
end Go.Proofs.YtedgenmbdjadkaaGreatDoor
namespace Go.Proofs.YtedgenmbdjadkaaGreatDoor
open Go.ChangeShapes Go.WideShapes Go.ChangeAt Go.RowKit

def FallL : List Int := [0, 1, 9, 30, 1000, -1, 9223372036854775807]
def DrawnFJ (w : World) (e : Ending) (w' : World) : Prop := ∃ (t : ByteArray) (n k : Int), e = .returned (.tuple #[.agg #[.string t, .int .i64 n], .int .i64 k]) ∧ t.size ≤ 20001 ∧ Below w.heap.size w w'
theorem DrawnFJ.mk {w w' : World} {t : ByteArray} {n k : Int} (h : t.size ≤ 20001) (hb : Below w.heap.size w w') : DrawnFJ w (.returned (.tuple #[.agg #[.string t, .int .i64 n], .int .i64 k])) w' := ⟨t, n, k, rfl, h, hb⟩
set_option maxRecDepth 100000 in
theorem spec_DrawFallJournal (v : Value) (bs : List UInt8) (w : World) (hs : Sl w v bs.length (bytesOf bs)) (hl : bs.length ≤ 140737488351232) (hb : ∀ b, v.ownBlock = some b → b < w.heap.size) :
    Calls Tryz.prog 25 #[v] w (DrawnFJ w) := by
  have HS := Lib.hid hs
  have HB := Lib.hid hb
  clear hs hb
  go_enter Tryz.func25, Tryz.ntmps25
  go_wp2_with fail
  (go_at_call 43; refine (spec_l01New v bs _ (HS.out.alloc _) hl (fun b hb => by have := HB.out b hb; simp; omega)).mono ?_; rintro e w1 ⟨p, rfl, ⟨h, hc⟩, hb1, hp⟩)
  have hz1 := hb1.size
  simp at hp hz1
  have hpl := hc.lt
  go_wp2_with fail
  (go_at_call 63; refine (spec_l22Any p v bs _ _ _ hc).mono ?_; rintro e w2 ⟨t, n, rfl, ht, i2, h2, hg2, ha2, hb2⟩)
  have hc2 := hc.got hg2 ha2 hb2
  have hz2 := hg2.size
  go_wp2_with fail
  (go_at_call 45; refine (spec_l01PickInt p v bs _ _ _ FallL _ (hc2.alloc _) (RdL.lit rInt w2 FallL 7 rfl (by decide) _ rfl _) (by decide) (by decide) (by simp [Value.ownBlock]; omega)).mono ?_; rintro e w3 ⟨z, i3, h3, rfl, hz, hg3, ha3, hb3⟩)
  have hbb := hg3.toBelowK ((hg2.toBelowK hb1 (by simp; omega)).ofAlloc _) (by simp; omega)
  have hbw : Below w.heap.size w w3 := by
    obtain ⟨X, rfl⟩ := hbb.ext
    exact ((Below.refl _ w).ofAlloc _).ofExt _
  have e0 : w3.heap[w.heap.size]? = some (jObj ⟨#[]⟩ 0) := (hbb.block w.heap.size (by simp)).trans (World.alloc_new w _)
  have hz4 := World.lt_of_get e0
  rw [← World.setB_self e0]
  unfold jObj
  clear e0 hz
  go_wp2
  refine bodyPost_ret (by simp [results, Tryz.results25, go_sem, hz4]; rfl) rfl ?_
  exact DrawnFJ.mk ht (hbw.past (Nat.le_refl _) _)
end Go.Proofs.YtedgenmbdjadkaaGreatDoor
namespace Go.Proofs.YtedgenmbdjadkaaGreatDoor
open Go.ChangeShapes Go.WideShapes Go.ChangeAt Go.RowKit

theorem strOf_back {a : ByteArray} {m : List UInt8} (h : a.data.toList = m) : strOf m = a := by
  rw [← h]
  exact strOf_data a
theorem linesB_two {p q : Int} {cs ds : List CellD} {a b c : ByteArray} (ha : recText p cs = a) (ha0 : a.size ≠ 0) (hb : recText q ds = b) (hb0 : b.size ≠ 0) (hc : (10 : UInt8) ∉ c.data.toList) : linesB (a ++ b ++ c) = [a, b] := by
  obtain ⟨m, hm, hm2⟩ := rec_bytes ha ha0
  obtain ⟨k, hk, hk2⟩ := rec_bytes hb hb0
  have e : (a ++ b ++ c).data.toList = m ++ 10 :: (k ++ 10 :: c.data.toList) := by
    rw [ByteArray.data_append, ByteArray.data_append, Array.toList_append, Array.toList_append, hm, hk]
    simp
  unfold linesB
  rw [e, linesL_app _ hm2, linesL_app _ hk2, linesL_none hc]
  show [strOf (m ++ [10]), strOf (k ++ [10])] = [a, b]
  rw [strOf_back hm, strOf_back hk]
/-- two records in order -/
theorem recs_two {fr : Int} {cs ds : List CellD} {a b c : ByteArray} (hf : inB fr 1 100000 = true) (ha : recText fr cs = a) (ha0 : a.size ≠ 0) (hb : recText (fr + 1) ds = b) (hb0 : b.size ≠ 0) (hc : (10 : UInt8) ∉ c.data.toList) : (recsI (a ++ b ++ c) fr).1 = [cs, ds] := by
  rw [recsI_in hf, linesB_two ha ha0 hb hb0 hc]
  unfold recs
  rw [step_add (whole_yes ha ha0) (by simp)]
  dsimp only
  unfold recs
  rw [step_add (whole_yes hb hb0) (by simp)]
  rfl
/-- a record that lies too early, and one in order -/
theorem recs_skip {fr : Int} {cs ds : List CellD} {a b c : ByteArray} (hf : inB (fr + 1) 1 100000 = true) (ha : recText fr cs = a) (ha0 : a.size ≠ 0) (hb : recText (fr + 1) ds = b) (hb0 : b.size ≠ 0) (hc : (10 : UInt8) ∉ c.data.toList) : (recsI (a ++ b ++ c) (fr + 1)).1 = [ds] := by
  rw [recsI_in hf, linesB_two ha ha0 hb hb0 hc]
  unfold recs
  rw [step_skip (whole_yes ha ha0) (by simp) (by omega)]
  dsimp only
  unfold recs
  rw [step_add (whole_yes hb hb0) (by simp)]
  rfl
theorem rec_nil_ne {n : Int} (h1 : 1 ≤ n) (h2 : n ≤ 1000) : (recText n []).size ≠ 0 := by
  have hi : inB n 1 100000 = true := by unfold inB; simp; omega
  have hb := bsum_small (Lib.itoa n)
  have h2 := itoa_len6 hb.1 hb.2
  have h1 := itoa_len6 (n := n) (by omega) (by omega)
  rw [recText_some hi (l := Lib.itoa n) rfl, if_pos (by unfold recEnd; simp only [List.length_append, List.length_cons, List.length_nil]; omega), strOf_size]
  unfold recEnd
  simp
theorem rec_one_ne {n : Int} (h1 : 1 ≤ n) (h2 : n ≤ 1000) {k v : ByteArray} (hk : keyOk k = true) (hks : k.size ≤ 2) (hvs : v.size ≤ 2) : (recText n [⟨k, v⟩]).size ≠ 0 := by
  have hi : inB n 1 100000 = true := by unfold inB; simp; omega
  have hl1 := itoa_len6 (n := n) (by omega) (by omega)
  have hg : recGo (Lib.itoa n) [⟨k, v⟩] = some (recAdd (Lib.itoa n) ⟨k, v⟩) := by
    have : recOne (Lib.itoa n) ⟨k, v⟩ = true := recOne_true hk (by show (v.size : Int) ≤ 60; omega) (by omega)
    unfold recGo
    rw [if_pos this]
    rfl
  have hl : (recAdd (Lib.itoa n) ⟨k, v⟩).length ≤ 30 := by
    unfold recAdd
    rw [hexT_list (s := k) (by omega), hexT_list (s := v) (by omega)]
    have e1 := hexL_len k
    have e2 := hexL_len v
    simp only [List.length_append, List.length_cons, e1, e2]
    omega
  have hb := bsum_small (recAdd (Lib.itoa n) ⟨k, v⟩)
  have h2 := itoa_len6 hb.1 hb.2
  rw [recText_some hi hg, if_pos (by unfold recEnd; simp only [List.length_append, List.length_cons, List.length_nil]; omega), strOf_size]
  unfold recEnd
  simp
end Go.Proofs.YtedgenmbdjadkaaGreatDoor
namespace Go.Proofs.YtedgenmbdjadkaaGreatDoor
open Go.ChangeShapes Go.WideShapes Go.ChangeAt Go.RowKit

theorem jcells {w : World} {b : Nat} {t : ByteArray} {n : Int} {ty : TypeId} (h : w.heap[b]? = some (.cells #[.string t, .int .i64 n] ty (0, 0))) : w.cell? ⟨b, 0, none⟩ = some (.string t) ∧ w.cell? ⟨b, 1, none⟩ = some (.int .i64 n) := by
  constructor <;> simp [World.cell?, h]
theorem rd_one1 {α : Type} (V : View α) {e : TypeId} {w : World} {b : Nat} {cs : List Value} {d : α} {t : TypeId} (h : V.rd w cs d) (hb : w.heap[b]? = some (.cells cs.toArray t)) : (vSlice V e).rd w [.slice (some ⟨b, 0, none⟩) 1 1] [d] :=
  ⟨_, 1, [cs], rfl, Nat.le_refl _, by unfold maxLen; omega, (fun h => by cases h), rfl, fun i hi hc => by
    have : i = 0 := by simp at hi; omega
    subst this
    exact h, fun _ => ⟨b, 0, rfl, World.lt_of_get hb, fun j u hj => by
    rw [World.cell?_of_get hb, Nat.zero_add]
    simpa using hj⟩⟩
theorem opqC2 {P : Program} {c : Code} {Q : Exit → Act → World → Prop} {a : Act} {W : World} (S : World → Prop) (h : S W) (H : ∀ W0, S W0 → c.wp P Q a W0) : c.wp P Q a W := H W h
theorem opqJ {P : Program} {f : FuncId} {args : Array Value} {R : Ending → World → Prop} {W : World} (S : World → Prop) (h : S W) (H : ∀ W0, S W0 → Calls P f args W0 R) : Calls P f args W R := H W h
theorem laws_sameTexts (v v' : Value) (xs : List ByteArray) (w : World) (hs : RdL rStr w v xs) (hs' : RdL rStr w v' xs) :
    Calls Tryz.prog 33 #[v, v'] w fun e w' => e = .returned (.bool true) ∧ Below w.heap.size w w' := by
  obtain ⟨ao, cap, rfl, hc1, hc2, _, hcell⟩ := hs.shapeS
  obtain ⟨ao', cap', rfl, hc1', hc2', _, hcell'⟩ := hs'.shapeS
  have HX := Lib.hid hcell
  have HX' := Lib.hid hcell'
  clear hcell hcell' hs hs'
  unfold maxLen at hc2 hc2'
  go_enter Tryz.func33, Tryz.ntmps33
  go_wp2
  go_loopw [5] (fun k wr => ∃ (n : Nat), k = .int .i64 n ∧ n ≤ xs.length ∧ Below w.heap.size w wr) (fun k _ => xs.length - (intOf k).toNat)
  case atStart => exact ⟨0, rfl, by omega, (by repeat (first | with_reducible exact Below.refl _ _ | with_reducible apply Below.ofExt | with_reducible apply Below.ofAlloc | with_reducible apply Below.drew | with_reducible apply Below.ofDrewN | with_reducible assumption | (with_reducible refine Below.setCell ?_ (by first | exact Nat.le_refl _ | (simp [go_sem]; done) | (simp [go_sem]; omega)) _)))⟩
  case round =>
    obtain ⟨n, rfl, hn, hbel⟩ := hrel
    obtain ⟨X, rfl⟩ := hbel.ext
    by_cases hlt : (n : Int) < xs.length
    · have hk : n < xs.length := by omega
      obtain ⟨b, off, rfl, hbl, hcell⟩ := HX.out (by intro e; simp [e] at hk)
      obtain ⟨b', off', rfl, hbl', hcell'⟩ := HX'.out (by intro e; simp [e] at hk)
      have y0 := hcell n hk
      have z0 := hcell' n hk
      generalize xs[n] = x at y0 z0
      have hxx : (x.toList == x.toList) = true := by simp
      have hxn : (x.toList != x.toList) = false := by simp
      clear hcell hcell'
      go_wp2
      go_quiet (fail)
      go_wp2
      go_roundw
      case rel => exact ⟨n + 1, by go_num, by omega, (by repeat (first | with_reducible exact Below.refl _ _ | with_reducible apply Below.ofExt | with_reducible apply Below.ofAlloc | with_reducible apply Below.drew | with_reducible apply Below.ofDrewN | with_reducible assumption | (with_reducible refine Below.setCell ?_ (by first | exact Nat.le_refl _ | (simp [go_sem]; done) | (simp [go_sem]; omega)) _)))⟩
      case measure => simp [intOf]; omega
    · go_wp2
      go_ret
      exact ⟨rfl, (by repeat (first | with_reducible exact Below.refl _ _ | with_reducible apply Below.ofExt | with_reducible apply Below.ofAlloc | with_reducible apply Below.drew | with_reducible apply Below.ofDrewN | with_reducible assumption | (with_reducible refine Below.setCell ?_ (by first | exact Nat.le_refl _ | (simp [go_sem]; done) | (simp [go_sem]; omega)) _)))⟩
theorem fall_part {t : ByteArray} {n k : Int} (h : jOk t n = true) : (0 ≤ n ∧ n ≤ (fallT t n k).size) ∧ (fallT t n k).size ≤ t.size ∧ t.extract 0 (fallT t n k).size = fallT t n k := by
  obtain ⟨h1, h2⟩ := fallN_eq k h
  have h3 := fallT_t (keep := k) h
  have hz : (fallT t n k).size = fallN t n k := by
    rw [← h3, ByteArray.size_extract]
    omega
  have h4 : 0 ≤ bro k 0 (t.size - n) := by
    have : 0 ≤ n ∧ n ≤ t.size := by unfold jOk inB at h; simp at h; omega
    unfold bro
    omega
  have h5 : 0 ≤ n := by unfold jOk inB at h; simp at h; omega
  refine ⟨⟨h5, by rw [hz]; omega⟩, by rw [hz]; exact h2, by rw [hz]; exact h3⟩
set_option maxRecDepth 100000 in
set_option maxHeartbeats 8000000 in
theorem law_FnJournal (v : Value) (bs : List UInt8) (W : World) (hs : Sl W v bs.length (bytesOf bs)) (hb : ∀ b, v.ownBlock = some b → b < W.heap.size) (hg : Glob W) : Calls Tryz.prog 6 #[v] W (Yes W) := by
  have HS := Lib.hid hs
  have HB := Lib.hid hb
  have HG := Lib.hid hg
  clear hg
  unfold Yes
  by_cases hbig : 1048576 < bs.length
  · go_enter Tryz.func6, Tryz.ntmps6
    go_wp2_with fail
    (go_at_call 12; refine (laws_big v bs.length _ _ hs).mono ?_; rintro e w' ⟨rfl, rfl⟩)
    go_wp2
    go_ret
    exact ⟨rfl, (by repeat (first | with_reducible exact Below.refl _ _ | with_reducible apply Below.ofExt | with_reducible apply Below.ofAlloc | with_reducible apply Below.drew | with_reducible apply Below.ofDrewN | with_reducible assumption | (with_reducible refine Below.setCell ?_ (by first | exact Nat.le_refl _ | (simp [go_sem]; done) | (simp [go_sem]; omega)) _)))⟩
  clear hs hb
  have hbl : bs.length ≤ 140737488351232 := by omega
  go_enter Tryz.func6, Tryz.ntmps6
  go_wp2_with fail
  (go_at_call 12; refine (laws_big v bs.length _ _ HS.out).mono ?_; rintro e w' ⟨rfl, rfl⟩)
  have hbw0 := Below.refl W.heap.size W
  obtain ⟨w0, hw0⟩ : ∃ w0, w0 = W := ⟨_, rfl⟩
  go_wp2_with fail
  (go_at_call 22; refine (spec_DrawAddText v bs _ HS.out hbl HB.out).mono ?_; rintro e w1 ⟨t, n, s, rfl, ht, hs5, hbw1⟩)
  have hz1 := hbw1.size
  clear hw0 hbw0 w0
  obtain ⟨at1, hat1⟩ : ∃ x, x = adT t n s := ⟨_, rfl⟩
  obtain ⟨ao1, hao1⟩ : ∃ x, x = atJ t n s := ⟨_, rfl⟩
  have hatz : (adT t n s).size ≤ 1048576 := by have := adT_size (n := n) (s := s) ht; omega
  have C1 := fun w => impl_AddText t n s w (by omega)
  have C2 := fun w => spec_AddText t n s w (by omega)
  rw [← hat1] at hatz
  simp only [← hat1, ← hao1] at C1 C2
  have HC1 := Lib.hid C1; have HC2 := Lib.hid C2; clear C1 C2 hat1 hao1
  have DC := Lib.hid (HC1.out (w1.alloc (.cells #[.string t, .int .i64 n] 44)))
  go_wp2_with fail
  (go_at_call 23; refine DC.out.mono ?_; rintro e w2 ⟨rfl, hbn⟩)
  have HXjn := Lib.hid (((Grew.below hbn) _ (by simp)).trans (alloc_newA' w1 #[.string t, .int .i64 n] 44 (b := w1.heap.size) rfl))
  have hbw2 : Below W.heap.size W w2 := Below.then (hbw1.ofAlloc _) hbn
  clear DC hbn 
  try clear cj0 cj1 lj
  have HXj := HXjn; clear HXjn
  have hz2 := hbw2.size
  obtain ⟨cj0, cj1⟩ := jcells HXj.out
  have lj := World.lt_of_get HXj.out
  have DC := Lib.hid (HC2.out (w2.alloc (.cells #[.string at1, .int .i64 n] 44)))
  go_wp2_with fail
  (go_at_call 24; refine DC.out.mono ?_; rintro e w3 ⟨rfl, hbn⟩)
  have HXjn := Lib.hid (((Grew.below hbn) _ (by simp; have := World.lt_of_get HXj.out; omega)).trans ((Below.heap_alloc _ _ _ (World.lt_of_get HXj.out)).trans HXj.out))
  have HXxn := Lib.hid (((Grew.below hbn) _ (by simp)).trans (alloc_newA' w2 #[.string at1, .int .i64 n] 44 (b := w2.heap.size) rfl))
  have hbw3 : Below W.heap.size W w3 := Below.then (hbw2.ofAlloc _) hbn
  clear DC hbn HXj
  try clear cj0 cj1 lj cx0 cx1 lx
  have HXj := HXjn; clear HXjn
  have HXx := HXxn; clear HXxn
  have hz3 := hbw3.size
  have DC := Lib.hid ((spec_DrawFallJournal v bs (w3.alloc (.cells #[.string at1, .int .i64 n] 44)) (Sl.below HS.out (hbw3.ofAlloc _)) hbl (fun b hb => by have := HB.out b hb; simp; omega)))
  go_wp2_with fail
  (go_at_call 25; refine DC.out.mono ?_; rintro e w4 ⟨kt, kn, kp, rfl, hkt, hbn⟩)
  have HXjn := Lib.hid (((Grew.below hbn) _ (by simp; have := World.lt_of_get HXj.out; omega)).trans ((Below.heap_alloc _ _ _ (World.lt_of_get HXj.out)).trans HXj.out))
  have HXxn := Lib.hid (((Grew.below hbn) _ (by simp; have := World.lt_of_get HXx.out; omega)).trans ((Below.heap_alloc _ _ _ (World.lt_of_get HXx.out)).trans HXx.out))
  have HXdn := Lib.hid (((Grew.below hbn) _ (by simp)).trans (alloc_newA' w3 #[.string at1, .int .i64 n] 44 (b := w3.heap.size) rfl))
  have hbw4 : Below W.heap.size W w4 := Below.then (hbw3.ofAlloc _) hbn
  clear DC hbn HXj HXx
  try clear cj0 cj1 lj cx0 cx1 lx cd0 cd1 ld
  have HXj := HXjn; clear HXjn
  have HXx := HXxn; clear HXxn
  have HXd := HXdn; clear HXdn
  have hz4 := hbw4.size
  obtain ⟨ft, hft⟩ : ∃ x, x = fallT kt kn kp := ⟨_, rfl⟩
  obtain ⟨fm, hfm⟩ : ∃ x, x = fallM kt kn kp := ⟨_, rfl⟩
  have HFT := Lib.hid hft; have HFM := Lib.hid hfm
  have C1 := fun w => impl_FallJournal kt kn kp w (by omega)
  have C2 := fun w => spec_FallJournal kt kn kp w (by omega)
  simp only [← hft, ← hfm] at C1 C2
  have HC1 := Lib.hid C1; have HC2 := Lib.hid C2; clear C1 C2 hft hfm
  have DC := Lib.hid (HC1.out (w4.alloc (.cells #[.string kt, .int .i64 kn] 44)))
  go_wp2_with fail
  (go_at_call 26; refine DC.out.mono ?_; rintro e w5 ⟨rfl, hbn⟩)
  have HXjn := Lib.hid (((Grew.below hbn) _ (by simp; have := World.lt_of_get HXj.out; omega)).trans ((Below.heap_alloc _ _ _ (World.lt_of_get HXj.out)).trans HXj.out))
  have HXxn := Lib.hid (((Grew.below hbn) _ (by simp; have := World.lt_of_get HXx.out; omega)).trans ((Below.heap_alloc _ _ _ (World.lt_of_get HXx.out)).trans HXx.out))
  have HXdn := Lib.hid (((Grew.below hbn) _ (by simp; have := World.lt_of_get HXd.out; omega)).trans ((Below.heap_alloc _ _ _ (World.lt_of_get HXd.out)).trans HXd.out))
  have HXkn := Lib.hid (((Grew.below hbn) _ (by simp)).trans (alloc_newA' w4 #[.string kt, .int .i64 kn] 44 (b := w4.heap.size) rfl))
  have hbw5 : Below W.heap.size W w5 := Below.then (hbw4.ofAlloc _) hbn
  clear DC hbn HXj HXx HXd
  try clear cj0 cj1 lj cx0 cx1 lx cd0 cd1 ld ck0 ck1 lk
  have HXj := HXjn; clear HXjn
  have HXx := HXxn; clear HXxn
  have HXd := HXdn; clear HXdn
  have HXk := HXkn; clear HXkn
  have hz5 := hbw5.size
  have eao : (ao1 != ao1) = false := by simp
  obtain ⟨jo, hjo⟩ : ∃ x, x = jOk t n := ⟨_, rfl⟩
  obtain ⟨fl, hfl⟩ : ∃ x, x = flN kt kn := ⟨_, rfl⟩
  have ejo : (jo != jo) = false := by simp
  have C3 := fun w => impl_JournalOk t n w
  have C4 := fun w => spec_JournalOk t n w
  have C5 := fun w => impl_Flush kt kn w
  have C6 := fun w => spec_Flush kt kn w
  simp only [← hjo, ← hfl] at C3 C4 C5 C6
  have HC3 := Lib.hid C3; have HC4 := Lib.hid C4; have HC5 := Lib.hid C5; have HC6 := Lib.hid C6; clear C3 C4 C5 C6 hjo hfl
  go_wp2
  refine opqC2 (fun W0 => Below (w5.alloc (.cells #[.string ft, .int .i64 fm] 44)).heap.size (w5.alloc (.cells #[.string ft, .int .i64 fm] 44)) W0) (Below.refl _ _) ?_
  rintro u6 hb6
  have hbu6 : Below W.heap.size W u6 := Below.then (hbw5.ofAlloc _) hb6
  have HXy := Lib.hid (((Grew.below hb6) _ (by simp)).trans (alloc_newA' w5 #[.string ft, .int .i64 fm] 44 (b := w5.heap.size) rfl))
  have HXj6 := Lib.hid (((Grew.below hb6) _ (by simp; have := World.lt_of_get HXj.out; omega)).trans ((Below.heap_alloc _ _ _ (World.lt_of_get HXj.out)).trans HXj.out)); clear HXj
  have HXj := HXj6; clear HXj6
  have HXx6 := Lib.hid (((Grew.below hb6) _ (by simp; have := World.lt_of_get HXx.out; omega)).trans ((Below.heap_alloc _ _ _ (World.lt_of_get HXx.out)).trans HXx.out)); clear HXx
  have HXx := HXx6; clear HXx6
  have HXd6 := Lib.hid (((Grew.below hb6) _ (by simp; have := World.lt_of_get HXd.out; omega)).trans ((Below.heap_alloc _ _ _ (World.lt_of_get HXd.out)).trans HXd.out)); clear HXd
  have HXd := HXd6; clear HXd6
  have HXk6 := Lib.hid (((Grew.below hb6) _ (by simp; have := World.lt_of_get HXk.out; omega)).trans ((Below.heap_alloc _ _ _ (World.lt_of_get HXk.out)).trans HXk.out)); clear HXk
  have HXk := HXk6; clear HXk6
  clear hb6 hbw5
  obtain ⟨cj0, cj1⟩ := jcells HXj.out
  have lj := World.lt_of_get HXj.out
  obtain ⟨cx0, cx1⟩ := jcells HXx.out
  have lx := World.lt_of_get HXx.out
  obtain ⟨cd0, cd1⟩ := jcells HXd.out
  have ld := World.lt_of_get HXd.out
  obtain ⟨ck0, ck1⟩ := jcells HXk.out
  have lk := World.lt_of_get HXk.out
  obtain ⟨cy0, cy1⟩ := jcells HXy.out
  have ly := World.lt_of_get HXy.out
  refine wp_region_ord [(0,true),(1,true),(2,true),(3,true),(4,true),(5,true),(6,true),(7,true),(8,true),(9,true),(10,true),(11,true),(12,false),(13,true),(14,true),(15,true),(16,true),(18,true),(17,false),(19,false),(20,true),(21,true),(22,true),(23,true),(25,true),(24,false),(26,false),(27,true),(28,true)] 29 (by kernel_rfl) (by kernel_rfl) ?_
  repeat (refine wpOrd_quiet rfl (fun K hK => ?_); go_simp; (try simp (disch := omega) only [IntWalk.i64_in]); refine hK _ ?_; clear hK K)
  refine wpOrd_grow rfl (fun K hK => ?_); go_simp; go_at_call 27; refine (HC2.out _).mono ?_; rintro e w' ⟨rfl, hb⟩; obtain ⟨X, rfl⟩ := hb.ext; clear hb; try go_simp; refine hK _ _ (by show Sx _ _; (try simp only [← Array.append_assoc]); repeat (first | with_reducible exact Sx.drew _ | with_reducible exact Sx.same _ _ _ _ | with_reducible exact ⟨_, rfl⟩ | with_reducible apply Sx.more | with_reducible apply Sx.ext | with_reducible apply Sx.alloc | with_reducible apply Sx.draw | with_reducible exact Sx.refl _)) ?_; clear hK K
  repeat (refine wpOrd_quiet rfl (fun K hK => ?_); go_simp; (try simp (disch := omega) only [IntWalk.i64_in]); refine hK _ ?_; clear hK K)
  refine wpOrd_grow rfl (fun K hK => ?_); go_simp; go_at_call 28; refine (HC3.out _).mono ?_; rintro e w' ⟨rfl, hb⟩; obtain ⟨X, rfl⟩ := hb.ext; clear hb; try go_simp; refine hK _ _ (by show Sx _ _; (try simp only [← Array.append_assoc]); repeat (first | with_reducible exact Sx.drew _ | with_reducible exact Sx.same _ _ _ _ | with_reducible exact ⟨_, rfl⟩ | with_reducible apply Sx.more | with_reducible apply Sx.ext | with_reducible apply Sx.alloc | with_reducible apply Sx.draw | with_reducible exact Sx.refl _)) ?_; clear hK K
  refine wpOrd_grow rfl (fun K hK => ?_); go_simp; go_at_call 29; refine (HC4.out _).mono ?_; rintro e w' ⟨rfl, hb⟩; obtain ⟨X, rfl⟩ := hb.ext; clear hb; try go_simp; refine hK _ _ (by show Sx _ _; (try simp only [← Array.append_assoc]); repeat (first | with_reducible exact Sx.drew _ | with_reducible exact Sx.same _ _ _ _ | with_reducible exact ⟨_, rfl⟩ | with_reducible apply Sx.more | with_reducible apply Sx.ext | with_reducible apply Sx.alloc | with_reducible apply Sx.draw | with_reducible exact Sx.refl _)) ?_; clear hK K
  repeat (refine wpOrd_quiet rfl (fun K hK => ?_); go_simp; (try simp (disch := omega) only [IntWalk.i64_in]); refine hK _ ?_; clear hK K)
  refine wpOrd_grow rfl (fun K hK => ?_); go_simp; go_at_call 30; refine (HC5.out _).mono ?_; rintro e w' ⟨rfl, hb⟩; obtain ⟨X, rfl⟩ := hb.ext; clear hb; try go_simp; refine hK _ _ (by show Sx _ _; (try simp only [← Array.append_assoc]); repeat (first | with_reducible exact Sx.drew _ | with_reducible exact Sx.same _ _ _ _ | with_reducible exact ⟨_, rfl⟩ | with_reducible apply Sx.more | with_reducible apply Sx.ext | with_reducible apply Sx.alloc | with_reducible apply Sx.draw | with_reducible exact Sx.refl _)) ?_; clear hK K
  refine wpOrd_grow rfl (fun K hK => ?_); go_simp; go_at_call 31; refine (HC6.out _).mono ?_; rintro e w' ⟨rfl, hb⟩; obtain ⟨X, rfl⟩ := hb.ext; clear hb; try go_simp; refine hK _ _ (by show Sx _ _; (try simp only [← Array.append_assoc]); repeat (first | with_reducible exact Sx.drew _ | with_reducible exact Sx.same _ _ _ _ | with_reducible exact ⟨_, rfl⟩ | with_reducible apply Sx.more | with_reducible apply Sx.ext | with_reducible apply Sx.alloc | with_reducible apply Sx.draw | with_reducible exact Sx.refl _)) ?_; clear hK K
  repeat (refine wpOrd_quiet rfl (fun K hK => ?_); go_simp; (try simp (disch := omega) only [IntWalk.i64_in]); refine hK _ ?_; clear hK K)
  refine wpOrd_nil ?_
  go_wp2_with fail
  refine opqJ (fun W0 => Below u6.heap.size u6 W0) (by show Below _ _ _; exact (by repeat (first | with_reducible exact Below.refl _ _ | with_reducible apply Below.ofExt | with_reducible apply Below.ofAlloc | with_reducible apply Below.drew | with_reducible apply Below.ofDrewN | with_reducible assumption | (with_reducible refine Below.setCell ?_ (by first | exact Nat.le_refl _ | (simp [go_sem]; done) | (simp [go_sem]; omega)) _)))) ?_
  as_aux_lemma =>
  rintro w6 hb6
  have hbw6 : Below W.heap.size W w6 := Below.then hbu6 hb6
  have HXk6 := Lib.hid (((Grew.below hb6) _ lk).trans HXk.out)
  have HXy6 := Lib.hid (((Grew.below hb6) _ ly).trans HXy.out)
  clear HXj HXx HXd HXk HXy HC1 HC2 HC3 HC4 HC5 HC6 hb6 cj0 cj1 lj cx0 cx1 lx cd0 cd1 ld ck0 ck1 lk cy0 cy1 ly hbu6
  have HXk := HXk6
  have HXy := HXy6
  clear HXy6
  have hz6 := hbw6.size
  clear HXk6
  have DC := Lib.hid (spec_DrawRecordsIn v bs w6 (Sl.below HS.out hbw6) hbl (fun b hb => by have := HB.out b hb; omega))
  (go_at_call 13; refine DC.out.mono ?_; rintro e w7 ⟨t2, fr, rfl, ht2, hfr, hbn⟩)
  have HXk7 := Lib.hid (((Grew.below hbn) _ (World.lt_of_get HXk.out)).trans HXk.out); clear HXk
  have HXy7 := Lib.hid (((Grew.below hbn) _ (World.lt_of_get HXy.out)).trans HXy.out); clear HXy
  have hbw7 := Below.then hbw6 hbn
  clear DC hbn
  have D1 := Lib.hid (impl_RecordsIn t2 fr w7 (HG.out.below hbw7) (by omega))
  go_wp2_with fail
  (go_at_call 8; refine D1.out.mono ?_; rintro e w8 ⟨va, sza, la, hsa, fpa, rfl, hoa, hra, hbn⟩)
  have HXk := Lib.hid (((Grew.below hbn) _ (World.lt_of_get HXk7.out)).trans HXk7.out); clear HXk7
  have HXy := Lib.hid (((Grew.below hbn) _ (World.lt_of_get HXy7.out)).trans HXy7.out); clear HXy7
  have hbw8 := Below.then hbw7 hbn
  obtain ⟨aa, ca, rfl⟩ := hoa.form
  have HA := Lib.hid hoa
  clear hoa D1 hbn
  have D2 := Lib.hid (spec_RecordsIn t2 fr w8 (by omega))
  go_wp2_with fail
  (go_at_call 7; refine D2.out.mono ?_; rintro e w9 ⟨vb, szb, lb, hsb, fpb, rfl, hob, hrb, hbn⟩)
  have HXk9 := Lib.hid (((Grew.below hbn) _ (World.lt_of_get HXk.out)).trans HXk.out); clear HXk
  have HXy9 := Lib.hid (((Grew.below hbn) _ (World.lt_of_get HXy.out)).trans HXy.out); clear HXy
  have hbw9 := Below.then hbw8 hbn
  rw [hra] at hrb
  injection hrb with hrb1 hrb2
  subst hrb1 hrb2
  obtain ⟨ab, cb, rfl⟩ := hob.form
  have HA9 := Lib.hid (HA.out.bel hbn)
  have HB9 := Lib.hid hob
  have hml : la.length ≤ 9223372036854775807 := by
    have := HB9.out.len
    obtain ⟨_, _, _, h1, h2, _⟩ := HB9.out.row.rd.shape
    unfold maxLen at h2
    omega
  clear hob D2 hbn HA hra
  have esz : (sza != sza) = false := by simp
  have eln : ((la.length : Int) != la.length) = false := by simp
  obtain ⟨q, hq⟩ : ∃ q, q = lastI t2 fr := ⟨_, rfl⟩
  have eq : (q != q) = false := by simp
  have D3 := impl_LastSeq t2 fr w9 (HG.out.below hbw9) (by omega)
  rw [← hq] at D3
  have D3 := Lib.hid D3
  have HQ := Lib.hid hq
  clear hq
  go_wp2_with fail
  (go_at_call 17; refine D3.out.mono ?_; rintro e w10 ⟨rfl, hbn⟩)
  have HXk := Lib.hid (((Grew.below hbn) _ (World.lt_of_get HXk9.out)).trans HXk9.out); clear HXk9
  have HXy := Lib.hid (((Grew.below hbn) _ (World.lt_of_get HXy9.out)).trans HXy9.out); clear HXy9
  have hbw10 := Below.then hbw9 hbn
  have HA10 := Lib.hid (HA9.out.bel hbn); clear HA9
  have HB10 := Lib.hid (HB9.out.bel hbn); clear HB9
  clear D3 hbn
  have D4 := spec_LastSeq t2 fr w10 (by omega)
  rw [← HQ.out] at D4
  have D4 := Lib.hid D4
  go_wp2_with fail
  (go_at_call 32; refine D4.out.mono ?_; rintro e w11 ⟨rfl, hbn⟩)
  have HXk11 := Lib.hid (((Grew.below hbn) _ (World.lt_of_get HXk.out)).trans HXk.out); clear HXk
  have HXy11 := Lib.hid (((Grew.below hbn) _ (World.lt_of_get HXy.out)).trans HXy.out); clear HXy
  have hbw11 := Below.then hbw10 hbn
  have HA11 := Lib.hid (HA10.out.bel hbn); clear HA10
  have HB11 := Lib.hid (HB10.out.bel hbn); clear HB10
  clear D4 hbn
  have D5 := Lib.hid (impl_LinesIn t2 w11 (HG.out.below hbw11).max (by omega))
  go_wp2_with fail
  (go_at_call 34; refine D5.out.mono ?_; rintro e w12 ⟨vl, xs, rfl, hol, hxl, hbn⟩)
  obtain rfl := linesB_eq hxl
  have HXk := Lib.hid (((Grew.below hbn) _ (World.lt_of_get HXk11.out)).trans HXk11.out); clear HXk11
  have HXy := Lib.hid (((Grew.below hbn) _ (World.lt_of_get HXy11.out)).trans HXy11.out); clear HXy11
  have hbw12 := Below.then hbw11 hbn
  have HA12 := Lib.hid (HA11.out.bel hbn); clear HA11
  have HB12 := Lib.hid (HB11.out.bel hbn); clear HB11
  obtain ⟨al, cl, rfl⟩ := hol.rd.form
  have HL12 := Lib.hid hol
  clear D5 hbn hol hxl
  have D6 := Lib.hid (spec_LinesIn t2 w12 (by omega))
  go_wp2_with fail
  (go_at_call 35; refine D6.out.mono ?_; rintro e w13 ⟨vl, xs, rfl, hol, hxl, hbn⟩)
  obtain rfl := linesB_eq hxl
  have HXk13 := Lib.hid (((Grew.below hbn) _ (World.lt_of_get HXk.out)).trans HXk.out); clear HXk
  have HXy13 := Lib.hid (((Grew.below hbn) _ (World.lt_of_get HXy.out)).trans HXy.out); clear HXy
  have hbw13 := Below.then hbw12 hbn
  have HA13 := Lib.hid (HA12.out.bel hbn); clear HA12
  have HB13 := Lib.hid (HB12.out.bel hbn); clear HB12
  obtain ⟨am, cm, rfl⟩ := hol.rd.form
  have D7 := Lib.hid (laws_sameTexts _ _ _ w13 (own_bel HL12.out hbn).rd hol.rd)
  clear D6 hbn hol hxl HL12
  go_wp2_with fail
  (go_at_call 33; refine D7.out.mono ?_; rintro e w14 ⟨rfl, hbn⟩)
  have HXk := Lib.hid (((Grew.below hbn) _ (World.lt_of_get HXk13.out)).trans HXk13.out); clear HXk13
  have HXy := Lib.hid (((Grew.below hbn) _ (World.lt_of_get HXy13.out)).trans HXy13.out); clear HXy13
  have hbw14 := Below.then hbw13 hbn
  have HA4 := Lib.hid (HA13.out.bel hbn); clear HA13
  have HB4 := Lib.hid (HB13.out.bel hbn); clear HB13
  clear D7 hbn hbw6 hbw7 hbw8 hbw9 hbw10 hbw11 hbw12 hbw13 hbw4 hbw3 hbw2 hbw1
  go_wp2
  go_loopw [2, 18] (fun _ i wr => ∃ (n : Nat), i = .int .i64 n ∧ n ≤ la.length ∧ Below w14.heap.size w14 wr) (fun _ i _ => la.length - (intOf i).toNat)
  case atStart => exact ⟨0, rfl, by omega, Below.refl _ _⟩
  case round =>
    obtain ⟨n1, rfl, hn1, hbel⟩ := hrel
    obtain ⟨X, rfl⟩ := hbel.ext
    by_cases hlt : (n1 : Int) < la.length
    · have hka : n1 < la.length := by omega
      obtain ⟨ba, offa, aoa, capa, acapa, ea, hbla, ya, ra⟩ := HA4.out.at hka
      obtain ⟨bb, offb, aob, capb, acapb, eb, hblb, yb, rb⟩ := HB4.out.at hka
      injection ea with ea1 ea2 ea3
      injection eb with eb1 eb2 eb3
      subst ea1 ea3 eb1 eb3
      have HRA := Lib.hid ra
      have HRB := Lib.hid rb
      generalize la[n1] = d at *
      clear ra rb ea2 eb2
      go_wp2
      refine wp_region_ord [(0,true),(1,true),(2,true),(3,true),(4,true),(5,true),(6,true),(7,true),(8,false),(9,true)] 10 (by kernel_rfl) (by kernel_rfl) ?_
      repeat (refine wpOrd_quiet rfl (fun K hK => ?_); go_simp; (try simp (disch := omega) only [IntWalk.i64_in]); refine hK _ ?_; clear hK K)
      refine wpOrd_grow rfl (fun K hK => ?_); go_simp; go_at_call 15; refine (laws_sameCellsC _ _ d _ (by repeat (first | with_reducible exact HRA.out | with_reducible apply RdL.ext | with_reducible apply RdL.alloc | with_reducible apply RdL.drew)) (by repeat (first | with_reducible exact HRB.out | with_reducible apply RdL.ext | with_reducible apply RdL.alloc | with_reducible apply RdL.drew))).mono ?_; rintro e w' ⟨rfl, hb⟩; obtain ⟨X, rfl⟩ := hb.ext; clear hb; try go_simp; refine hK _ _ (by show Sx _ _; (try simp only [← Array.append_assoc]); repeat (first | with_reducible exact Sx.drew _ | with_reducible exact Sx.same _ _ _ _ | with_reducible exact ⟨_, rfl⟩ | with_reducible apply Sx.more | with_reducible apply Sx.ext | with_reducible apply Sx.alloc | with_reducible apply Sx.draw | with_reducible exact Sx.refl _)) ?_; clear hK K
      repeat (refine wpOrd_quiet rfl (fun K hK => ?_); go_simp; (try simp (disch := omega) only [IntWalk.i64_in]); refine hK _ ?_; clear hK K)
      refine wpOrd_nil ?_
      go_wp2
      go_roundw
      case rel => exact ⟨n1 + 1, by go_num, by omega, (by repeat (first | with_reducible exact Below.refl _ _ | with_reducible apply Below.ofExt | with_reducible apply Below.ofAlloc | with_reducible apply Below.drew | with_reducible apply Below.ofDrewN | with_reducible assumption | (with_reducible refine Below.setCell ?_ (by first | exact Nat.le_refl _ | (simp [go_sem]; done) | (simp [go_sem]; omega)) _)))⟩
      case measure => simp [intOf]; omega
    · have hbw15 : Below W.heap.size W (w14.ext X) := Below.then hbw14 hbel
      have HXk15 := Lib.hid (((Grew.below hbel) _ (World.lt_of_get HXk.out)).trans HXk.out)
      have HXy15 := Lib.hid (((Grew.below hbel) _ (World.lt_of_get HXy.out)).trans HXy.out)
      clear HA4 HB4 HXk HXy
      generalize w14.ext X = w15 at *
      clear hbel hbw14
      obtain ⟨ck0, ck1⟩ := jcells HXk15.out
      obtain ⟨cy0, cy1⟩ := jcells HXy15.out
      have lk := World.lt_of_get HXk15.out
      have ly := World.lt_of_get HXy15.out
      have D8 := Lib.hid (spec_JournalOk kt kn w15)
      go_wp2_with fail
      (go_at_call 29; refine D8.out.mono ?_; rintro e w16 ⟨rfl, hbn⟩)
      have HXk := Lib.hid (((Grew.below hbn) _ lk).trans HXk15.out)
      have HXy := Lib.hid (((Grew.below hbn) _ ly).trans HXy15.out)
      have hbw16 := Below.then hbw15 hbn
      clear D8 hbn HXk15 HXy15 ck0 ck1 cy0 cy1 lk ly hbw15
      cases hjk : jOk kt kn with
      | false =>
        clear HXk HXy
        obtain ⟨cb, hcb⟩ : ∃ x : CellD, x = ⟨⟨#[97]⟩, ⟨#[98]⟩⟩ := ⟨_, rfl⟩
        have HCB := Lib.hid hcb
        have hne1 : (recText 1 [cb]).size ≠ 0 := by rw [hcb]; exact rec_one_ne (by omega) (by omega) (by decide) (by decide) (by decide)
        have hz1r := recText_size 1 [cb]
        have DA := spec_RecordText 1 (.slice (some ⟨w16.heap.size, 0, none⟩) 1 1) [cb] (w16.alloc (.cells #[.string ⟨#[97]⟩, .string ⟨#[98]⟩] 39)) (e := 39) (by rw [hcb]; exact rd_one1 vCell (cs := [.string ⟨#[97]⟩, .string ⟨#[98]⟩]) ⟨rfl, by constructor <;> decide⟩ (alloc_newA' w16 #[.string ⟨#[97]⟩, .string ⟨#[98]⟩] 39 (b := w16.heap.size) rfl)) (by simp)
        have hone := recs_one (cs := [cb]) (t := recText 1 [cb]) rfl hne1
        have hl1 : lastI (recText 1 [cb]) 1 = 1 := by unfold lastI; rw [hone]; show wrap64 (wrap64 (1 + ((1 : Nat) : Int)) - 1) = 1; decide +kernel
        have htwo := recs_two (fr := 1) (cs := [cb]) (ds := []) (a := recText 1 [cb]) (b := recText 2 []) (c := ⟨#[51, 32, 120]⟩) (by decide) rfl hne1 rfl (rec_nil_ne (by omega) (by omega)) (by decide)
        have hz2r := recText_size 2 []
        obtain ⟨one, hon⟩ : ∃ x, x = recText 1 [cb] := ⟨_, rfl⟩
        obtain ⟨two, htw⟩ : ∃ x, x = recText 2 [] := ⟨_, rfl⟩
        rw [← hon] at DA hl1 htwo hz1r
        rw [← htw] at htwo hz2r
        have DA := Lib.hid DA
        have HL1 := Lib.hid hl1
        have HTW := Lib.hid htw
        have hsz : (one ++ two ++ ⟨#[51, 32, 120]⟩ : ByteArray).size ≤ 1048576 := by
          rw [ByteArray.size_append, ByteArray.size_append]
          have : (⟨#[51, 32, 120]⟩ : ByteArray).size = 3 := rfl
          omega
        have HTWO := Lib.hid htwo
        have HSZ := Lib.hid hsz
        clear hcb hone hl1 hon htw htwo hsz hne1 HCB
        go_wp2_with fail
        (go_at_call 16; refine DA.out.mono ?_; rintro e z1 ⟨rfl, hbn⟩)
        have hbz1 : Below W.heap.size W z1 := Below.then (hbw16.ofAlloc _) hbn
        clear DA hbn
        have DB := spec_RecordText 2 (.slice none 0 0) [] z1 (lit_nil _) (by simp)
        rw [← HTW.out] at DB
        have DB := Lib.hid DB
        go_wp2_with fail
        (go_at_call 16; refine DB.out.mono ?_; rintro e z2 ⟨rfl, hbn⟩)
        have hbz2 : Below W.heap.size W z2 := Below.then hbz1 hbn
        clear DB hbn
        have DD := Lib.hid (impl_RecordsIn (one ++ two ++ ⟨#[51, 32, 120]⟩) 1 z2 (HG.out.below hbz2) HSZ.out)
        go_wp2_with fail
        (go_at_call 8; refine DD.out.mono ?_; rintro e z3 ⟨vc, szc, lc, hsc, fpc, rfl, hoc, hrc, hbn⟩)
        have hbz3 : Below W.heap.size W z3 := Below.then hbz2 hbn
        obtain ⟨ac, cc, rfl⟩ := hoc.form
        have hlc : lc = [[cb], []] := by
          have := HTWO.out
          rw [hrc] at this
          exact this
        subst hlc
        clear DD hbn hoc hrc
        have DE := impl_LastSeq one 1 z3 (HG.out.below hbz3) (by omega)
        rw [HL1.out] at DE
        have DE := Lib.hid DE
        go_wp2_with fail
        (go_at_call 17; refine DE.out.mono ?_; rintro e z4 ⟨rfl, hbn⟩)
        have hbz4 : Below W.heap.size W z4 := Below.then hbz3 hbn
        go_wp2
        go_ret
        exact ⟨rfl, hbz4⟩
      | true =>
        obtain ⟨⟨p0, p1⟩, p2, p3⟩ := fall_part (k := kp) hjk
        rw [← HFT.out] at p1 p2 p3
        have hp1 : ¬ ((ft.size : Int) < kn) := by omega
        have hp2 : ¬ ((kt.size : Int) < ft.size) := by omega
        have hp3 : (ft.size : Int) ≤ kt.size := by omega
        obtain ⟨ck0, ck1⟩ := jcells HXk.out
        obtain ⟨cy0, cy1⟩ := jcells HXy.out
        have lk := World.lt_of_get HXk.out
        have ly := World.lt_of_get HXy.out
        have HP3 := Lib.hid p3
        have hcut := cut_records kt 1 p2
        rw [p3] at hcut
        have HCUT := Lib.hid hcut.1.length_le
        have hx3 : (ft.toList == (kt.extract 0 ft.size).toList) = true := by rw [p3]; simp
        have hd1 : decide ((ft.size : Int) < kn) = false := decide_eq_false hp1
        have hd2 : decide (kt.size < ft.size) = false := decide_eq_false (by omega)
        have hd3 : ¬ kt.size < ft.size := by omega
        have hx2 : (ft.toList != (kt.extract 0 ft.size).toList) = false := by rw [p3]; simp
        clear hcut p3
        go_wp2
        go_quiet (fail)
        have E1 : Hid (∀ w, Calls Tryz.prog 7 #[.string kt, .int .i64 1] w (RsP kt 1 w)) := fun w => spec_RecordsIn kt 1 w (by omega)
        go_wp2_with fail
        (go_at_call 7; refine (E1.out _).mono ?_; rintro e w17 ⟨vp, szp, lp, hsp, fpp, rfl, hop, hrp, hbn0⟩)
        have hbn : Below w16.heap.size w16 w17 := Below.then (Below.ofDrewN (Below.refl _ _) _) hbn0
        clear hbn0
        have hbw17 := Below.then hbw16 hbn
        obtain ⟨ap, cp, rfl⟩ := hop.form
        have cz0 := (Grew.below hbn).cell cy0
        have lz := Nat.lt_of_lt_of_le ly hbn.size
        clear E1 hbn hop ck0 ck1 cy0 cy1 lk ly HXk HXy
        have E2 := Lib.hid (impl_RecordsIn ft 1 w17 (HG.out.below hbw17) (by omega))
        go_wp2_with fail
        (go_at_call 8; refine E2.out.mono ?_; rintro e w18 ⟨vr, szr, lr, hsr, fpr, rfl, hor, hrr, hbn⟩)
        have hbw18 := Below.then hbw17 hbn
        obtain ⟨ar, cr, rfl⟩ := hor.form
        have hlr : ¬ ((lp.length : Int) < lr.length) := by
          have := HCUT.out
          rw [hrp, hrr] at this
          have h2 : lr.length ≤ lp.length := this
          omega
        clear E2 hbn hor hrp hrr hbw16 hbw17 cz0 lz
        obtain ⟨cb, hcb⟩ : ∃ x : CellD, x = ⟨⟨#[97]⟩, ⟨#[98]⟩⟩ := ⟨_, rfl⟩
        have HCB := Lib.hid hcb
        have hne1 : (recText 1 [cb]).size ≠ 0 := by rw [hcb]; exact rec_one_ne (by omega) (by omega) (by decide) (by decide) (by decide)
        have hz1r := recText_size 1 [cb]
        have DA := spec_RecordText 1 (.slice (some ⟨w18.heap.size, 0, none⟩) 1 1) [cb] (w18.alloc (.cells #[.string ⟨#[97]⟩, .string ⟨#[98]⟩] 39)) (e := 39) (by rw [hcb]; exact rd_one1 vCell (cs := [.string ⟨#[97]⟩, .string ⟨#[98]⟩]) ⟨rfl, by constructor <;> decide⟩ (alloc_newA' w18 #[.string ⟨#[97]⟩, .string ⟨#[98]⟩] 39 (b := w18.heap.size) rfl)) (by simp)
        have hone := recs_one (cs := [cb]) (t := recText 1 [cb]) rfl hne1
        have hl1 : lastI (recText 1 [cb]) 1 = 1 := by unfold lastI; rw [hone]; show wrap64 (wrap64 (1 + ((1 : Nat) : Int)) - 1) = 1; decide +kernel
        have htwo := recs_two (fr := 1) (cs := [cb]) (ds := []) (a := recText 1 [cb]) (b := recText 2 []) (c := ⟨#[51, 32, 120]⟩) (by decide) rfl hne1 rfl (rec_nil_ne (by omega) (by omega)) (by decide)
        have hz2r := recText_size 2 []
        obtain ⟨one, hon⟩ : ∃ x, x = recText 1 [cb] := ⟨_, rfl⟩
        obtain ⟨two, htw⟩ : ∃ x, x = recText 2 [] := ⟨_, rfl⟩
        rw [← hon] at DA hl1 htwo hz1r
        rw [← htw] at htwo hz2r
        have DA := Lib.hid DA
        have HL1 := Lib.hid hl1
        have HTW := Lib.hid htw
        have hsz : (one ++ two ++ ⟨#[51, 32, 120]⟩ : ByteArray).size ≤ 1048576 := by
          rw [ByteArray.size_append, ByteArray.size_append]
          have : (⟨#[51, 32, 120]⟩ : ByteArray).size = 3 := rfl
          omega
        have HTWO := Lib.hid htwo
        have HSZ := Lib.hid hsz
        clear hcb hone hl1 hon htw htwo hsz hne1 HCB
        go_wp2_with fail
        (go_at_call 16; refine DA.out.mono ?_; rintro e z1 ⟨rfl, hbn⟩)
        have hbz1 : Below W.heap.size W z1 := Below.then (hbw18.ofAlloc _) hbn
        clear DA hbn
        have DB := spec_RecordText 2 (.slice none 0 0) [] z1 (lit_nil _) (by simp)
        rw [← HTW.out] at DB
        have DB := Lib.hid DB
        go_wp2_with fail
        (go_at_call 16; refine DB.out.mono ?_; rintro e z2 ⟨rfl, hbn⟩)
        have hbz2 : Below W.heap.size W z2 := Below.then hbz1 hbn
        clear DB hbn
        have DD := Lib.hid (impl_RecordsIn (one ++ two ++ ⟨#[51, 32, 120]⟩) 1 z2 (HG.out.below hbz2) HSZ.out)
        go_wp2_with fail
        (go_at_call 8; refine DD.out.mono ?_; rintro e z3 ⟨vc, szc, lc, hsc, fpc, rfl, hoc, hrc, hbn⟩)
        have hbz3 : Below W.heap.size W z3 := Below.then hbz2 hbn
        obtain ⟨ac, cc, rfl⟩ := hoc.form
        have hlc : lc = [[cb], []] := by
          have := HTWO.out
          rw [hrc] at this
          exact this
        subst hlc
        clear DD hbn hoc hrc
        have DE := impl_LastSeq one 1 z3 (HG.out.below hbz3) (by omega)
        rw [HL1.out] at DE
        have DE := Lib.hid DE
        go_wp2_with fail
        (go_at_call 17; refine DE.out.mono ?_; rintro e z4 ⟨rfl, hbn⟩)
        have hbz4 : Below W.heap.size W z4 := Below.then hbz3 hbn
        go_wp2
        go_ret
        exact ⟨rfl, hbz4⟩

end Go.Proofs.YtedgenmbdjadkaaGreatDoor
namespace Go.Proofs.YtedgenmbdjadkaaGreatDoor
open Go.ChangeShapes Go.WideShapes Go.ChangeAt Go.RowKit

theorem okWide_slice_has {P : Program} {W : World} {base : Nat} {t e : TypeId} {a : Addr} {len cap : Nat} (ht : P.underlying t = some (.slice e)) (h : Value.okWide P W .any base t (.slice (some a) len cap)) :
    a.spot = none ∧ a.block < W.heap.size ∧ len ≤ cap ∧ cap ≤ maxLen := by
  unfold Value.okWide at h
  rw [ht] at h
  unfold Cell.okWide at h
  rw [ht] at h
  unfold Cell.ok at h
  rw [ht] at h
  obtain ⟨h1, h2, _, h3, row, cells, h4, _⟩ := h
  refine ⟨h3, ?_, h1, ?_⟩
  · unfold World.shape? at h4
    rcases Nat.lt_or_ge a.block W.heap.size with h | h
    · exact h
    · rw [Array.getElem?_eq_none h] at h4
      cases h4
  · have : IntKind.i64.max = 9223372036854775807 := by decide
    unfold maxLen
    omega
theorem open_bytes {H : Type} {enc : TypeId × Value → H} {P : Program} {W : World} {base : Nat} {t e : TypeId} {v : Value} {d : DataW H} {p : List MemPlace} (ht : P.underlying t = some (.slice e)) (he : P.underlying e = some (.int .u8)) (hc : P.cellsOf e = 1)
    (hv : Value.okWide P W .any base t v) (h : DataW.Trod enc P W 0 (fun _ => true) true t v d p) : ∃ bs : List UInt8, Sl W v bs.length (bytesOf bs) ∧ ∀ b, v.ownBlock = some b → b < W.heap.size := by
  obtain ⟨ao, len, cap, rfl⟩ := okWide_slice ht hv
  obtain ⟨fuel, hf⟩ := h
  rcases open_ints ht he hc hf with ⟨h1, _⟩ | ⟨a, len', cap', zs, h1, _, h2, h3, h4, _, h5, h6⟩
  · simp only [Value.cells, List.cons.injEq, and_true, Value.slice.injEq] at h1
    obtain ⟨rfl, rfl, rfl⟩ := h1
    exact ⟨[], .inl ⟨rfl, rfl, rfl⟩, fun b hb => by simp [Value.ownBlock] at hb⟩
  · simp only [Value.cells, List.cons.injEq, and_true, Value.slice.injEq] at h1
    obtain ⟨rfl, rfl, rfl⟩ := h1
    obtain ⟨g1, g2, _, _⟩ := okWide_slice_has ht hv
    obtain ⟨b, off, sp⟩ := a
    simp only at g1 g2
    subst g1
    simp only [if_true] at h4
    have hl : ((zs.take len).map fun n => UInt8.ofNat n.toNat).length = len := by simp; omega
    refine ⟨(zs.take len).map fun n => UInt8.ofNat n.toNat, .inr ⟨b, off, cap, by rw [hl], by omega, h3, fun j u hj => ?_⟩, fun k hk => by simp [Value.ownBlock] at hk; omega⟩
    have hjl : j < len := by
      have := (List.getElem?_eq_some_iff.1 hj).1
      simp [bytesOf] at this
      omega
    have hz : j < zs.length := by omega
    have := h5 j hz
    have ea : (Addr.add ⟨b, off, none⟩ j) = ⟨b, off + j, none⟩ := by
      unfold Addr.add
      split
      · next h => subst h; rfl
      · rfl
    rw [ea] at this
    rw [this]
    simp only [bytesOf, List.map_map, List.getElem?_map, List.getElem?_take, hjl, if_true, List.getElem?_eq_getElem hz, Option.map_some, Option.some.injEq, Function.comp] at hj
    rw [← hj, List.getD_eq_getElem?_getD, List.getElem?_eq_getElem hz]
    have hr := bounds_u8 (h6 zs[j] (List.getElem_mem hz))
    simp only [Option.getD_some, Option.some.injEq, Value.int.injEq, true_and]
    have : (UInt8.ofNat zs[j].toNat).toNat = zs[j].toNat := by simp [UInt8.toNat_ofNat']; omega
    rw [this]
    omega
end Go.Proofs.YtedgenmbdjadkaaGreatDoor
