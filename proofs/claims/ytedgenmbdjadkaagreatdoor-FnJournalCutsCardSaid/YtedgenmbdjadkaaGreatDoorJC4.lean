/- Texts of this claim, merged: the laws of the walks and what they stand on. Each condition stands in its theorem. -/
import Derived.Test.YtedgenmbdjadkaaGreatDoorJC3
import Derived.ChangeSlices
set_option linter.unusedVariables false
set_option linter.unusedSimpArgs false
namespace Go.Proofs.YtedgenmbdjadkaaGreatDoor
open Go.ChangeShapes Go.WideShapes Go.ChangeAt Go.RowKit

theorem int_at {w : World} {B : Nat} {ao : Option Addr} {n cap : Nat} {xs : List Int} {e : TypeId} (h : OwnL rInt e w B (.slice ao n cap) xs) {i : Nat} (hi : i < xs.length) : n = xs.length ∧ ∃ b off, ao = some ⟨b, off, none⟩ ∧ b < w.heap.size ∧ w.cell? ⟨b, off + i, none⟩ = some (.int .i64 xs[i]) := by
  obtain ⟨ao', cap', hv, h1, h2, h3, h4⟩ := h.rd.shapeI
  cases hv
  obtain ⟨b, off, e1, e2, e3⟩ := h4 (by intro e; rw [e] at hi; simp at hi)
  exact ⟨rfl, b, off, e1, e2, e3 i hi⟩
theorem lit_nil (w : World) : (vSlice vCell 39).rd w [.slice none 0 0] [] := View.toRd _ (.inl ⟨rfl, rfl, rfl⟩ : (vSlice vCell 39).own w [] [.slice none 0 0] [])
set_option maxRecDepth 100000 in
set_option maxHeartbeats 8000000 in
theorem law_FnJournalCuts (v : Value) (bs : List UInt8) (W : World) (hs : Sl W v bs.length (bytesOf bs)) (hb : ∀ b, v.ownBlock = some b → b < W.heap.size) (hg : Glob W) : Calls Tryz.prog 4 #[v] W (Yes W) := by
  have HS := Lib.hid hs
  have HB := Lib.hid hb
  have HG := Lib.hid hg
  clear hg
  unfold Yes
  by_cases hbig : 1048576 < bs.length
  · go_enter Tryz.func4, Tryz.ntmps4
    go_wp2_with fail
    (go_at_call 12; refine (laws_big v bs.length _ _ hs).mono ?_; rintro e w' ⟨rfl, rfl⟩)
    go_wp2
    go_ret
    exact ⟨rfl, (by repeat (first | with_reducible exact Below.refl _ _ | with_reducible apply Below.ofExt | with_reducible apply Below.ofAlloc | with_reducible apply Below.drew | with_reducible apply Below.ofDrewN | with_reducible assumption | (with_reducible refine Below.setCell ?_ (by first | exact Nat.le_refl _ | (simp [go_sem]; done) | (simp [go_sem]; omega)) _)))⟩
  clear hs hb
  go_enter Tryz.func4, Tryz.ntmps4
  go_wp2_with fail
  (go_at_call 12; refine (laws_big v bs.length _ _ HS.out).mono ?_; rintro e w' ⟨rfl, rfl⟩)
  go_wp2_with fail
  (go_at_call 13; refine (spec_DrawRecordsIn v bs _ HS.out (by omega) HB.out).mono ?_; rintro e w1 ⟨t, fr, rfl, ht, hfr, hb1⟩)
  have hz1 := hb1.size
  have DP := Lib.hid (spec_DrawPlaces v bs w1 (Sl.below HS.out hb1) (by omega) (fun b hb => by have := HB.out b hb; omega))
  go_wp2_with fail
  (go_at_call 14; refine DP.out.mono ?_; rintro e w2 ⟨vp, rfl, ps, hop, hlp, hsp, hb2⟩)
  have hb02 : Below W.heap.size W w2 := Below.then hb1 hb2
  obtain ⟨pa, pc, rfl⟩ := hop.rd.form
  obtain ⟨_, pb, po, rfl, hpl, y0⟩ := int_at hop (i := 0) (by omega)
  have hp0 := hsp _ (List.getElem_mem (show 0 < ps.length by omega))
  generalize ps[0] = p0 at *
  rw [Nat.add_zero] at y0
  clear hop DP hb1 hb2 hsp
  obtain ⟨k, hk⟩ : ∃ k : Nat, k = (p0 % ((t.size : Int) + 1)).toNat := ⟨_, rfl⟩
  have hkl : k ≤ t.size := by
    have a := Int.emod_nonneg p0 (b := (t.size : Int) + 1) (by omega)
    have b := Int.emod_lt_of_pos p0 (b := (t.size : Int) + 1) (by omega)
    omega
  have htm : p0.tmod ((t.size : Int) + 1) = (k : Int) := by
    have a := Int.emod_nonneg p0 (b := (t.size : Int) + 1) (by omega)
    rw [Int.tmod_eq_emod_of_nonneg hp0.1]
    omega
  have hkl2 : (k : Int) ≤ t.size := by omega
  clear hk
  have D1 := Lib.hid (impl_RecordsIn t fr w2 (HG.out.below hb02) (by omega))
  go_wp2_with fail
  (go_at_call 8; refine D1.out.mono ?_; rintro e w3 ⟨va, sza, la, hsa, fpa, rfl, hoa, hra, hb3⟩)
  have hb03 : Below W.heap.size W w3 := Below.then hb02 hb3
  obtain ⟨aa, ca, rfl⟩ := hoa.form
  have HA := Lib.hid hoa
  clear hoa D1 hb3 y0 hpl
  have D2 := Lib.hid (impl_RecordsIn (t.extract 0 k) fr w3 (HG.out.below hb03) (by rw [ByteArray.size_extract]; omega))
  go_wp2_with fail
  (go_at_call 8; refine D2.out.mono ?_; rintro e w4 ⟨vb, szb, lb, hsb, fpb, rfl, hob, hrb, hb4⟩)
  have hb04 : Below W.heap.size W w4 := Below.then hb03 hb4
  obtain ⟨ab, cb, rfl⟩ := hob.form
  have HA4 := Lib.hid (HA.out.bel hb4)
  have HB4 := Lib.hid hob
  have hcut := cut_records t fr hkl
  rw [hra, hrb] at hcut
  dsimp only at hcut
  obtain ⟨hpre, hszk⟩ := hcut
  have hlen := hpre.length_le
  have HPRE := Lib.hid hpre
  have hle : ¬ ((la.length : Int) < lb.length) := by omega
  have hle2 : ¬ ((k : Int) < szb) := by omega
  have hd1 : decide (la.length < lb.length) = false := decide_eq_false (by omega)
  have hd2 : decide ((k : Int) < szb) = false := decide_eq_false hle2
  have hml : lb.length ≤ 9223372036854775807 := by
    have := HB4.out.len
    obtain ⟨_, _, _, h1, h2, _⟩ := HB4.out.row.rd.shape
    unfold maxLen at h2
    omega
  clear hob D2 hb4 HA hra hrb hpre hb03 hb02
  go_wp2
  go_loopw [2, 11] (fun _ i wr => ∃ (n : Nat), i = .int .i64 n ∧ n ≤ lb.length ∧ Below w4.heap.size w4 wr) (fun _ i _ => lb.length - (intOf i).toNat)
  case atStart => exact ⟨0, rfl, by omega, Below.refl _ _⟩
  case round =>
    obtain ⟨n, rfl, hn, hbel⟩ := hrel
    obtain ⟨X, rfl⟩ := hbel.ext
    by_cases hlt : (n : Int) < lb.length
    · have hkb : n < lb.length := by omega
      have hka : n < la.length := by omega
      obtain ⟨ba, offa, aoa, capa, acapa, ea, hbla, ya, ra⟩ := HA4.out.at hka
      obtain ⟨bb, offb, aob, capb, acapb, eb, hblb, yb, rb⟩ := HB4.out.at hkb
      have hee : lb[n] = la[n] := by
        obtain ⟨tl, htl⟩ := HPRE.out
        subst htl
        rw [List.getElem_append_left hkb]
      rw [hee] at yb rb
      injection ea with ea1 ea2 ea3
      injection eb with eb1 eb2 eb3
      subst ea1 ea3 eb1 eb3
      have HRA := Lib.hid ra
      have HRB := Lib.hid rb
      generalize la[n] = d at *
      clear ra rb hee ea2 eb2
      go_wp2
      refine wp_region_ord [(0,true),(1,true),(2,true),(3,true),(4,true),(5,true),(6,true),(7,true),(8,false),(9,true)] 10 (by kernel_rfl) (by kernel_rfl) ?_
      repeat (refine wpOrd_quiet rfl (fun K hK => ?_); go_simp; (try simp (disch := omega) only [IntWalk.i64_in]); refine hK _ ?_; clear hK K)
      refine wpOrd_grow rfl (fun K hK => ?_); go_simp; go_at_call 15; refine (laws_sameCellsC _ _ d _ (by repeat (first | with_reducible exact HRB.out | with_reducible apply RdL.ext | with_reducible apply RdL.alloc | with_reducible apply RdL.drew)) (by repeat (first | with_reducible exact HRA.out | with_reducible apply RdL.ext | with_reducible apply RdL.alloc | with_reducible apply RdL.drew))).mono ?_; rintro e w' ⟨rfl, hb⟩; obtain ⟨X, rfl⟩ := hb.ext; clear hb; try go_simp; refine hK _ _ (by show Sx _ _; (try simp only [← Array.append_assoc]); repeat (first | with_reducible exact Sx.drew _ | with_reducible exact Sx.same _ _ _ _ | with_reducible exact ⟨_, rfl⟩ | with_reducible apply Sx.more | with_reducible apply Sx.ext | with_reducible apply Sx.alloc | with_reducible apply Sx.draw | with_reducible exact Sx.refl _)) ?_; clear hK K
      repeat (refine wpOrd_quiet rfl (fun K hK => ?_); go_simp; (try simp (disch := omega) only [IntWalk.i64_in]); refine hK _ ?_; clear hK K)
      refine wpOrd_nil ?_
      go_wp2
      go_roundw
      case rel => exact ⟨n + 1, by go_num, by omega, (by repeat (first | with_reducible exact Below.refl _ _ | with_reducible apply Below.ofExt | with_reducible apply Below.ofAlloc | with_reducible apply Below.drew | with_reducible apply Below.ofDrewN | with_reducible assumption | (with_reducible refine Below.setCell ?_ (by first | exact Nat.le_refl _ | (simp [go_sem]; done) | (simp [go_sem]; omega)) _)))⟩
      case measure => simp [intOf]; omega
    · have hb05 : Below W.heap.size W (w4.ext X) := Below.then hb04 hbel
      generalize w4.ext X = w5 at *
      clear HA4 HB4 HPRE hbel hb04
      have D5 := Lib.hid (spec_RecordText 1 (.slice none 0 0) [] w5 (lit_nil _) (by simp))
      go_wp2_with fail
      (go_at_call 16; refine D5.out.mono ?_; rintro e w6 ⟨rfl, hb6⟩)
      have hb06 : Below W.heap.size W w6 := Below.then hb05 hb6
      have hr1 := recs_one (cs := []) (t := recText 1 []) rfl rec1_nil
      have hl1 : lastI (recText 1 []) 1 = 1 := by unfold lastI; rw [hr1]; show wrap64 (wrap64 (1 + ((1 : Nat) : Int)) - 1) = 1; decide +kernel
      have hz6 := recText_size 1 []
      have HR1 := Lib.hid hr1
      have HL1 := Lib.hid hl1
      generalize recText 1 [] = one at *
      clear hr1 hl1 D5 hb6 hb05
      have D6 := Lib.hid (impl_RecordsIn one 1 w6 (HG.out.below hb06) (by omega))
      go_wp2_with fail
      (go_at_call 8; refine D6.out.mono ?_; rintro e w7 ⟨vc, szc, lc, hsc, fpc, rfl, hoc, hrc, hb7⟩)
      have hb07 : Below W.heap.size W w7 := Below.then hb06 hb7
      obtain ⟨ac, cc, rfl⟩ := hoc.form
      rw [HR1.out] at hrc
      injection hrc with hrc1 hrc2
      subst hrc1
      clear hoc D6 hb7 hb06
      have D7 := impl_LastSeq one 1 w7 (HG.out.below hb07) (by omega)
      rw [HL1.out] at D7
      have D7 := Lib.hid D7
      go_wp2_with fail
      (go_at_call 17; refine D7.out.mono ?_; rintro e w8 ⟨rfl, hb8⟩)
      have hb08 : Below W.heap.size W w8 := Below.then hb07 hb8
      go_wp2
      go_ret
      exact ⟨rfl, hb08⟩
end Go.Proofs.YtedgenmbdjadkaaGreatDoor
namespace Go.Proofs.YtedgenmbdjadkaaGreatDoor
open Go.ChangeShapes Go.WideShapes Go.ChangeAt Go.RowKit

theorem okWide_slice_has {P : Program} {W : World} {base : Nat} {t e : TypeId} {a : Addr} {len cap : Nat} (ht : P.underlying t = some (.slice e)) (h : Value.okWide P W .any base t (.slice (some a) len cap)) :
    a.spot = none ∧ a.block < W.heap.size ∧ len ≤ cap ∧ cap ≤ maxLen := by
  unfold Value.okWide at h
  rw [ht] at h
  unfold Cell.okWide at h
  rw [ht] at h
  unfold Cell.ok at h
  rw [ht] at h
  obtain ⟨h1, h2, _, h3, row, cells, h4, _⟩ := h
  refine ⟨h3, ?_, h1, ?_⟩
  · unfold World.shape? at h4
    rcases Nat.lt_or_ge a.block W.heap.size with h | h
    · exact h
    · rw [Array.getElem?_eq_none h] at h4
      cases h4
  · have : IntKind.i64.max = 9223372036854775807 := by decide
    unfold maxLen
    omega
theorem open_bytes {H : Type} {enc : TypeId × Value → H} {P : Program} {W : World} {base : Nat} {t e : TypeId} {v : Value} {d : DataW H} {p : List MemPlace} (ht : P.underlying t = some (.slice e)) (he : P.underlying e = some (.int .u8)) (hc : P.cellsOf e = 1)
    (hv : Value.okWide P W .any base t v) (h : DataW.Trod enc P W 0 (fun _ => true) true t v d p) : ∃ bs : List UInt8, Sl W v bs.length (bytesOf bs) ∧ ∀ b, v.ownBlock = some b → b < W.heap.size := by
  obtain ⟨ao, len, cap, rfl⟩ := okWide_slice ht hv
  obtain ⟨fuel, hf⟩ := h
  rcases open_ints ht he hc hf with ⟨h1, _⟩ | ⟨a, len', cap', zs, h1, _, h2, h3, h4, _, h5, h6⟩
  · simp only [Value.cells, List.cons.injEq, and_true, Value.slice.injEq] at h1
    obtain ⟨rfl, rfl, rfl⟩ := h1
    exact ⟨[], .inl ⟨rfl, rfl, rfl⟩, fun b hb => by simp [Value.ownBlock] at hb⟩
  · simp only [Value.cells, List.cons.injEq, and_true, Value.slice.injEq] at h1
    obtain ⟨rfl, rfl, rfl⟩ := h1
    obtain ⟨g1, g2, _, _⟩ := okWide_slice_has ht hv
    obtain ⟨b, off, sp⟩ := a
    simp only at g1 g2
    subst g1
    simp only [if_true] at h4
    have hl : ((zs.take len).map fun n => UInt8.ofNat n.toNat).length = len := by simp; omega
    refine ⟨(zs.take len).map fun n => UInt8.ofNat n.toNat, .inr ⟨b, off, cap, by rw [hl], by omega, h3, fun j u hj => ?_⟩, fun k hk => by simp [Value.ownBlock] at hk; omega⟩
    have hjl : j < len := by
      have := (List.getElem?_eq_some_iff.1 hj).1
      simp [bytesOf] at this
      omega
    have hz : j < zs.length := by omega
    have := h5 j hz
    have ea : (Addr.add ⟨b, off, none⟩ j) = ⟨b, off + j, none⟩ := by
      unfold Addr.add
      split
      · next h => subst h; rfl
      · rfl
    rw [ea] at this
    rw [this]
    simp only [bytesOf, List.map_map, List.getElem?_map, List.getElem?_take, hjl, if_true, List.getElem?_eq_getElem hz, Option.map_some, Option.some.injEq, Function.comp] at hj
    rw [← hj, List.getD_eq_getElem?_getD, List.getElem?_eq_getElem hz]
    have hr := bounds_u8 (h6 zs[j] (List.getElem_mem hz))
    simp only [Option.getD_some, Option.some.injEq, Value.int.injEq, true_and]
    have : (UInt8.ofNat zs[j].toNat).toNat = zs[j].toNat := by simp [UInt8.toNat_ofNat']; omega
    rw [this]
    omega
end Go.Proofs.YtedgenmbdjadkaaGreatDoor
