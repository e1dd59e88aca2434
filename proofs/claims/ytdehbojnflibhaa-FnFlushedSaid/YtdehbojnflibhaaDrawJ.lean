/- Drawn journals: how long they are. Each condition stands in its theorem. -/
import Derived.Test.YtdehbojnflibhaaDrawD
import Derived.Test.YtdehbojnflibhaaOrdP
import Derived.Test.YtdehbojnflibhaaRec
import Derived.Test.YtdehbojnflibhaaFall
set_option linter.unusedVariables false
set_option linter.unusedSimpArgs false
namespace Go.Proofs.Ytdehbojnflibhaa
open Go.ChangeShapes Go.WideShapes Go.ChangeAt Go.RowKit
def jObj (t : ByteArray) (n : Int) : Obj := .cells #[.string t, .int .i64 n] 25 (0, 0)
/-- the cursor has gone on, and two journals lie at the first two new blocks -/
def JW (p : Nat) (vb : Value) (bs : List UInt8) (w : World) (t0 : ByteArray) (n0 : Int) (t : ByteArray) (n : Int) (w' : World) : Prop :=
  ∃ i' h', Got p w (curObj vb i' h') w' ∧ 0 ≤ i' ∧ i' ≤ bs.length ∧ w'.heap[w.heap.size]? = some (jObj t0 n0) ∧ w'.heap[w.heap.size + 1]? = some (jObj t n)
section
variable {p : Nat} {vb : Value} {bs : List UInt8} {w w1 w2 : World} {t0 t : ByteArray} {n0 n : Int}
theorem JW.drew (h : JW p vb bs w t0 n0 t n w1) : JW p vb bs w t0 n0 t n w1.drew := by
  obtain ⟨i, h', a, b, c, d, e⟩ := h
  exact ⟨i, h', by obtain ⟨X, rfl⟩ := a; exact ⟨⟨X.bs, X.dr + 1⟩, by unfold World.ext World.drew; rfl⟩, b, c, d, e⟩
theorem JW.draw {i' h' : Int} (h : JW p vb bs w t0 n0 t n w1) (g : Got p w1 (curObj vb i' h') w2) (h0 : 0 ≤ i') (h1 : i' ≤ bs.length) (hp : p < w.heap.size) : JW p vb bs w t0 n0 t n w2 := by
  obtain ⟨i, hh, a, b, c, d, e⟩ := h
  exact ⟨i', h', a.then g hp, h0, h1, (g.other (World.lt_of_get d) (by omega)).trans d, (g.other (World.lt_of_get e) (by omega)).trans e⟩
theorem JW.below (h : JW p vb bs w t0 n0 t n w1) (g : Below w1.heap.size w1 w2) : JW p vb bs w t0 n0 t n w2 := by
  obtain ⟨i, hh, a, b, c, d, e⟩ := h
  exact ⟨i, hh, a.ofBelow g, b, c, (g.block _ (World.lt_of_get d)).trans d, (g.block _ (World.lt_of_get e)).trans e⟩
theorem JW.set (h : JW p vb bs w t0 n0 t n w1) (t' : ByteArray) (n' : Int) : JW p vb bs w t0 n0 t' n' (w1.setB (w.heap.size + 1) (jObj t' n')) := by
  obtain ⟨i, hh, a, b, c, d, e⟩ := h
  exact ⟨i, hh, a.past (by omega) _, b, c, by rw [World.setB_get _ _ _ _ (by omega)]; exact d, World.setB_at _ _ _ (World.lt_of_get e)⟩
theorem JW.set0 (h : JW p vb bs w t0 n0 t n w1) (t' : ByteArray) (n' : Int) : JW p vb bs w t' n' t n (w1.setB w.heap.size (jObj t' n')) := by
  obtain ⟨i, hh, a, b, c, d, e⟩ := h
  exact ⟨i, hh, a.past (by omega) _, b, c, World.setB_at _ _ _ (World.lt_of_get d), by rw [World.setB_get _ _ _ _ (by omega)]; exact e⟩
theorem JW.self (h : JW p vb bs w t0 n0 t n w1) : w1.setB (w.heap.size + 1) (jObj t n) = w1 := by
  obtain ⟨i, hh, a, b, c, d, e⟩ := h
  exact World.setB_self e
theorem JW.self0 (h : JW p vb bs w t0 n0 t n w1) : w1.setB w.heap.size (jObj t0 n0) = w1 := by
  obtain ⟨i, hh, a, b, c, d, e⟩ := h
  exact World.setB_self d
theorem JW.got (h : JW p vb bs w t0 n0 t n w1) : ∃ i' h', Got p w (curObj vb i' h') w1 ∧ 0 ≤ i' ∧ i' ≤ bs.length := by
  obtain ⟨i, hh, a, b, c, d, e⟩ := h
  exact ⟨i, hh, a, b, c⟩
theorem JW.at1 (h : JW p vb bs w t0 n0 t n w1) : w1.heap[w.heap.size + 1]? = some (jObj t n) := by
  obtain ⟨i, hh, a, b, c, d, e⟩ := h
  exact e
theorem JW.cur {i h : Int} (h2 : JW p vb bs w t0 n0 t n w1) (hc : Cur w p vb bs i h) : ∃ i' h', Cur w1 p vb bs i' h' := by
  obtain ⟨i', h', a, b, c⟩ := h2.got
  exact ⟨i', h', hc.got a b c⟩
theorem JW.cell0 (h : JW p vb bs w t0 n0 t n w1) : w1.cell? ⟨w.heap.size + 1, 0, none⟩ = some (.string t) := by rw [World.cell?_of_get h.at1]; rfl
theorem JW.cell1 (h : JW p vb bs w t0 n0 t n w1) : w1.cell? ⟨w.heap.size + 1, 1, none⟩ = some (.int .i64 n) := by rw [World.cell?_of_get h.at1]; rfl
end
theorem JW.start {p : Nat} {vb : Value} {bs : List UInt8} {i h : Int} {w : World} (hc : Cur w p vb bs i h) (t0 t : ByteArray) (n0 n : Int) : JW p vb bs w t0 n0 t n ((w.alloc (jObj t0 n0)).alloc (jObj t n)) := by
  refine ⟨i, h, ((Got.self hc.blk).alloc _).alloc _, hc.lo, hc.hi, ?_, ?_⟩
  · show ((w.heap.push _).push _)[w.heap.size]? = _
    rw [Array.getElem?_push, if_neg (by simp), Array.getElem?_push, if_pos rfl]
  · show ((w.heap.push _).push _)[w.heap.size + 1]? = _
    rw [Array.getElem?_push, if_pos (by simp)]
theorem adT_size {t : ByteArray} {n : Int} {s : ByteArray} (h : t.size ≤ 20001) : (adT t n s).size ≤ 20001 := by
  unfold adT
  split
  · rename_i h2
    unfold atJ at h2
    simp at h2
    rw [ByteArray.size_append]
    omega
  · exact h
theorem cells_rd {w : World} {B : Nat} {v : Value} {xs : List CellD} (h : OwnL rCell 56 w B v xs) (hs : ∀ x ∈ xs, SmallC x) : (vSlice vCell 56).rd w [v] xs := by
  obtain ⟨fp, ho, _⟩ := own_of_cells h (fun d hd => by have := hs d hd; unfold SmallC at this; exact ⟨by omega, by omega⟩)
  exact View.toRd _ ho
def PickJ : List ByteArray := [⟨#[51, 32, 54, 49, 61]⟩, ⟨#[120, 10]⟩, ⟨#[10]⟩]
theorem pickJ_small : ∀ s ∈ PickJ, s.size ≤ 5 := by decide
def DrawnJ (p : Nat) (vb : Value) (bs : List UInt8) (w : World) (t : ByteArray) (w' : World) : Prop := t.size ≤ 20001 ∧ Drawn p vb bs w w'
set_option maxRecDepth 100000 in
set_option maxHeartbeats 2000000 in
theorem spec_l22Journal (p : Nat) (vb : Value) (bs : List UInt8) (i h : Int) (w : World) (hc : Cur w p vb bs i h) :
    Calls Try.prog 17 #[.pointer (some ⟨p, 0, none⟩)] w fun e w' => ∃ t n, e = .returned (.agg #[.string t, .int .i64 n]) ∧ DrawnJ p vb bs w t w' := by
  have hp := hc.lt
  have HC := Lib.hid hc
  clear hc
  go_enter Try.func17, Try.ntmps17
  have hj := JW.start HC.out ⟨#[]⟩ ⟨#[]⟩ 0 0
  unfold jObj at hj
  have HJ := Lib.hid hj
  clear hj
  go_wp2_with fail
  obtain ⟨i0, h0, hc0⟩ := HJ.out.cur HC.out
  (go_at_call 13; refine (spec_l01Below p vb bs _ _ _ _ hc0 (by omega)).mono ?_; rintro e w1 ⟨x, i1, h1, rfl, ⟨hx0, hx1, _⟩, hg1, ha1, hb1⟩)
  have hx2 := hx1 (by omega)
  clear hx1
  have HJ1 := Lib.hid (JW.draw (t0 := ⟨#[]⟩) (t := ⟨#[]⟩) (n0 := 0) (n := 0) HJ.out hg1 ha1 hb1 hp)
  clear HJ hg1 ha1 hb1
  go_wp2
  go_loopw [4, 5] (fun q k wr => ∃ (m : Nat) (s : Int) (t : ByteArray) (n : Int), k = .int .i64 m ∧ m ≤ 5 ∧ q = .int .i64 s ∧ 1 ≤ s ∧ s ≤ 5 + m ∧ t.size ≤ 20001 ∧ JW p vb bs w ⟨#[]⟩ 0 t n wr) (fun _ k _ => 5 - (intOf k).toNat)
  case atStart => exact ⟨0, _, ⟨#[]⟩, 0, rfl, by omega, rfl, by omega, by omega, by decide, HJ1.out⟩
  case round =>
    obtain ⟨m, q, t, n, rfl, hm, rfl, hq1, hq2, ht, hjw⟩ := hrel
    have HW := Lib.hid hjw
    clear hjw
    obtain ⟨i1, h1, hc1⟩ := HW.out.cur HC.out
    go_wp2_with fail
    (go_at_call 13; refine (spec_l01Below p vb bs _ _ _ _ hc1 (by omega)).mono ?_; rintro e w2 ⟨x, i2, h2, rfl, ⟨hx0, hx1, _⟩, hg2, ha2, hb2⟩)
    have hx2 := hx1 (by omega)
    clear hx1
    have HW2 := Lib.hid (HW.out.draw hg2 ha2 hb2 hp)
    have hc2 := hc1.got hg2 ha2 hb2
    clear HW
    by_cases hlt : (m : Int) < x
    · go_wp2
      have hl1 := HW2.out.cell0
      have hl2 := HW2.out.cell1
      have hz2 := World.lt_of_get HW2.out.at1
      have hbp : w.heap.size + 1 ≠ p := by omega
      refine wp_region_ordPF (SpF w2 p) [(0,true),(1,true),(2,true),(3,false),(4,false),(5,false),(6,true),(7,true),(8,true),(9,false)] 6 (by kernel_rfl) (by kernel_rfl) (Sp.start hc2.blk) ?_
      repeat (refine wpOrd_quiet rfl (fun K hK => ?_); go_simp; (try simp (disch := omega) only [IntWalk.i64_in]); refine hK _ ?_; clear hK K)
      refine wpOrd_grow rfl (fun K hK => ?_); go_simp; go_at_call 24; refine (spec_l21List p vb bs _ _ _ hc2.drew).mono ?_; rintro e w3 ⟨v3, rfl, xs, ho3, hl3, hs3, i3, h3, hg3, ha3, hb3⟩; try go_simp; refine hK _ _ (Sp.got (Sp.start hc2.blk) hg3 hc2.lt) ?_; clear hK K
      have HW3 := Lib.hid (JW.draw (JW.drew HW2.out) hg3 ha3 hb3 hp)
      have hrd := cells_rd ho3 hs3
      refine wpOrd_grow rfl (fun K hK => ?_); go_simp; go_at_call 23; refine (spec_RecordText _ _ xs _ hrd (by omega)).mono ?_; rintro e w4 ⟨rfl, hb4⟩; try go_simp; refine hK _ _ (Sp.below (Sp.got (Sp.start hc2.blk) hg3 hc2.lt) hb4) ?_; clear hK K
      have HW4 := Lib.hid (JW.below HW3.out hb4)
      have hrt := recText_size q xs
      refine wpOrd_grow rfl (fun K hK => ?_); go_simp; go_at_call 22; refine (spec_AddText t n (recText q xs) _ (by omega)).mono ?_; rintro e w5 ⟨rfl, hb5⟩; try go_simp; refine hK _ _ (Sp.below (Sp.below (Sp.got (Sp.start hc2.blk) hg3 hc2.lt) hb4) hb5) ?_; clear hK K
      have HW5 := Lib.hid (JW.below HW4.out hb5)
      have h5 := HW5.out.at1
      have hz5 := World.lt_of_get h5
      repeat (refine wpOrd_quiet rfl (fun K hK => ?_); go_simp; (try simp (disch := omega) only [IntWalk.i64_in]); refine hK _ ?_; clear hK K)
      refine wpOrd_at_block h5 ?_
      clear h5
      unfold jObj
      repeat (refine wpOrd_tail rfl rfl (fun K hK => ?_); go_simp; refine hK _ _ ?_; clear hK K)
      refine wpOrd_nil ?_
      have hts := adT_size (n := n) (s := recText q xs) ht
      have HW6 := Lib.hid (HW5.out.set (adT t n (recText q xs)) n)
      unfold jObj at HW6
      generalize adT t n (recText q xs) = t6 at *
      clear HW2 HW3 HW4 HW5 hrd
      obtain ⟨i6, h6, hc6⟩ := HW6.out.cur HC.out
      go_wp2_with fail
      (go_at_call 25; refine (spec_l01Once p vb bs _ _ 4 _ hc6 (by omega)).mono ?_; rintro e w7 ⟨b, rfl, i7, h7, hg7, ha7, hb7⟩)
      have HW7 := Lib.hid (HW6.out.draw hg7 ha7 hb7 hp)
      obtain ⟨i7, h7, hc7⟩ := HW7.out.cur HC.out
      clear HW6
      cases b with
      | true =>
        have hl1 := HW7.out.cell0
        have hl2 := HW7.out.cell1
        go_wp2_with fail
        (go_at_call 26; refine (spec_Flush _ _ _).mono ?_; rintro e w8 ⟨rfl, hb8⟩)
        have HW8 := Lib.hid (HW7.out.below hb8)
        have hz8 := World.lt_of_get HW8.out.at1
        rw [← HW8.out.self]
        have HW9 := Lib.hid (HW8.out.set t6 (flN t6 n))
        unfold jObj at HW9
        unfold jObj
        clear HW8 HW7 hl1 hl2
        obtain ⟨i9, h9, hc9⟩ := HW9.out.cur HC.out
        go_wp2_with fail
        (go_at_call 25; refine (spec_l01Once p vb bs _ _ 12 _ hc9 (by omega)).mono ?_; rintro e w11 ⟨b, rfl, i11, h11, hg11, ha11, hb11⟩)
        have HW11 := Lib.hid (HW9.out.draw hg11 ha11 hb11 hp)
        have hc11 := hc9.got hg11 ha11 hb11
        cases b with
        | true =>
          go_wp2_with fail
          (go_at_call 13; refine (spec_l01Below p vb bs _ _ _ _ hc11 (by omega)).mono ?_; rintro e w12 ⟨x12, i12, h12, rfl, ⟨hy0, hy1, _⟩, hg12, ha12, hb12⟩)
          have hy2 := hy1 (by omega)
          clear hy1
          have HW12 := Lib.hid (HW11.out.draw hg12 ha12 hb12 hp)
          go_wp2
          go_roundw
          case rel => exact ⟨m + 1, _, t6, flN t6 n, by go_num, by omega, rfl, by omega, by omega, hts, HW12.out⟩
          case measure => simp [intOf]; omega
        | false =>
          go_wp2
          go_roundw
          case rel => exact ⟨m + 1, _, t6, flN t6 n, by go_num, by omega, rfl, by omega, by omega, hts, HW11.out⟩
          case measure => simp [intOf]; omega
      | false =>
        go_wp2_with fail
        (go_at_call 25; refine (spec_l01Once p vb bs _ _ 12 _ hc7 (by omega)).mono ?_; rintro e w11 ⟨b, rfl, i11, h11, hg11, ha11, hb11⟩)
        have HW11 := Lib.hid (HW7.out.draw hg11 ha11 hb11 hp)
        have hc11 := hc7.got hg11 ha11 hb11
        cases b with
        | true =>
          go_wp2_with fail
          (go_at_call 13; refine (spec_l01Below p vb bs _ _ _ _ hc11 (by omega)).mono ?_; rintro e w12 ⟨x12, i12, h12, rfl, ⟨hy0, hy1, _⟩, hg12, ha12, hb12⟩)
          have hy2 := hy1 (by omega)
          clear hy1
          have HW12 := Lib.hid (HW11.out.draw hg12 ha12 hb12 hp)
          go_wp2
          go_roundw
          case rel => exact ⟨m + 1, _, t6, n, by go_num, by omega, rfl, by omega, by omega, hts, HW12.out⟩
          case measure => simp [intOf]; omega
        | false =>
          go_wp2
          go_roundw
          case rel => exact ⟨m + 1, _, t6, n, by go_num, by omega, rfl, by omega, by omega, hts, HW11.out⟩
          case measure => simp [intOf]; omega
    · go_wp2_with fail
      (go_at_call 25; refine (spec_l01Once p vb bs _ _ 4 _ hc2 (by omega)).mono ?_; rintro e w3 ⟨b, rfl, i3, h3, hg3, ha3, hb3⟩)
      have HW3 := Lib.hid (HW2.out.draw hg3 ha3 hb3 hp)
      have hc3 := hc2.got hg3 ha3 hb3
      clear HW2
      cases b with
      | true =>
        go_wp2
        have hl1 := HW3.out.cell0
        have hl2 := HW3.out.cell1
        have hz3 := World.lt_of_get HW3.out.at1
        have hbp : w.heap.size + 1 ≠ p := by omega
        have hlt3 := hc3.lt
        refine wp_region_ordPF (SpF w3 p) [(0,true),(1,true),(2,false),(3,false),(4,false),(5,true),(6,true),(7,true),(8,false)] 5 (by kernel_rfl) (by kernel_rfl) (Sp.start hc3.blk) ?_
        repeat (refine wpOrd_quiet rfl (fun K hK => ?_); go_simp; (try simp (disch := omega) only [IntWalk.i64_in]); refine hK _ ?_; clear hK K)
        refine wpOrd_grow rfl (fun K hK => ?_); go_simp; refine hK _ _ (Sp.below (Sp.start hc3.blk) (Below.ofAlloc (Below.refl _ _) _)) ?_; clear hK K
        refine wpOrd_grow rfl (fun K hK => ?_); go_simp; go_at_call 27; refine (spec_l01Pick p vb bs _ _ _ PickJ _ (hc3.drew.alloc _) (RdL.lit rStr w3.drew PickJ 3 rfl (by decide) _ rfl _) (by decide) (by decide) (by simp [Value.ownBlock]; omega)).mono ?_; rintro e w4 ⟨s4, i4, h4, rfl, hs4, hg4, ha4, hb4⟩; try go_simp; refine hK _ _ (Sp.got (Sp.below (Sp.start hc3.blk) (Below.ofAlloc (Below.refl _ _) _)) hg4 hc3.lt) ?_; clear hK K
        have HW4 := Lib.hid (JW.draw (JW.below (JW.drew HW3.out) (Below.ofAlloc (Below.refl _ _) _)) hg4 ha4 hb4 hp)
        have hss := pickJ_small s4 hs4
        refine wpOrd_grow rfl (fun K hK => ?_); go_simp; go_at_call 22; refine (spec_AddText t n s4 _ (by omega)).mono ?_; rintro e w5 ⟨rfl, hb5⟩; try go_simp; refine hK _ _ (Sp.below (Sp.got (Sp.below (Sp.start hc3.blk) (Below.ofAlloc (Below.refl _ _) _)) hg4 hc3.lt) hb5) ?_; clear hK K
        have HW5 := Lib.hid (JW.below HW4.out hb5)
        have h5 := HW5.out.at1
        have hz5 := World.lt_of_get h5
        repeat (refine wpOrd_quiet rfl (fun K hK => ?_); go_simp; (try simp (disch := omega) only [IntWalk.i64_in]); refine hK _ ?_; clear hK K)
        refine wpOrd_at_block h5 ?_
        clear h5
        unfold jObj
        repeat (refine wpOrd_tail rfl rfl (fun K hK => ?_); go_simp; refine hK _ _ ?_; clear hK K)
        refine wpOrd_nil ?_
        have hts := adT_size (n := n) (s := s4) ht
        have HW6 := Lib.hid (HW5.out.set (adT t n s4) n)
        unfold jObj at HW6
        generalize adT t n s4 = t6 at *
        clear HW3 HW4 HW5
        have HW20 := Lib.hid (HW6.out.set0 ⟨#[]⟩ 0)
        have HW21 := Lib.hid (HW6.out.set0 t6 n)
        have hl1 := HW20.out.cell0
        have hl2 := HW20.out.cell1
        have hz20 := World.lt_of_get HW6.out.at1
        have hz21 := Nat.lt_of_succ_lt hz20
        try simp only [World.setB_size] at hz20 hz21
        rw [← HW6.out.self0]
        unfold jObj at hl1 hl2 ⊢
        go_wp2
        refine bodyPost_ret (by simp [results, Try.results17, go_sem, hz20, hz21]; rfl) rfl ?_
        obtain ⟨i20, h20, hg20, ha20, hb20⟩ := HW21.out.got
        exact ⟨_, _, rfl, by assumption, ⟨i20, h20, hg20, ha20, hb20⟩⟩
      | false => 
        have HW20 := Lib.hid (HW3.out.set0 ⟨#[]⟩ 0)
        have HW21 := Lib.hid (HW3.out.set0 t n)
        have hl1 := HW20.out.cell0
        have hl2 := HW20.out.cell1
        have hz20 := World.lt_of_get HW3.out.at1
        have hz21 := Nat.lt_of_succ_lt hz20
        try simp only [World.setB_size] at hz20 hz21
        rw [← HW3.out.self0]
        unfold jObj at hl1 hl2 ⊢
        go_wp2
        refine bodyPost_ret (by simp [results, Try.results17, go_sem, hz20, hz21]; rfl) rfl ?_
        obtain ⟨i20, h20, hg20, ha20, hb20⟩ := HW21.out.got
        exact ⟨_, _, rfl, by assumption, ⟨i20, h20, hg20, ha20, hb20⟩⟩
end Go.Proofs.Ytdehbojnflibhaa
