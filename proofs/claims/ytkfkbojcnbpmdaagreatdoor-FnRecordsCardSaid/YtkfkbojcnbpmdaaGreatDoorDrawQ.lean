/- The drawn texts of the records' law. Each condition stands in its theorem. -/
import Derived.Test.YtkfkbojcnbpmdaaGreatDoorDrawR
import Derived.Test.YtkfkbojcnbpmdaaGreatDoorReadRS
set_option linter.unusedVariables false
set_option linter.unusedSimpArgs false
namespace Go.Proofs.YtkfkbojcnbpmdaaGreatDoor
open Go.ChangeShapes Go.WideShapes Go.ChangeAt Go.RowKit

theorem ownB_set {e : TypeId} {w : World} {B g n cap k : Nat} {l : List UInt8} {c : UInt8} (h : OwnB e w B (.slice (some ⟨g, 0, none⟩) n cap) l) (hk : k < l.length) :
    (∃ u, w.cell? ⟨g, k, none⟩ = some u) ∧ w.frozen? ⟨g, k, none⟩ = false ∧ OwnB e (w.setCell ⟨g, k, none⟩ (.int .u8 (c.toNat : Int))) B (.slice (some ⟨g, 0, none⟩) n cap) (l.set k c) := by
  rcases h with ⟨hv, _⟩ | ⟨g', cap', cur, fz, hv, h1, h2, h3, h4, h5, h6, h7⟩
  · cases hv
  · cases hv
    have hkc : k < cur.size := by omega
    refine ⟨⟨cur[k], by simp [World.cell?, h2, hkc]⟩, ?_, .inr ⟨g, cap, cur.setIfInBounds k (.int .u8 (c.toNat : Int)), fz, by rw [List.length_set], h1, ?_, by simpa using h3, by rw [List.length_set]; exact h4, h5, by simpa using h6, ?_⟩⟩
    · rcases h3 with rfl | h3
      · simp [World.frozen?, h2]
      · obtain ⟨lo, hi⟩ := fz
        simp only [World.frozen?, h2, Bool.and_eq_false_iff, decide_eq_false_iff_not]
        left
        simp only at h3
        omega
    · rw [setCell_eq_setRow w g k cur e fz _ h2]
      exact setRow_heap w g cur _ e _ h2
    · rw [List.length_set, Array.toList_setIfInBounds, List.take_set, h7]
      unfold bytesOf
      rw [List.map_set]
theorem PickA_small : ∀ s ∈ ([⟨#[120]⟩, ⟨#[10]⟩, ⟨#[32]⟩] : List ByteArray), s.size ≤ 10 := by decide
def PickB : List ByteArray := [⟨#[]⟩, ⟨#[49]⟩, ⟨#[49, 32, 35, 48, 10]⟩, ⟨#[48, 49, 32, 35, 53, 10]⟩, ⟨#[32]⟩, ⟨#[49, 32, 54, 49, 61, 32, 35, 49, 10]⟩]
theorem pickB_small : ∀ s ∈ PickB, s.size ≤ 10 := by decide
def DrawnQ (w : World) (e : Ending) (w' : World) : Prop := ∃ s : ByteArray, e = .returned (.string s) ∧ s.size ≤ 5000 ∧ Below w.heap.size w w'
theorem DrawnQ.mk {w w' : World} {s : ByteArray} (h : s.size ≤ 5000) (hb : Below w.heap.size w w') : DrawnQ w (.returned (.string s)) w' := ⟨s, rfl, h, hb⟩
theorem smalls_smR {a : List CellD} (h : ∀ x ∈ a, SmallC x) : Sm a := fun c hc => by
  have := h c hc
  unfold SmallC at this
  exact ⟨by omega, by omega⟩
set_option maxRecDepth 100000 in
set_option maxHeartbeats 2000000 in
theorem spec_DrawReadRecord (v : Value) (bs : List UInt8) (w : World) (hs : Sl w v bs.length (bytesOf bs)) (hl : bs.length ≤ 140737488351232) (hb : ∀ b, v.ownBlock = some b → b < w.heap.size) :
    Calls Tryz.prog 10 #[v] w (DrawnQ w) := by
  go_enter Tryz.func10, Tryz.ntmps10
  go_wp2_with fail
  (go_at_call 17; refine (spec_l01New v bs _ hs hl hb).mono ?_; rintro e w1 ⟨p, rfl, ⟨h, hc⟩, hb1, hp⟩)
  have hpl := hc.lt
  have hz1 := hb1.size
  go_wp2_with fail
  (go_at_call 31; refine (spec_l01Below p v bs _ _ _ _ hc (by omega)).mono ?_; rintro e w2 ⟨x, i2, h2, rfl, ⟨hx0, hx1, _⟩, hg2, ha2, hc2⟩)
  have hx2 := hx1 (by omega)
  clear hx1
  have hcur2 := hc.got hg2 ha2 hc2
  have hb2 := hg2.toBelowR hb1 (by omega)
  have hz2 := hg2.size
  go_wp2_with fail
  (go_at_call 19; refine (spec_l21List p v bs _ _ _ hcur2).mono ?_; rintro e w3 ⟨v3, rfl, xs, ho, hxl, hsm, i3, h3, hg3, ha3, hc3⟩)
  have hcur3 := hcur2.got hg3 ha3 hc3
  have hb3 := hg3.toBelowR hb2 (by omega)
  have hz3 := hg3.size
  obtain ⟨ao, co, rfl⟩ := ho.rd.form
  have DT := Lib.hid (spec_RecordText (1 + x) (.slice ao xs.length co) xs w3 (cells_rdS ho (smalls_smR hsm)) (by omega))
  clear ho hsm hg2 hg3 hb1 hb2 hc hcur2
  go_wp2_with fail
  (go_at_call 7; refine DT.out.mono ?_; rintro e w4 ⟨rfl, hb4⟩)
  have hcur4 := hcur3.below hb4
  have hb04 : Below w.heap.size w w4 := Below.then hb3 hb4
  have hz4 := hb4.size
  have htz := recText_size (1 + x) xs
  generalize recText (1 + x) xs = t at *
  clear DT hcur3 hb3 hb4
  go_wp2_with fail
  (go_at_call 31; refine (spec_l01Below p v bs _ _ _ _ hcur4 (by omega)).mono ?_; rintro e w5 ⟨y, i5, h5, rfl, ⟨hy0, hy1, _⟩, hg5, ha5, hc5⟩)
  have hy2 := hy1 (by omega)
  clear hy1
  have hcur5 := hcur4.got hg5 ha5 hc5
  have hb05 := hg5.toBelowR hb04 (by omega)
  have hz5 := hg5.size
  clear hg5 hcur4
  have hpl5 : p < w5.heap.size := by omega
  by_cases y0 : y = 0
  · subst y0
    go_wp2_with fail
    (go_at_call 31; refine (spec_l01Below p v bs _ _ _ _ hcur5 (by omega)).mono ?_; rintro e w6 ⟨z, i6, h6, rfl, ⟨hz0, hz1, _⟩, hg6, ha6, hc6⟩)
    have hz2 := hz1 (by omega)
    clear hz1
    have hb06 := hg6.toBelowR hb05 (by omega)
    obtain ⟨k, rfl⟩ := Int.eq_ofNat_of_zero_le hz0
    have hks : (t.extract 0 k).size ≤ 5000 := by rw [ByteArray.size_extract]; omega
    have HKS := Lib.hid hks
    clear hks
    go_wp2
    go_ret
    exact DrawnQ.mk HKS.out hb06
  by_cases y1 : y = 1
  · subst y1
    by_cases htl : (2 : Int) < t.size
    case neg =>
      go_wp2
      go_ret
      exact DrawnQ.mk (by omega) hb05
    obtain ⟨bv, w6, hcv, ho, hbl⟩ := conv_bytes w5 t (by omega)
    have hcur6 := hcur5.below hbl
    have hb06 : Below w.heap.size w w6 := Below.then hb05 hbl
    have hz6 := hbl.size
    have hlt := ho.lt
    have htl2 : t.data.toList.length = t.size := by simp
    obtain ⟨g, cap, rfl⟩ : ∃ g cap, bv = .slice (some ⟨g, 0, none⟩) t.size cap := by
      rcases ho with ⟨_, he⟩ | ⟨g, cap, cur, fz, rfl, _⟩
      · rw [he] at htl2; simp at htl2; omega
      · exact ⟨g, cap, by rw [htl2]⟩
    have hgp := (hlt g rfl).1
    have hgl := (hlt g rfl).2
    have HO := Lib.hid ho
    clear ho hlt hbl
    go_wp2_with fail
    (go_at_call 31; refine (spec_l01Below p v bs _ _ _ _ hcur6 (by omega)).mono ?_; rintro e w7 ⟨z, i7, h7, rfl, ⟨hz0, hz1, _⟩, hg7, ha7, hc7⟩)
    have hz2 := hz1 (by omega)
    clear hz1
    have hcur7 := hcur6.got hg7 ha7 hc7
    have hb07 := hg7.toBelowR hb06 (by omega)
    have hz7 := hg7.size
    have ho7 := HO.out.got hg7 (by simp [Value.ownBlock]; omega)
    obtain ⟨k, rfl⟩ := Int.eq_ofNat_of_zero_le hz0
    clear hg7 hcur6 HO
    go_wp2_with fail
    (go_at_call 32; refine (spec_l01Byte p v bs _ _ _ hcur7).mono ?_; rintro e w8 ⟨q, i8, h8, rfl, hq0, hq1, hg8, ha8, hc8⟩)
    have hb08 := hg8.toBelowR hb07 (by omega)
    have hz8 := hg8.size
    have ho8 := ho7.got hg8 (by simp [Value.ownBlock]; omega)
    obtain ⟨cq, hcq⟩ : ∃ cq : UInt8, (cq.toNat : Int) = q := ⟨UInt8.ofNat q.toNat, by rw [UInt8.toNat_ofNat']; omega⟩
    obtain ⟨⟨u, hu⟩, hfr, hset⟩ := ownB_set (k := k) (c := cq) ho8 (by omega)
    rw [hcq] at hset
    have hwr : IntKind.u8.wrap q = q := u8_in q hq0 hq1
    have hr := run_string_of (P := Tryz.prog) _ Tryz.byteT Tryz.underlying9 hset.sl
    have hsz : (⟨(t.data.toList.set k cq).toArray⟩ : ByteArray).size ≤ 5000 := by
      show (t.data.toList.set k cq).toArray.size ≤ 5000
      simp
      omega
    have HSZ := Lib.hid hsz
    have hkz : (k : Int) < t.size := by omega
    clear hsz hg8 ho7 ho8 hset
    go_wp2
    go_ret
    exact DrawnQ.mk HSZ.out (hb08.setCell (p := ⟨g, k, none⟩) (by show w.heap.size ≤ g; omega) _)
  by_cases y2 : y = 2
  · subst y2
    go_wp2_with fail
    (go_at_call 33; refine (spec_l01Pick p v bs _ _ _ [⟨#[120]⟩, ⟨#[10]⟩, ⟨#[32]⟩] _ (hcur5.alloc _) (RdL.lit rStr w5 [⟨#[120]⟩, ⟨#[10]⟩, ⟨#[32]⟩] 3 rfl (by decide) _ rfl _) (by decide) (by decide) (by simp [Value.ownBlock]; omega)).mono ?_; rintro e w6 ⟨z, i6, h6, rfl, hz, hg6, ha6, hc6⟩)
    have hzz := PickA_small z hz
    have hb06 := hg6.toBelowR (hb05.ofAlloc _) (by omega)
    have hzs : (t ++ z).size ≤ 5000 := by rw [ByteArray.size_append]; omega
    have HZS := Lib.hid hzs
    clear hz hzs
    go_wp2
    go_ret
    exact DrawnQ.mk HZS.out hb06
  by_cases y3 : y = 3
  · subst y3
    go_wp2_with fail
    (go_at_call 33; refine (spec_l01Pick p v bs _ _ _ PickB _ (hcur5.alloc _) (RdL.lit rStr w5 PickB 6 rfl (by decide) _ rfl _) (by decide) (by decide) (by simp [Value.ownBlock]; omega)).mono ?_; rintro e w6 ⟨z, i6, h6, rfl, hz, hg6, ha6, hc6⟩)
    have hzz := pickB_small z hz
    have hb06 := hg6.toBelowR (hb05.ofAlloc _) (by omega)
    clear hz
    go_wp2
    go_ret
    exact DrawnQ.mk (by omega) hb06
  go_wp2
  go_ret
  exact DrawnQ.mk (by omega) hb05
set_option maxRecDepth 100000 in
theorem spec_DrawByteSum (v : Value) (bs : List UInt8) (w : World) (hs : Sl w v bs.length (bytesOf bs)) (hl : bs.length ≤ 140737488351232) (hb : ∀ b, v.ownBlock = some b → b < w.heap.size) :
    Calls Tryz.prog 14 #[v] w (DrawnQ w) := by
  go_enter Tryz.func14, Tryz.ntmps14
  go_wp2_with fail
  (go_at_call 17; refine (spec_l01New v bs _ hs hl hb).mono ?_; rintro e w1 ⟨p, rfl, ⟨h, hc⟩, hb1, hp⟩)
  have hpl := hc.lt
  have hz1 := hb1.size
  go_wp2_with fail
  (go_at_call 31; refine (spec_l01Below p v bs _ _ _ _ hc (by omega)).mono ?_; rintro e w2 ⟨x, i2, h2, rfl, ⟨hx0, hx1, _⟩, hg2, ha2, hc2⟩)
  have hx2 := hx1 (by omega)
  clear hx1
  have hcur2 := hc.got hg2 ha2 hc2
  have hb2 := hg2.toBelowR hb1 (by omega)
  have hz2 := hg2.size
  go_wp2_with fail
  (go_at_call 41; refine (spec_l01TextI p v bs _ _ _ _ hcur2 hx0 (by omega)).mono ?_; rintro e w3 ⟨t, rfl, ht, i3, h3, hg3, ha3, hb3⟩)
  have hb03 := hg3.toBelowR hb2 (by omega)
  go_wp2
  go_ret
  exact DrawnQ.mk (by omega) hb03
end Go.Proofs.YtkfkbojcnbpmdaaGreatDoor
