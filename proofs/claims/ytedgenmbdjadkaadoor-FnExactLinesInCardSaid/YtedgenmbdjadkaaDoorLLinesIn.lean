/- The law of LinesIn. Each condition stands in its theorem. -/
import Derived.Test.YtedgenmbdjadkaaDoorLinesI
import Derived.Test.YtedgenmbdjadkaaDoorTStr
set_option linter.unusedVariables false
set_option linter.unusedSimpArgs false
namespace Go.Proofs.YtedgenmbdjadkaaDoor
open Go.ChangeShapes Go.WideShapes Go.ChangeAt Go.RowKit

theorem map_data_inj : ∀ {xs ys : List ByteArray}, xs.map (·.data.toList) = ys.map (·.data.toList) → xs = ys
  | [], [], _ => rfl
  | [], y :: ys, h => by simp at h
  | x :: xs, [], h => by simp at h
  | x :: xs, y :: ys, h => by
    simp only [List.map_cons, List.cons.injEq] at h
    rw [map_data_inj h.2, show x = y from ByteArray.ext (Array.toList_inj.1 h.1)]
theorem own_of_strsN {e : TypeId} {w : World} {B : Nat} {v : Value} {xs : List ByteArray} (h : OwnL rStr e w B v xs) (hok : ∀ s ∈ xs, s.size ≤ 9223372036854775807) : ∃ fp : List Nat, (vSlice vStr e).own w fp [v] xs ∧ fp.Nodup ∧ ∀ b ∈ fp, B ≤ b := by
  rcases h.2 with ⟨rfl, h0⟩ | ⟨g, cap, cur, rfl, hg, hh, hn, hm, hsz, ht⟩
  · have : xs = [] := List.eq_nil_of_length_eq_zero h0
    subst this
    exact ⟨[], .inl ⟨rfl, rfl, rfl⟩, List.nodup_nil, by simp⟩
  · exact ⟨[g], vSlice.ownRow hh rfl hn hm hsz ht hok, by simp, by simpa using hg⟩
/-- what the readers of lines leave, owned -/
def LnM (s : ByteArray) (w : World) (e : Ending) (w' : World) : Prop := ∃ v xs fp, e = .returned v ∧ Fresh (vSlice vStr 9) w w' fp [v] xs ∧ xs.map (·.data.toList) = linesL s.data.toList ∧ Below w.heap.size w w'
theorem LnP.m {s : ByteArray} {w w' : World} {e : Ending} (h : LnP 9 s w e w') (hs : s.size ≤ 1048576) : LnM s w e w' := by
  obtain ⟨v, xs, rfl, ho, hx, hb⟩ := h
  obtain ⟨fp, h1, h2, h3⟩ := own_of_strsN ho (fun x hxm => by
    have := linesL_mem (l := s.data.toList) (w := x.data.toList) (by rw [← hx]; exact List.mem_map.2 ⟨x, hxm, rfl⟩)
    have e1 : x.data.toList.length = x.size := by simp
    have e2 : s.data.toList.length = s.size := by simp
    omega)
  exact ⟨v, xs, fp, rfl, ⟨h1, h2, h3⟩, hx, hb⟩
set_option maxRecDepth 100000 in
set_option maxHeartbeats 4000000 in
theorem law_LinesIn (s : ByteArray) (w : World) (hs : s.size ≤ 9223372036854775807) (hT : MaxC w) : Calls Tryd.prog 3 #[.string s] w (Yes w) := by
  unfold Yes
  have HG := Lib.hid hT
  clear hT
  go_enter Tryd.func3, Tryd.ntmps3
  by_cases hbig : (1048576 : Int) < s.size
  · go_wp2
    go_ret
    exact ⟨rfl, (by repeat (first | with_reducible exact Below.refl _ _ | with_reducible apply Below.ofExt | with_reducible apply Below.ofAlloc | with_reducible apply Below.drew | with_reducible apply Below.ofDrewN | with_reducible assumption | (with_reducible refine Below.setCell ?_ (by first | exact Nat.le_refl _ | (simp [go_sem]; done) | (simp [go_sem]; omega)) _)))⟩
  have hs2 : s.size ≤ 1048576 := by omega
  go_wp2_with fail
  (go_at_call 5; refine (spec_LinesIn s w hs2).mono ?_; intro e w1 hm; obtain ⟨vW, cs, fpW, rfl, hf, hx, hb⟩ := hm.m hs2; clear hm)
  have HX := Lib.hid hx
  have hcl : cs.length ≤ 1048576 := by
    have h1 := linesL_len s.data.toList
    rw [← hx, List.length_map] at h1
    have e2 : s.data.toList.length = s.size := by simp
    omega
  obtain ⟨xW, yW, rfl⟩ := vSlice.form (View.toRd _ hf.own)
  have OW := Lib.hid hf.own
  have SW := Lib.hid hf.sp
  have hbw := hb
  clear hf hx hb
  have D1 := Lib.hid (impl_LinesIn s w1 (HG.out.below hbw) hs2)
  go_wp2_with fail
  (go_at_call 6; refine D1.out.mono ?_; intro e w2 hm; obtain ⟨vG, cs', fpG, rfl, hf, hx, hb⟩ := hm.m hs2; clear hm)
  obtain rfl := map_data_inj (hx.trans HX.out.symm)
  obtain ⟨xG, yG, rfl⟩ := vSlice.form (View.toRd _ hf.own)
  have OG := Lib.hid hf.own
  have SG := Lib.hid hf.sp
  have OW2 := Lib.hid (View.ownGrow OW.out (Grew.below hb))
  have hbw2 : Below w.heap.size w w2 := Below.then hbw hb
  have DWG : Hid (∀ x ∈ fpW, x ∉ fpG) := fun x hx h => by have h1 := SW.out.hi x hx; have h2 := SG.out.lo x h; omega
  have hsz1 := hbw.size
  have LG : Hid (∀ x ∈ fpG, w.heap.size ≤ x) := fun x hx => by have h2 := SG.out.lo x hx; omega
  clear hf hx hb D1 OW
  have DE := Lib.hid (laws_eqStringS _ _ cs' w2 (View.toRd _ OG.out) (View.toRd _ OW2.out))
  go_wp2_with fail
  (go_at_call 7; refine DE.out.mono ?_; rintro e w3 ⟨rfl, hb⟩)
  have OG3 := Lib.hid (View.ownGrow OG.out (Grew.below hb))
  have OW3 := Lib.hid (View.ownGrow OW2.out (Grew.below hb))
  have hbw3 : Below w.heap.size w w3 := Below.then hbw2 hb
  clear hb DE OG OW2
  have DM := Lib.hid (laws_markStringS _ fpG cs' 1 w3 OG3.out (by omega) (by omega))
  go_wp2_with fail
  (go_at_call 8; refine DM.out.mono ?_; rintro e w4 ⟨rfl, hm, hu⟩)
  have OW4 := Lib.hid (View.ownUpon OW3.out hu DWG.out)
  have OG4 := Lib.hid hm
  have hbw4 : Below w.heap.size w w4 := Below.trans hbw3 (hu.toBelow hbw3.size LG.out)
  clear hm hu DM OG3 OW3
  have DH := Lib.hid (laws_heldStringS _ 1 cs'.length w4 (View.toRd _ OG4.out) (by omega) (by omega))
  go_wp2_with fail
  (go_at_call 9; refine DH.out.mono ?_; rintro e w5 ⟨rfl, hb⟩)
  have hkr : ¬ (1 : Int) + (1 * cs'.length : Nat) < 0 := by omega
  have OG5 := Lib.hid (View.ownGrow OG4.out (Grew.below hb))
  have OW5 := Lib.hid (View.ownGrow OW4.out (Grew.below hb))
  have hbw5 : Below w.heap.size w w5 := Below.then hbw4 hb
  clear hb DH OG4 OW4
  have D1 := Lib.hid (impl_LinesIn s w5 (HG.out.below hbw5) hs2)
  go_wp2_with fail
  (go_at_call 6; refine D1.out.mono ?_; intro e w6 hm; obtain ⟨vH, cs3, fpH, rfl, hf, hx, hb⟩ := hm.m hs2; clear hm)
  obtain rfl := map_data_inj (hx.trans HX.out.symm)
  obtain ⟨xH, yH, rfl⟩ := vSlice.form (View.toRd _ hf.own)
  have OH := Lib.hid hf.own
  have OG6 := Lib.hid (View.ownGrow OG5.out (Grew.below hb))
  have OW6 := Lib.hid (View.ownGrow OW5.out (Grew.below hb))
  have hbw6 : Below w.heap.size w w6 := Below.then hbw5 hb
  clear hf hx hb D1 OG5 OW5
  have DE := Lib.hid (laws_eqStringS _ _ cs3 w6 (View.toRd _ OH.out) (View.toRd _ OW6.out))
  go_wp2_with fail
  (go_at_call 7; refine DE.out.mono ?_; rintro e w7 ⟨rfl, hb⟩)
  have OG7 := Lib.hid (View.ownGrow OG6.out (Grew.below hb))
  have hbw7 : Below w.heap.size w w7 := Below.then hbw6 hb
  clear hb DE OG6 OW6
  have DH := Lib.hid (laws_heldStringS _ 1 cs3.length w7 (View.toRd _ OG7.out) (by omega) (by omega))
  go_wp2_with fail
  (go_at_call 9; refine DH.out.mono ?_; rintro e w8 ⟨rfl, hb⟩)
  have hbw8 : Below w.heap.size w w8 := Below.then hbw7 hb
  clear hb DH
  go_wp2
  go_ret
  exact ⟨rfl, hbw8⟩
end Go.Proofs.YtedgenmbdjadkaaDoor
