/- The law of RecordsIn. Each condition stands in its theorem. -/
import Derived.Test.YtedgenmbdjadkaaGreatDoorRecsI
import Derived.Test.YtedgenmbdjadkaaGreatDoorCellSS
import Derived.Test.YtedgenmbdjadkaaGreatDoorCuts
set_option linter.unusedVariables false
set_option linter.unusedSimpArgs false
namespace Go.Proofs.YtedgenmbdjadkaaGreatDoor
open Go.ChangeShapes Go.WideShapes Go.ChangeAt Go.RowKit

theorem readI_len {t : ByteArray} {n : Int} {cs : List CellD} (h : readI t = some (n, cs)) : cs.length ≤ t.size := by
  obtain ⟨_, _, h2, _⟩ := readI_inv h
  have h3 := splitL_length 32 t.data.toList
  have h4 : (midL (splitL 32 t.data.toList)).length = cs.length := by rw [h2, List.length_map]
  have e : t.data.toList.length = t.size := by simp
  unfold midL at h4
  rw [List.length_take, List.length_drop] at h4
  omega
theorem step_sum {fr : Int} {out : List (List CellD)} {sz : Int} {line : ByteArray} {p : List (List CellD) × Int} (h : recStep fr out sz line = some p) : (p.1.map List.length).sum ≤ (out.map List.length).sum + line.size := by
  unfold recStep at h
  split at h
  · cases h
  · rename_i q cs hq
    have := readI_len hq
    split at h
    · injection h with h
      subst h
      show (out.map List.length).sum ≤ _
      omega
    · split at h
      · injection h with h
        subst h
        show ((out ++ [cs]).map List.length).sum ≤ _
        rw [List.map_append, List.sum_append]
        simp
        omega
      · cases h
theorem recs_sum (fr : Int) : ∀ (ls : List ByteArray) (out : List (List CellD)) (sz : Int), ((recs fr ls out sz).1.map List.length).sum ≤ (out.map List.length).sum + sizes ls
  | [], out, sz => by simp [recs, sizes]
  | l :: ls, out, sz => by
    unfold recs
    cases h : recStep fr out sz l with
    | none =>
      simp only [sizes, List.map_cons, List.sum_cons]
      omega
    | some p =>
      have h2 := step_sum h
      have := recs_sum fr ls p.1 p.2
      simp only [sizes, List.map_cons, List.sum_cons] at this ⊢
      omega
theorem recsI_sum (s : ByteArray) (fr : Int) : ((recsI s fr).1.map List.length).sum ≤ s.size := by
  unfold recsI
  split
  · have h1 := recs_sum fr (linesB s) [] 0
    have h2 := linesB_sum s
    simp at h1
    omega
  · simp
/-- what the readers of records leave, as a view -/
def RsV (s : ByteArray) (fr : Int) (w : World) (e : Ending) (w' : World) : Prop := ∃ v fp, e = .returned (.tuple #[v, .int .i64 (recsI s fr).2]) ∧ ((vSlice vCells 35).own w' fp [v] (recsI s fr).1 ∧ fp.Nodup ∧ ∀ b ∈ fp, w.heap.size ≤ b) ∧ Below w.heap.size w w'
theorem RsP.view {s : ByteArray} {fr : Int} {w w' : World} {e : Ending} (h : RsP s fr w e w') : RsV s fr w e w' := by
  obtain ⟨v, sz, ls, hs, fps, rfl, ho, hr, hb⟩ := h
  obtain ⟨fp, h1, h2, h3⟩ := ho.own
  exact ⟨v, fp, by rw [hr], ⟨by rw [hr]; exact h1, h2, h3⟩, hb⟩
set_option maxRecDepth 100000 in
set_option maxHeartbeats 4000000 in
theorem law_RecordsIn (s : ByteArray) (fr : Int) (w : World) (hs : s.size ≤ 9223372036854775807) (hT : Glob w) : Calls Tryz.prog 3 #[.string s, .int .i64 fr] w (Yes w) := by
  unfold Yes
  have HG := Lib.hid hT
  clear hT
  go_enter Tryz.func3, Tryz.ntmps3
  by_cases hbig : (1048576 : Int) < s.size
  · go_wp2
    go_ret
    exact ⟨rfl, (by repeat (first | with_reducible exact Below.refl _ _ | with_reducible apply Below.ofExt | with_reducible apply Below.ofAlloc | with_reducible apply Below.drew | with_reducible apply Below.ofDrewN | with_reducible assumption | (with_reducible refine Below.setCell ?_ (by first | exact Nat.le_refl _ | (simp [go_sem]; done) | (simp [go_sem]; omega)) _)))⟩
  have hs2 : s.size ≤ 1048576 := by omega
  have hsum := recsI_sum s fr
  have S1 := spec_RecordsIn s fr w hs2
  have HI := fun w1 (hg : Glob w1) => impl_RecordsIn s fr w1 hg hs2
  have S2 : Calls Tryz.prog 7 #[.string s, .int .i64 fr] w (RsV s fr w) := S1.mono fun e w' h => h.view
  have H2 : Hid (∀ w1, Glob w1 → Calls Tryz.prog 8 #[.string s, .int .i64 fr] w1 (RsV s fr w1)) := fun w1 hg => (HI w1 hg).mono fun e w' h => h.view
  have HS2 := Lib.hid S2
  unfold RsV at H2 HS2
  obtain ⟨ls, hls⟩ : ∃ ls, ls = (recsI s fr).1 := ⟨_, rfl⟩
  obtain ⟨sz, hsz⟩ : ∃ sz, sz = (recsI s fr).2 := ⟨_, rfl⟩
  rw [← hls] at hsum
  simp only [← hls, ← hsz] at H2 HS2
  clear S1 S2 HI hls hsz
  obtain ⟨ns, hns⟩ : ∃ ns, ns = ls.map List.length := ⟨_, rfl⟩
  have HNS := Lib.hid hns
  rw [← hns] at hsum
  have hzz : (sz != sz) = false := by simp
  clear hns
  go_wp2_with fail
  (go_at_call 7; refine HS2.out.mono ?_; rintro e w1 ⟨vW, fpW, rfl, ⟨ho, hn, hlo⟩, hbw⟩)
  obtain ⟨xW, yW, rfl⟩ := vSlice.form (View.toRd _ ho)
  have OW := Lib.hid ho
  have hltW := View.lt _ ho
  have LW := Lib.hid hltW
  clear ho hn hlo hltW HS2
  go_wp2_with fail
  (go_at_call 8; refine (H2.out w1 (HG.out.below hbw)).mono ?_; rintro e w2 ⟨vG, fpG, rfl, ⟨ho, hn, hlo⟩, hb⟩)
  obtain ⟨xG, yG, rfl⟩ := vSlice.form (View.toRd _ ho)
  have OG := Lib.hid ho
  have NG := Lib.hid hn
  have OW2 := Lib.hid (View.ownGrow OW.out (Grew.below hb))
  have hbw2 : Below w.heap.size w w2 := Below.then hbw hb
  have hsz1 := hbw.size
  have DWG : Hid (∀ x ∈ fpW, x ∉ fpG) := fun x hx h => by have h1 := LW.out x hx; have h2 := hlo x h; omega
  have LG : Hid (∀ x ∈ fpG, w.heap.size ≤ x) := fun x hx => by have h2 := hlo x hx; omega
  clear ho hn hlo hb OW
  have DE := Lib.hid (laws_eqCellSS _ _ ls w2 (View.toRd _ OG.out) (View.toRd _ OW2.out))
  go_wp2_with fail
  (go_at_call 9; refine DE.out.mono ?_; rintro e w3 ⟨rfl, hb⟩)
  have OG3 := Lib.hid (View.ownGrow OG.out (Grew.below hb))
  have OW3 := Lib.hid (View.ownGrow OW2.out (Grew.below hb))
  have hbw3 : Below w.heap.size w w3 := Below.then hbw2 hb
  clear hb DE OG OW2
  have DM := Lib.hid (laws_markCellSS _ fpG ls 1 w3 OG3.out NG.out (by omega) (by rw [← HNS.out]; omega))
  rw [← HNS.out] at DM
  go_wp2_with fail
  (go_at_call 10; refine DM.out.mono ?_; rintro e w4 ⟨rfl, hm, hu⟩)
  have OW4 := Lib.hid (View.ownUpon OW3.out hu DWG.out)
  have OG4 := Lib.hid hm
  have hbw4 : Below w.heap.size w w4 := Below.trans hbw3 (hu.toBelow hbw3.size LG.out)
  clear hm hu DM OG3 OW3
  have DH := Lib.hid (laws_heldCellSS _ 1 ns w4 (View.toRd _ OG4.out) (by omega) (by omega))
  go_wp2_with fail
  (go_at_call 11; refine DH.out.mono ?_; rintro e w5 ⟨rfl, hb⟩)
  have hkr : ¬ (1 : Int) + (2 * ns.sum : Nat) < 0 := by omega
  have OG5 := Lib.hid (View.ownGrow OG4.out (Grew.below hb))
  have OW5 := Lib.hid (View.ownGrow OW4.out (Grew.below hb))
  have hbw5 : Below w.heap.size w w5 := Below.then hbw4 hb
  clear hb DH OG4 OW4
  go_wp2_with fail
  (go_at_call 8; refine (H2.out w5 (HG.out.below hbw5)).mono ?_; rintro e w6 ⟨vH, fpH, rfl, ⟨ho, hn, hlo⟩, hb⟩)
  obtain ⟨xH, yH, rfl⟩ := vSlice.form (View.toRd _ ho)
  have OH := Lib.hid ho
  have OG6 := Lib.hid (View.ownGrow OG5.out (Grew.below hb))
  have OW6 := Lib.hid (View.ownGrow OW5.out (Grew.below hb))
  have hbw6 : Below w.heap.size w w6 := Below.then hbw5 hb
  clear ho hn hlo hb OG5 OW5
  have DE := Lib.hid (laws_eqCellSS _ _ ls w6 (View.toRd _ OH.out) (View.toRd _ OW6.out))
  go_wp2_with fail
  (go_at_call 9; refine DE.out.mono ?_; rintro e w7 ⟨rfl, hb⟩)
  have OG7 := Lib.hid (View.ownGrow OG6.out (Grew.below hb))
  have hbw7 : Below w.heap.size w w7 := Below.then hbw6 hb
  clear hb DE OG6 OW6
  have DH := Lib.hid (laws_heldCellSS _ 1 ns w7 (View.toRd _ OG7.out) (by omega) (by omega))
  go_wp2_with fail
  (go_at_call 11; refine DH.out.mono ?_; rintro e w8 ⟨rfl, hb⟩)
  have hbw8 : Below w.heap.size w w8 := Below.then hbw7 hb
  clear hb DH
  go_wp2
  go_ret
  exact ⟨rfl, hbw8⟩
end Go.Proofs.YtedgenmbdjadkaaGreatDoor
