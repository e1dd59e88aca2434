/- The law of ReadRecord. Each condition stands in its theorem. -/
import Derived.Test.YtkfkbojcnbpmdaaDoorReadRI
set_option linter.unusedVariables false
set_option linter.unusedSimpArgs false
namespace Go.Proofs.YtkfkbojcnbpmdaaDoor
open Go.ChangeShapes Go.WideShapes Go.ChangeAt Go.RowKit

theorem RrOk.same {s : ByteArray} {n n' : Int} {b b' : Bool} {cs cs' : List CellD} (h : RrOk s n b cs) (h' : RrOk s n' b' cs') : n' = n ∧ b' = b ∧ cs' = cs := by
  cases b with
  | true =>
    have a := h.1 rfl
    cases b' with
    | true =>
      have a' := h'.1 rfl
      rw [a] at a'
      injection a' with a'
      injection a' with e1 e2
      exact ⟨e1.symm, rfl, e2.symm⟩
    | false =>
      have a' := (h'.2 rfl).2.2
      rw [a] at a'
      cases a'
  | false =>
    obtain ⟨a1, a2, a3⟩ := h.2 rfl
    cases b' with
    | true =>
      have a' := h'.1 rfl
      rw [a3] at a'
      cases a'
    | false =>
      obtain ⟨c1, c2, c3⟩ := h'.2 rfl
      exact ⟨c1.trans a1.symm, rfl, c2.trans a2.symm⟩
theorem RrOk.sm {s : ByteArray} {n : Int} {b : Bool} {cs : List CellD} (h : RrOk s n b cs) : Sm cs := by
  cases b with
  | true =>
    have a := (readI_inv (h.1 rfl)).2.2.2
    exact fun c hc => ⟨by have := (a c hc).1; omega, by have := (a c hc).2; omega⟩
  | false =>
    rw [(h.2 rfl).2.1]
    exact Sm.nil
theorem RrOk.len {s : ByteArray} {n : Int} {b : Bool} {cs : List CellD} (h : RrOk s n b cs) (hs : s.size ≤ 1048576) : cs.length ≤ 1048577 := by
  cases b with
  | true =>
    have a := (readI_inv (h.1 rfl)).2.2.1
    have h1 := mid_len (splitL 32 s.data.toList)
    rw [a, List.length_map] at h1
    have h2 := splitL_length 32 s.data.toList
    have e : s.data.toList.length = s.size := by simp
    omega
  | false =>
    rw [(h.2 rfl).2.1]
    simp
/-- what the readers of a record leave, owned -/
def RrM (s : ByteArray) (w : World) (e : Ending) (w' : World) : Prop := ∃ n v b cs fp, e = .returned (.tuple #[.int .i64 n, v, .bool b]) ∧ Fresh (vSlice vCell 51) w w' fp [v] cs ∧ RrOk s n b cs ∧ Below w.heap.size w w'
theorem RrP.m {s : ByteArray} {w w' : World} {e : Ending} (h : RrP s w e w') : RrM s w e w' := by
  obtain ⟨n, v, b, cs, rfl, ho, hok, hb⟩ := h
  obtain ⟨fp, h1, h2, h3⟩ := own_of_cells ho (fun d hd => by have := hok.sm d hd; exact ⟨by omega, by omega⟩)
  exact ⟨n, v, b, cs, fp, rfl, ⟨h1, h2, h3⟩, hok, hb⟩
set_option maxRecDepth 100000 in
set_option maxHeartbeats 4000000 in
theorem law_ReadRecord (s : ByteArray) (w : World) (hs : s.size ≤ 9223372036854775807) (hg : Glob w) : Calls Tryd.prog 5 #[.string s] w (Yes w) := by
  unfold Yes
  have HG := Lib.hid hg
  clear hg
  go_enter Tryd.func5, Tryd.ntmps5
  by_cases hbig : (1048576 : Int) < s.size
  · go_wp2
    go_ret
    exact ⟨rfl, (by repeat (first | with_reducible exact Below.refl _ _ | with_reducible apply Below.ofExt | with_reducible apply Below.ofAlloc | with_reducible apply Below.drew | with_reducible apply Below.ofDrewN | with_reducible assumption | (with_reducible refine Below.setCell ?_ (by first | exact Nat.le_refl _ | (simp [go_sem]; done) | (simp [go_sem]; omega)) _)))⟩
  have hs2 : s.size ≤ 1048576 := by omega
  go_wp2_with fail
  (go_at_call 13; refine (spec_ReadRecord s w hs2).mono ?_; intro e w1 hm; obtain ⟨n, vW, b, cs, fpW, rfl, hf, hok, hb⟩ := hm.m; clear hm)
  have HOK := Lib.hid hok
  have hcl := hok.len hs2
  obtain ⟨xW, yW, rfl⟩ := vSlice.form (View.toRd _ hf.own)
  have OW := Lib.hid hf.own
  have SW := Lib.hid hf.sp
  have hbw := hb
  clear hf hok hb
  have D1 := Lib.hid (impl_ReadRecord s w1 (HG.out.below hbw) hs2)
  go_wp2_with fail
  (go_at_call 10; refine D1.out.mono ?_; intro e w2 hm; obtain ⟨n', vG, b', cs', fpG, rfl, hf, hok, hb⟩ := hm.m; clear hm)
  obtain ⟨rfl, rfl, rfl⟩ := HOK.out.same hok
  obtain ⟨xG, yG, rfl⟩ := vSlice.form (View.toRd _ hf.own)
  have OG := Lib.hid hf.own
  have SG := Lib.hid hf.sp
  have OW2 := Lib.hid (View.ownGrow OW.out (Grew.below hb))
  have hbw2 : Below w.heap.size w w2 := Below.then hbw hb
  have DWG : Hid (∀ x ∈ fpW, x ∉ fpG) := fun x hx h => by have h1 := SW.out.hi x hx; have h2 := SG.out.lo x h; omega
  have hsz1 := hbw.size
  have LG : Hid (∀ x ∈ fpG, w.heap.size ≤ x) := fun x hx => by have h2 := SG.out.lo x hx; omega
  clear hf hok hb D1 OW
  have DE := Lib.hid (laws_eqCellS _ _ cs' w2 (View.toRd _ OG.out) (View.toRd _ OW2.out))
  go_wp2_with fail
  (go_at_call 14; refine DE.out.mono ?_; rintro e w3 ⟨rfl, hb⟩)
  have OG3 := Lib.hid (View.ownGrow OG.out (Grew.below hb))
  have OW3 := Lib.hid (View.ownGrow OW2.out (Grew.below hb))
  have hbw3 : Below w.heap.size w w3 := Below.then hbw2 hb
  clear hb DE OG OW2
  have DM := Lib.hid (laws_markCellS _ fpG cs' 1 w3 OG3.out (by omega) (by omega))
  go_wp2_with fail
  (go_at_call 15; refine DM.out.mono ?_; rintro e w4 ⟨rfl, hm, hu⟩)
  have OW4 := Lib.hid (View.ownUpon OW3.out hu DWG.out)
  have OG4 := Lib.hid hm
  have hbw4 : Below w.heap.size w w4 := Below.trans hbw3 (hu.toBelow hbw3.size LG.out)
  clear hm hu DM OG3 OW3
  have DH := Lib.hid (laws_heldCellS _ 1 cs'.length w4 (View.toRd _ OG4.out) (by omega) (by omega))
  go_wp2_with fail
  (go_at_call 16; refine DH.out.mono ?_; rintro e w5 ⟨rfl, hb⟩)
  have hkr : ¬ (1 : Int) + (2 * cs'.length : Nat) < 0 := by omega
  have OG5 := Lib.hid (View.ownGrow OG4.out (Grew.below hb))
  have OW5 := Lib.hid (View.ownGrow OW4.out (Grew.below hb))
  have hbw5 : Below w.heap.size w w5 := Below.then hbw4 hb
  clear hb DH OG4 OW4
  have D1 := Lib.hid (impl_ReadRecord s w5 (HG.out.below hbw5) hs2)
  go_wp2_with fail
  (go_at_call 10; refine D1.out.mono ?_; intro e w6 hm; obtain ⟨n3, vH, b3, cs3, fpH, rfl, hf, hok, hb⟩ := hm.m; clear hm)
  obtain ⟨rfl, rfl, rfl⟩ := HOK.out.same hok
  obtain ⟨xH, yH, rfl⟩ := vSlice.form (View.toRd _ hf.own)
  have OH := Lib.hid hf.own
  have OG6 := Lib.hid (View.ownGrow OG5.out (Grew.below hb))
  have OW6 := Lib.hid (View.ownGrow OW5.out (Grew.below hb))
  have hbw6 : Below w.heap.size w w6 := Below.then hbw5 hb
  clear hf hok hb D1 OG5 OW5
  have DE := Lib.hid (laws_eqCellS _ _ cs3 w6 (View.toRd _ OH.out) (View.toRd _ OW6.out))
  go_wp2_with fail
  (go_at_call 14; refine DE.out.mono ?_; rintro e w7 ⟨rfl, hb⟩)
  have OG7 := Lib.hid (View.ownGrow OG6.out (Grew.below hb))
  have hbw7 : Below w.heap.size w w7 := Below.then hbw6 hb
  clear hb DE OG6 OW6
  have DH := Lib.hid (laws_heldCellS _ 1 cs3.length w7 (View.toRd _ OG7.out) (by omega) (by omega))
  go_wp2_with fail
  (go_at_call 16; refine DH.out.mono ?_; rintro e w8 ⟨rfl, hb⟩)
  have hbw8 : Below w.heap.size w w8 := Below.then hbw7 hb
  clear hb DH
  go_wp2
  go_ret
  exact ⟨rfl, hbw8⟩
end Go.Proofs.YtkfkbojcnbpmdaaDoor
