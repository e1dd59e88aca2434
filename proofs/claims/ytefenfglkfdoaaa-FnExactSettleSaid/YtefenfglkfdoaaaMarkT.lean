/- Marks of access sets and transactions: the program's and the reference's. Each condition stands in its theorem. -/
import Derived.Test.YtefenfglkfdoaaaCTx
set_option linter.unusedVariables false
set_option linter.unusedSimpArgs false
namespace Go.Proofs.Ytefenfglkfdoaaa
open Go.ChangeShapes Go.WideShapes Go.ChangeAt Go.RowKit

theorem nd2 {A B : List Nat} (h : (A ++ B).Nodup) : A.Nodup ∧ B.Nodup ∧ ∀ x ∈ B, x ∉ A := by
  rw [List.nodup_append] at h
  exact ⟨h.1, h.2.1, fun x hx hx' => h.2.2 x hx' x hx rfl⟩
theorem rebox {fp : List Nat} {W w' : World} {q : Nat} {o : Obj} (hu : Upon fp W w') (hq : W.heap[q]? = some o) (hn : q ∉ fp) : ∃ w1 : World, w' = w1.setB q o ∧ q < w1.heap.size :=
  ⟨w', (World.setB_self ((hu.block q (World.lt_of_get hq) hn).trans hq)).symm, Nat.lt_of_lt_of_le (World.lt_of_get hq) hu.size⟩
theorem alloc_at (w : World) (o : Obj) : (w.alloc o).heap[w.heap.size]? = some o := by
  show (w.heap.push o)[w.heap.size]? = _
  simp
theorem upon_alloc (fp : List Nat) (w : World) (o : Obj) : Upon fp w (w.alloc o) := Upon.below ((Below.refl _ _).ofAlloc o)
def cntTouch (d : TouchD) : Nat := 1 * d.reads.length + 1 * d.writes.length
set_option maxRecDepth 100000 in
theorem laws_markTouch (cs : List Value) (fp : List Nat) (d : TouchD) (k : Int) (w : World) (hs : vTouch.own w fp cs d) (hn : fp.Nodup) (h0 : 0 ≤ k) (h1 : k + (cntTouch d : Nat) ≤ 4294960000) :
    Calls Try.prog 68 #[.agg cs.toArray, .int .i64 k] w fun e w' => e = .returned (.int .i64 (k + (cntTouch d : Nat))) ∧ Upon fp w w' := by
  have hlt := View.lt _ hs
  obtain ⟨s0, s1, f0, f1, rfl, rfl, o0, o1⟩ := hs
  obtain ⟨a0, c0, rfl⟩ := vSlice.form (View.toRd _ o0)
  obtain ⟨a1, c1, rfl⟩ := vSlice.form (View.toRd _ o1)
  have HLT := Lib.hid hlt
  have O0 := Lib.hid o0
  have O1 := Lib.hid o1
  have HN := Lib.hid hn
  clear hlt o0 o1 hn
  have hcd : (cntTouch d : Int) = d.reads.length + d.writes.length := by unfold cntTouch; omega
  have HC := Lib.hid hcd
  have h2 : k + (d.reads.length : Int) + (d.writes.length : Int) ≤ 4294960000 := by rw [hcd] at h1; omega
  clear hcd h1
  go_enter Try.func68, Try.ntmps68
  go_wp2_with fail
  (go_at_call 106; refine (laws_markStringS _ f0 d.reads k _ (View.ownAlloc O0.out _) h0 (by omega)).mono ?_; rintro e w' ⟨rfl, _, hu⟩)
  have hU := (upon_alloc (f0 ++ f1) w (.cells #[.slice a0 d.reads.length c0, .slice a1 d.writes.length c1] 26)).trans (hu.mono (fun x hx => List.mem_append_left _ hx))
  have hO := View.ownUpon (View.ownAlloc O1.out (.cells #[.slice a0 d.reads.length c0, .slice a1 d.writes.length c1] 26)) hu (nd2 HN.out).2.2
  obtain ⟨w1, rfl, hq1⟩ := rebox hu (alloc_at w _) (fun h => absurd (HLT.out _ (List.mem_append_left _ h)) (Nat.lt_irrefl _))
  have HU := Lib.hid hU
  have HO := Lib.hid hO
  clear hu hU hO
  go_wp2_with fail
  (go_at_call 106; refine (laws_markStringS _ f1 d.writes _ _ HO.out (by omega) (by omega)).mono ?_; rintro e w' ⟨rfl, _, hu⟩)
  have HV := Lib.hid hu
  clear hu
  go_wp2
  go_ret
  exact ⟨ret_int (by rw [HC.out]; omega), HU.out.trans (HV.out.mono (fun x hx => List.mem_append_right _ hx))⟩
def cntTx (d : TxD) : Nat := 6 * d.calls.length + 3 * d.answers.length + cntTouch d.touch + 1 * d.marks.length
set_option maxRecDepth 100000 in
set_option maxHeartbeats 1000000 in
theorem laws_markTx (cs : List Value) (fp : List Nat) (d : TxD) (k : Int) (w : World) (hs : vTx.own w fp cs d) (hn : fp.Nodup) (h0 : 0 ≤ k) (h1 : k + (cntTx d : Nat) ≤ 4294960000) :
    Calls Try.prog 21 #[.agg cs.toArray, .int .i64 k] w fun e w' => e = .returned (.int .i64 (k + (cntTx d : Nat))) ∧ Upon fp w w' := by
  have hlt := View.lt _ hs
  obtain ⟨s0, s1, s2, s3, s4, f0, f1, f2, f3, f4, rfl, rfl, o0, o1, o2, o3, o4⟩ := hs
  obtain ⟨a0, c0, rfl⟩ := vSlice.form (View.toRd _ o0)
  obtain ⟨a1, c1, rfl⟩ := vSlice.form (View.toRd _ o1)
  obtain ⟨a2, c2, rfl⟩ := vSlice.form (View.toRd _ o2)
  obtain ⟨a3, c3, rfl⟩ := vSlice.form (View.toRd _ o3)
  obtain ⟨a4, c4, rfl⟩ := vSlice.form (View.toRd _ o4)
  have HLT := Lib.hid hlt
  have O0 := Lib.hid (View.ownAlloc o0 (.cells #[.int .i64 d.id, .int .i64 d.age, .int .i64 d.proc, .int .i64 d.began, .slice a0 d.calls.length c0, .slice a1 d.answers.length c1, .slice a2 d.touch.reads.length c2, .slice a3 d.touch.writes.length c3, .slice a4 d.marks.length c4, .int .i64 d.state] 29))
  have O1 := Lib.hid (View.ownAlloc o1 (.cells #[.int .i64 d.id, .int .i64 d.age, .int .i64 d.proc, .int .i64 d.began, .slice a0 d.calls.length c0, .slice a1 d.answers.length c1, .slice a2 d.touch.reads.length c2, .slice a3 d.touch.writes.length c3, .slice a4 d.marks.length c4, .int .i64 d.state] 29))
  have O2 := Lib.hid (View.ownAlloc o2 (.cells #[.int .i64 d.id, .int .i64 d.age, .int .i64 d.proc, .int .i64 d.began, .slice a0 d.calls.length c0, .slice a1 d.answers.length c1, .slice a2 d.touch.reads.length c2, .slice a3 d.touch.writes.length c3, .slice a4 d.marks.length c4, .int .i64 d.state] 29))
  have O3 := Lib.hid (View.ownAlloc o3 (.cells #[.int .i64 d.id, .int .i64 d.age, .int .i64 d.proc, .int .i64 d.began, .slice a0 d.calls.length c0, .slice a1 d.answers.length c1, .slice a2 d.touch.reads.length c2, .slice a3 d.touch.writes.length c3, .slice a4 d.marks.length c4, .int .i64 d.state] 29))
  have O4 := Lib.hid (View.ownAlloc o4 (.cells #[.int .i64 d.id, .int .i64 d.age, .int .i64 d.proc, .int .i64 d.began, .slice a0 d.calls.length c0, .slice a1 d.answers.length c1, .slice a2 d.touch.reads.length c2, .slice a3 d.touch.writes.length c3, .slice a4 d.marks.length c4, .int .i64 d.state] 29))
  have n4 := nd2 hn
  have n3 := nd2 n4.1
  have n2 := nd2 n3.1
  have n1 := nd2 n2.1
  have N4 := Lib.hid n4
  have N3 := Lib.hid n3
  have N2 := Lib.hid n2
  have N1 := Lib.hid n1
  clear hlt o0 o1 o2 o3 o4 hn n1 n2 n3 n4
  have hcd : (cntTx d : Int) = 6 * d.calls.length + 3 * d.answers.length + cntTouch d.touch + d.marks.length := by unfold cntTx; omega
  have HC := Lib.hid hcd
  rw [hcd] at h1
  clear hcd
  obtain ⟨ct, hct⟩ : ∃ ct : Nat, ct = cntTouch d.touch := ⟨_, rfl⟩
  rw [← hct] at h1
  have HCT := Lib.hid hct
  clear hct
  have hw0 : w.heap.size ∉ f0 ++ f1 ++ f2 ++ f3 ++ f4 := fun h => absurd (HLT.out _ h) (Nat.lt_irrefl _)
  have HW0 := Lib.hid hw0
  clear hw0
  go_enter Try.func21, Try.ntmps21
  go_wp2_with fail
  (go_at_call 49; refine (laws_markCallS _ f0 d.calls k _ O0.out h0 (by omega)).mono ?_; rintro e w' ⟨rfl, _, hu⟩)
  have hU := (upon_alloc (f0 ++ f1 ++ f2 ++ f3 ++ f4) w (.cells #[.int .i64 d.id, .int .i64 d.age, .int .i64 d.proc, .int .i64 d.began, .slice a0 d.calls.length c0, .slice a1 d.answers.length c1, .slice a2 d.touch.reads.length c2, .slice a3 d.touch.writes.length c3, .slice a4 d.marks.length c4, .int .i64 d.state] 29)).trans (hu.mono (fun x hx => by simp [hx]))
  have p1 := View.ownUpon O1.out hu N1.out.2.2
  have p2 := View.ownUpon O2.out hu (fun x hx h => N2.out.2.2 x hx (by simp [h]))
  have p3 := View.ownUpon O3.out hu (fun x hx h => N3.out.2.2 x hx (by simp [h]))
  have p4 := View.ownUpon O4.out hu (fun x hx h => N4.out.2.2 x hx (by simp [h]))
  obtain ⟨w1, rfl, hq1⟩ := rebox hu (alloc_at w _) (fun h => HW0.out (by simp [h]))
  have U1 := Lib.hid hU
  have P1 := Lib.hid p1
  have P2 := Lib.hid p2
  have P3 := Lib.hid p3
  have P4 := Lib.hid p4
  clear hu hU p1 p2 p3 p4 O0 O1 O2 O3 O4
  go_wp2_with fail
  (go_at_call 72; refine (laws_markAnswerS _ f1 d.answers _ _ P1.out (by omega) (by omega)).mono ?_; rintro e w' ⟨rfl, _, hu⟩)
  have hU := U1.out.trans (hu.mono (fp' := f0 ++ f1 ++ f2 ++ f3 ++ f4) (fun x hx => by simp [hx]))
  have p2 := View.ownUpon P2.out hu (fun x hx h => N2.out.2.2 x hx (by simp [h]))
  have p3 := View.ownUpon P3.out hu (fun x hx h => N3.out.2.2 x hx (by simp [h]))
  have p4 := View.ownUpon P4.out hu (fun x hx h => N4.out.2.2 x hx (by simp [h]))
  obtain ⟨w2, rfl, hq2⟩ := rebox hu (World.setB_at _ _ _ hq1) (fun h => HW0.out (by simp [h]))
  have U2 := Lib.hid hU
  have R2 := Lib.hid p2
  have R3 := Lib.hid p3
  have R4 := Lib.hid p4
  clear hu hU p2 p3 p4 P1 P2 P3 P4 U1 hq1
  go_wp2_with fail
  (go_at_call 68; refine (laws_markTouch _ (f2 ++ f3) d.touch _ _ ⟨_, _, f2, f3, rfl, rfl, R2.out, R3.out⟩ (List.nodup_append.2 ⟨N2.out.2.1, N3.out.2.1, fun x hx y hy e => N3.out.2.2 y hy (by simp [← e, hx])⟩) (by omega) (by rw [← HCT.out]; omega)).mono ?_; rintro e w' ⟨rfl, hu⟩)
  have hU := U2.out.trans (hu.mono (fp' := f0 ++ f1 ++ f2 ++ f3 ++ f4) (fun x hx => by simp at hx ⊢; rcases hx with h | h <;> simp [h]))
  have p4 := View.ownUpon R4.out hu (fun x hx h => N4.out.2.2 x hx (by simp at h ⊢; rcases h with h | h <;> simp [h]))
  obtain ⟨w3, rfl, hq3⟩ := rebox hu (World.setB_at _ _ _ hq2) (fun h => HW0.out (by simp at h ⊢; rcases h with h | h <;> simp [h]))
  have U3 := Lib.hid hU
  have S4 := Lib.hid p4
  clear hu hU p4 R2 R3 R4 U2 hq2
  rw [← HCT.out]
  go_wp2_with fail
  (go_at_call 54; refine (laws_markIntS _ f4 d.marks _ _ S4.out (by omega) (by omega)).mono ?_; rintro e w' ⟨rfl, _, hu⟩)
  have U4 := Lib.hid (U3.out.trans (hu.mono (fp' := f0 ++ f1 ++ f2 ++ f3 ++ f4) (fun x hx => by simp [hx])))
  clear hu
  go_wp2
  go_ret
  exact ⟨ret_int (by rw [HC.out, ← HCT.out]; omega), U4.out⟩
end Go.Proofs.Ytefenfglkfdoaaa
