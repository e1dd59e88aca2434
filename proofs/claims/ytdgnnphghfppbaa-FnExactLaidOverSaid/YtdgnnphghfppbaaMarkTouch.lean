/- Marks of access sets and transactions: the program's and the reference's. Each condition stands in its theorem. -/
import Derived.Test.YtdgnnphghfppbaaCTouch
set_option linter.unusedVariables false
set_option linter.unusedSimpArgs false
namespace Go.Proofs.Ytdgnnphghfppbaa
open Go.ChangeShapes Go.WideShapes Go.ChangeAt Go.RowKit

theorem nd2 {A B : List Nat} (h : (A ++ B).Nodup) : A.Nodup ∧ B.Nodup ∧ ∀ x ∈ B, x ∉ A := by
  rw [List.nodup_append] at h
  exact ⟨h.1, h.2.1, fun x hx hx' => h.2.2 x hx' x hx rfl⟩
theorem rebox {fp : List Nat} {W w' : World} {q : Nat} {o : Obj} (hu : Upon fp W w') (hq : W.heap[q]? = some o) (hn : q ∉ fp) : ∃ w1 : World, w' = w1.setB q o ∧ q < w1.heap.size :=
  ⟨w', (World.setB_self ((hu.block q (World.lt_of_get hq) hn).trans hq)).symm, Nat.lt_of_lt_of_le (World.lt_of_get hq) hu.size⟩
theorem alloc_at (w : World) (o : Obj) : (w.alloc o).heap[w.heap.size]? = some o := by
  show (w.heap.push o)[w.heap.size]? = _
  simp
theorem upon_alloc (fp : List Nat) (w : World) (o : Obj) : Upon fp w (w.alloc o) := Upon.below ((Below.refl _ _).ofAlloc o)
def cntTouch (d : TouchD) : Nat := 1 * d.reads.length + 1 * d.writes.length
set_option maxRecDepth 100000 in
theorem laws_markTouch (cs : List Value) (fp : List Nat) (d : TouchD) (k : Int) (w : World) (hs : vTouch.own w fp cs d) (hn : fp.Nodup) (h0 : 0 ≤ k) (h1 : k + (cntTouch d : Nat) ≤ 4294960000) :
    Calls Try.prog 20 #[.agg cs.toArray, .int .i64 k] w fun e w' => e = .returned (.int .i64 (k + (cntTouch d : Nat))) ∧ Upon fp w w' := by
  have hlt := View.lt _ hs
  obtain ⟨s0, s1, f0, f1, rfl, rfl, o0, o1⟩ := hs
  obtain ⟨a0, c0, rfl⟩ := vSlice.form (View.toRd _ o0)
  obtain ⟨a1, c1, rfl⟩ := vSlice.form (View.toRd _ o1)
  have HLT := Lib.hid hlt
  have O0 := Lib.hid o0
  have O1 := Lib.hid o1
  have HN := Lib.hid hn
  clear hlt o0 o1 hn
  have hcd : (cntTouch d : Int) = d.reads.length + d.writes.length := by unfold cntTouch; omega
  have HC := Lib.hid hcd
  have h2 : k + (d.reads.length : Int) + (d.writes.length : Int) ≤ 4294960000 := by rw [hcd] at h1; omega
  clear hcd h1
  go_enter Try.func20, Try.ntmps20
  go_wp2_with fail
  (go_at_call 39; refine (laws_markStringS _ f0 d.reads k _ (View.ownAlloc O0.out _) h0 (by omega)).mono ?_; rintro e w' ⟨rfl, _, hu⟩)
  have hU := (upon_alloc (f0 ++ f1) w (.cells #[.slice a0 d.reads.length c0, .slice a1 d.writes.length c1] 35)).trans (hu.mono (fun x hx => List.mem_append_left _ hx))
  have hO := View.ownUpon (View.ownAlloc O1.out (.cells #[.slice a0 d.reads.length c0, .slice a1 d.writes.length c1] 35)) hu (nd2 HN.out).2.2
  obtain ⟨w1, rfl, hq1⟩ := rebox hu (alloc_at w _) (fun h => absurd (HLT.out _ (List.mem_append_left _ h)) (Nat.lt_irrefl _))
  have HU := Lib.hid hU
  have HO := Lib.hid hO
  clear hu hU hO
  go_wp2_with fail
  (go_at_call 39; refine (laws_markStringS _ f1 d.writes _ _ HO.out (by omega) (by omega)).mono ?_; rintro e w' ⟨rfl, _, hu⟩)
  have HV := Lib.hid hu
  clear hu
  go_wp2
  go_ret
  exact ⟨ret_int (by rw [HC.out]; omega), HU.out.trans (HV.out.mono (fun x hx => List.mem_append_right _ hx))⟩
end Go.Proofs.Ytdgnnphghfppbaa
