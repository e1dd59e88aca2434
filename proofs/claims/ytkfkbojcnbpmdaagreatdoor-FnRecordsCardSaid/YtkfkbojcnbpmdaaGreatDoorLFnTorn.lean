/- The laws FnTorn and FnSeqTold: their walks. Each condition stands in its theorem. -/
import Derived.Test.YtkfkbojcnbpmdaaGreatDoorReadRI
import Derived.Test.YtkfkbojcnbpmdaaGreatDoorDrawR
import Derived.Test.YtkfkbojcnbpmdaaGreatDoorTorn
set_option linter.unusedVariables false
set_option linter.unusedSimpArgs false
namespace Go.Proofs.YtkfkbojcnbpmdaaGreatDoor
open Go.ChangeShapes Go.WideShapes Go.ChangeAt Go.RowKit

theorem RrOk.isNone {s : ByteArray} {n : Int} {b : Bool} {cs : List CellD} (h : RrOk s n b cs) (hn : readI s = none) : b = false := by
  cases b with
  | true =>
    have := h.1 rfl
    rw [hn] at this
    cases this
  | false => rfl
theorem RrOk.isSome {s : ByteArray} {n q : Int} {b : Bool} {cs ds : List CellD} (h : RrOk s n b cs) (hn : readI s = some (q, ds)) : b = true ∧ n = q ∧ cs = ds := by
  cases b with
  | true =>
    have := h.1 rfl
    rw [hn] at this
    injection this with this
    injection this with e1 e2
    exact ⟨rfl, e1.symm, e2.symm⟩
  | false =>
    have := (h.2 rfl).2.2
    rw [hn] at this
    cases this
theorem smalls_sm {a : List CellD} (h : ∀ x ∈ a, SmallC x) : Sm a := fun c hc => by
  have := h c hc
  unfold SmallC at this
  exact ⟨by omega, by omega⟩
theorem int_at {w : World} {B : Nat} {ao : Option Addr} {n cap : Nat} {xs : List Int} {e : TypeId} (h : OwnL rInt e w B (.slice ao n cap) xs) {i : Nat} (hi : i < xs.length) : n = xs.length ∧ ∃ b off, ao = some ⟨b, off, none⟩ ∧ b < w.heap.size ∧ w.cell? ⟨b, off + i, none⟩ = some (.int .i64 xs[i]) := by
  obtain ⟨ao', cap', hv, h1, h2, h3, h4⟩ := h.rd.shapeI
  cases hv
  obtain ⟨b, off, e1, e2, e3⟩ := h4 (by intro e; rw [e] at hi; simp at hi)
  exact ⟨rfl, b, off, e1, e2, e3 i hi⟩
theorem own_int_bel {e : TypeId} {w w' : World} {B : Nat} {v : Value} {xs : List Int} (h : OwnL rInt e w B v xs) (hb : Below w.heap.size w w') : OwnL rInt e w' B v xs := own_bel h hb
set_option maxRecDepth 100000 in
theorem impl_RecordSizeR (va : Value) (a : List CellD) (w : World) (hg : Glob w) (hr : (vSlice vCell 34).rd w [va] a) (hl : a.length ≤ 1048576) :
    Calls Tryz.prog 8 #[va] w fun e w' => e = .returned (.int .i64 ((recText 100000 a).size : Nat)) ∧ Below w.heap.size w w' := by
  obtain ⟨ao, ac, rfl⟩ := vSlice.form hr
  have D := Lib.hid (impl_RecordText 100000 _ a w hg.tab hr hl)
  clear hg hr
  have hz := recText_size 100000 a
  go_enter Tryz.func8, Tryz.ntmps8
  go_wp2_with fail
  (go_at_call 6; refine D.out.mono ?_; rintro e w' ⟨rfl, hb⟩)
  go_wp2
  go_ret
  exact ⟨rfl, hb⟩
end Go.Proofs.YtkfkbojcnbpmdaaGreatDoor
