/- The laws' measure, copy, comparison, marks of Touch. Each condition stands in its theorem. -/
import Derived.Test.YtmhopglbgaijiaaTStr
set_option linter.unusedVariables false
set_option linter.unusedSimpArgs false
namespace Go.Proofs.Ytmhopglbgaijiaa
open Go.ChangeShapes Go.WideShapes Go.ChangeAt Go.RowKit

structure TouchD where
  reads : List ByteArray
  writes : List ByteArray
def vTouch : View TouchD where
  k := 2
  rd w cs d := ∃ (s0 s1 : Value), cs = [s0, s1] ∧ (vSlice vStr 9).rd w [s0] d.reads ∧ (vSlice vStr 9).rd w [s1] d.writes
  own w fp cs d := ∃ (s0 s1 : Value) (f0 f1 : List Nat), cs = [s0, s1] ∧ fp = f0 ++ f1 ∧ (vSlice vStr 9).own w f0 [s0] d.reads ∧ (vSlice vStr 9).own w f1 [s1] d.writes
  len := by rintro w cs d ⟨s0, s1, rfl, _⟩; rfl
  one := by
    rintro w cs d ⟨s0, s1, rfl, h0, h1⟩ u hu
    simp only [List.mem_cons, List.not_mem_nil, or_false] at hu
    rcases hu with rfl | rfl
    · exact View.one _ h0 _ (by simp)
    · exact View.one _ h1 _ (by simp)
  grow := by rintro w w' cs d ⟨s0, s1, rfl, h0, h1⟩ g; exact ⟨s0, s1, rfl, View.grow _ h0 g, View.grow _ h1 g⟩
  toRd := by rintro w fp cs d ⟨s0, s1, f0, f1, rfl, rfl, h0, h1⟩; exact ⟨s0, s1, rfl, View.toRd _ h0, View.toRd _ h1⟩
  frame := by
    rintro w w' fp cs d ⟨s0, s1, f0, f1, rfl, rfl, h0, h1⟩ g
    exact ⟨s0, s1, f0, f1, rfl, rfl, View.frame _ h0 fun b hb => g b (by simp [hb]), View.frame _ h1 fun b hb => g b (by simp [hb])⟩
  lt := by
    rintro w fp cs d ⟨s0, s1, f0, f1, rfl, rfl, h0, h1⟩ b hb
    simp only [List.mem_append] at hb
    rcases hb with hb | hb
    · exact View.lt _ h0 b hb
    · exact View.lt _ h1 b hb
theorem vTouch_shape {w : World} {cs : List Value} {d : TouchD} (h : vTouch.rd w cs d) : ∃ a0 c0 a1 c1, cs = [.slice a0 d.reads.length c0, .slice a1 d.writes.length c1] := by
  obtain ⟨s0, s1, rfl, h0, h1⟩ := h
  obtain ⟨a0, c0, rfl⟩ := vSlice.form h0; obtain ⟨a1, c1, rfl⟩ := vSlice.form h1
  exact ⟨a0, c0, a1, c1, rfl⟩
def TouchD.wt (d : TouchD) : Nat := wtStrs d.reads + wtStrs d.writes
end Go.Proofs.Ytmhopglbgaijiaa
