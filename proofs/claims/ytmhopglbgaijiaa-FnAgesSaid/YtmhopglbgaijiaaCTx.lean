/- The laws' measure, copy, comparison, marks of Tx. Each condition stands in its theorem. -/
import Derived.Test.YtmhopglbgaijiaaTCall
import Derived.Test.YtmhopglbgaijiaaTAnswer
import Derived.Test.YtmhopglbgaijiaaCTouch
import Derived.Test.YtmhopglbgaijiaaTInt
set_option linter.unusedVariables false
set_option linter.unusedSimpArgs false
namespace Go.Proofs.Ytmhopglbgaijiaa
open Go.ChangeShapes Go.WideShapes Go.ChangeAt Go.RowKit

structure TxD where
  id : Int
  age : Int
  proc : Int
  began : Int
  calls : List CallD
  answers : List AnswerD
  touch : TouchD
  marks : List Int
  state : Int
def vTx : View TxD where
  k := 10
  rd w cs d := ∃ (s0 s1 s2 s3 s4 : Value), cs = [.int .i64 d.id, .int .i64 d.age, .int .i64 d.proc, .int .i64 d.began, s0, s1, s2, s3, s4, .int .i64 d.state] ∧ (vSlice vCall 149).rd w [s0] d.calls ∧ (vSlice vAnswer 151).rd w [s1] d.answers ∧ (vSlice vStr 9).rd w [s2] d.touch.reads ∧ (vSlice vStr 9).rd w [s3] d.touch.writes ∧ (vSlice vInt 3).rd w [s4] d.marks
  own w fp cs d := ∃ (s0 s1 s2 s3 s4 : Value) (f0 f1 f2 f3 f4 : List Nat), cs = [.int .i64 d.id, .int .i64 d.age, .int .i64 d.proc, .int .i64 d.began, s0, s1, s2, s3, s4, .int .i64 d.state] ∧ fp = f0 ++ f1 ++ f2 ++ f3 ++ f4 ∧ (vSlice vCall 149).own w f0 [s0] d.calls ∧ (vSlice vAnswer 151).own w f1 [s1] d.answers ∧ (vSlice vStr 9).own w f2 [s2] d.touch.reads ∧ (vSlice vStr 9).own w f3 [s3] d.touch.writes ∧ (vSlice vInt 3).own w f4 [s4] d.marks
  len := by rintro w cs d ⟨s0, s1, s2, s3, s4, rfl, _⟩; rfl
  one := by
    rintro w cs d ⟨s0, s1, s2, s3, s4, rfl, h0, h1, h2, h3, h4⟩ u hu
    simp only [List.mem_cons, List.not_mem_nil, or_false] at hu
    rcases hu with rfl | rfl | rfl | rfl | rfl | rfl | rfl | rfl | rfl | rfl
    · rfl
    · rfl
    · rfl
    · rfl
    · exact View.one _ h0 _ (by simp)
    · exact View.one _ h1 _ (by simp)
    · exact View.one _ h2 _ (by simp)
    · exact View.one _ h3 _ (by simp)
    · exact View.one _ h4 _ (by simp)
    · rfl
  grow := by rintro w w' cs d ⟨s0, s1, s2, s3, s4, rfl, h0, h1, h2, h3, h4⟩ g; exact ⟨s0, s1, s2, s3, s4, rfl, View.grow _ h0 g, View.grow _ h1 g, View.grow _ h2 g, View.grow _ h3 g, View.grow _ h4 g⟩
  toRd := by rintro w fp cs d ⟨s0, s1, s2, s3, s4, f0, f1, f2, f3, f4, rfl, rfl, h0, h1, h2, h3, h4⟩; exact ⟨s0, s1, s2, s3, s4, rfl, View.toRd _ h0, View.toRd _ h1, View.toRd _ h2, View.toRd _ h3, View.toRd _ h4⟩
  frame := by
    rintro w w' fp cs d ⟨s0, s1, s2, s3, s4, f0, f1, f2, f3, f4, rfl, rfl, h0, h1, h2, h3, h4⟩ g
    exact ⟨s0, s1, s2, s3, s4, f0, f1, f2, f3, f4, rfl, rfl, View.frame _ h0 fun b hb => g b (by simp [hb]), View.frame _ h1 fun b hb => g b (by simp [hb]), View.frame _ h2 fun b hb => g b (by simp [hb]), View.frame _ h3 fun b hb => g b (by simp [hb]), View.frame _ h4 fun b hb => g b (by simp [hb])⟩
  lt := by
    rintro w fp cs d ⟨s0, s1, s2, s3, s4, f0, f1, f2, f3, f4, rfl, rfl, h0, h1, h2, h3, h4⟩ b hb
    simp only [List.mem_append, List.append_assoc] at hb
    rcases hb with hb | hb | hb | hb | hb
    · exact View.lt _ h0 b hb
    · exact View.lt _ h1 b hb
    · exact View.lt _ h2 b hb
    · exact View.lt _ h3 b hb
    · exact View.lt _ h4 b hb
theorem vTx_shape {w : World} {cs : List Value} {d : TxD} (h : vTx.rd w cs d) : ∃ a0 c0 a1 c1 a2 c2 a3 c3 a4 c4, cs = [.int .i64 d.id, .int .i64 d.age, .int .i64 d.proc, .int .i64 d.began, .slice a0 d.calls.length c0, .slice a1 d.answers.length c1, .slice a2 d.touch.reads.length c2, .slice a3 d.touch.writes.length c3, .slice a4 d.marks.length c4, .int .i64 d.state] := by
  obtain ⟨s0, s1, s2, s3, s4, rfl, h0, h1, h2, h3, h4⟩ := h
  obtain ⟨a0, c0, rfl⟩ := vSlice.form h0; obtain ⟨a1, c1, rfl⟩ := vSlice.form h1; obtain ⟨a2, c2, rfl⟩ := vSlice.form h2; obtain ⟨a3, c3, rfl⟩ := vSlice.form h3; obtain ⟨a4, c4, rfl⟩ := vSlice.form h4
  exact ⟨a0, c0, a1, c1, a2, c2, a3, c3, a4, c4, rfl⟩
def TxD.wt (d : TxD) : Nat := wtS CallD.wt d.calls + wtS AnswerD.wt d.answers + wtStrs d.touch.reads + wtStrs d.touch.writes + d.marks.length
end Go.Proofs.Ytmhopglbgaijiaa
