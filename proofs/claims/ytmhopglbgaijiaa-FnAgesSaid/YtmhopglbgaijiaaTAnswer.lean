/- The laws' measure, copy, comparison, marks of Answer and of its slices. Each condition stands in its theorem. -/
import Derived.Test.YtmhopglbgaijiaaMark
set_option linter.unusedVariables false
set_option linter.unusedSimpArgs false
namespace Go.Proofs.Ytmhopglbgaijiaa
open Go.ChangeShapes Go.WideShapes Go.ChangeAt Go.RowKit

structure AnswerD where
  code : Int
  n : Int
  text : ByteArray
def AnswerD.row (d : AnswerD) : List Value := [.int .i64 d.code, .int .i64 d.n, .string d.text]
def AnswerD.ok (d : AnswerD) : Prop := d.text.size ≤ 9223372036854775807
def AnswerD.wt (d : AnswerD) : Nat := d.text.size
def vAnswer : View AnswerD := vRow AnswerD.row 3 AnswerD.ok (fun _ => rfl) (fun d u hu => by simp [AnswerD.row] at hu; rcases hu with rfl | rfl | rfl <;> rfl)
def mkAnswer (k : Int) : AnswerD := ⟨k, k + 1, mtext (k + 1 + 1)⟩
theorem mkAnswer_ok (k : Int) (h : k ≤ 4294967280) : (mkAnswer k).ok := mtext_size _ (by omega)
theorem marks_ok_Answer {k : Int} {n : Nat} (h : k + (3 * n : Nat) ≤ 4294967280) : ∀ d ∈ marks mkAnswer 3 k n, d.ok := by
  intro d hd
  obtain ⟨i, hi, rfl⟩ := marks_mem hd
  exact mkAnswer_ok _ (by omega)
end Go.Proofs.Ytmhopglbgaijiaa
