/- The laws' measure, copy, comparison, marks of Call and of its slices. Each condition stands in its theorem. -/
import Derived.Test.YtmhopglbgaijiaaMark
set_option linter.unusedVariables false
set_option linter.unusedSimpArgs false
namespace Go.Proofs.Ytmhopglbgaijiaa
open Go.ChangeShapes Go.WideShapes Go.ChangeAt Go.RowKit

structure CallD where
  kind : Int
  name : ByteArray
  to : ByteArray
  a : Int
  b : Int
  text : ByteArray
def CallD.row (d : CallD) : List Value := [.int .i64 d.kind, .string d.name, .string d.to, .int .i64 d.a, .int .i64 d.b, .string d.text]
def CallD.ok (d : CallD) : Prop := d.name.size ≤ 9223372036854775807 ∧ d.to.size ≤ 9223372036854775807 ∧ d.text.size ≤ 9223372036854775807
def CallD.wt (d : CallD) : Nat := d.name.size + d.to.size + d.text.size
def vCall : View CallD := vRow CallD.row 6 CallD.ok (fun _ => rfl) (fun d u hu => by simp [CallD.row] at hu; rcases hu with rfl | rfl | rfl | rfl | rfl | rfl <;> rfl)
def mkCall (k : Int) : CallD := ⟨k, mtext (k + 1), mtext (k + 1 + 1), k + 1 + 1 + 1, k + 1 + 1 + 1 + 1, mtext (k + 1 + 1 + 1 + 1 + 1)⟩
theorem mkCall_ok (k : Int) (h : k ≤ 4294967280) : (mkCall k).ok := ⟨mtext_size _ (by omega), mtext_size _ (by omega), mtext_size _ (by omega)⟩
theorem marks_ok_Call {k : Int} {n : Nat} (h : k + (6 * n : Nat) ≤ 4294967280) : ∀ d ∈ marks mkCall 6 k n, d.ok := by
  intro d hd
  obtain ⟨i, hi, rfl⟩ := marks_mem hd
  exact mkCall_ok _ (by omega)
end Go.Proofs.Ytmhopglbgaijiaa
