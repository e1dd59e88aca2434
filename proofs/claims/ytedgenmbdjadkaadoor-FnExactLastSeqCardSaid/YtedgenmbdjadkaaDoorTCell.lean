/- The laws' measure, copy, comparison, marks of Cell and of its slices. Each condition stands in its theorem. -/
import Derived.Test.YtedgenmbdjadkaaDoorMark
set_option linter.unusedVariables false
set_option linter.unusedSimpArgs false
namespace Go.Proofs.YtedgenmbdjadkaaDoor
open Go.ChangeShapes Go.WideShapes Go.ChangeAt Go.RowKit

structure CellD where
  key : ByteArray
  val : ByteArray
def CellD.row (d : CellD) : List Value := [.string d.key, .string d.val]
def CellD.ok (d : CellD) : Prop := d.key.size ≤ 9223372036854775807 ∧ d.val.size ≤ 9223372036854775807
def CellD.wt (d : CellD) : Nat := d.key.size + d.val.size
def vCell : View CellD := vRow CellD.row 2 CellD.ok (fun _ => rfl) (fun d u hu => by simp [CellD.row] at hu; rcases hu with rfl | rfl <;> rfl)
def mkCell (k : Int) : CellD := ⟨mtext k, mtext (k + 1)⟩
theorem mkCell_ok (k : Int) (h : k ≤ 4294967280) : (mkCell k).ok := ⟨mtext_size _ (by omega), mtext_size _ (by omega)⟩
theorem marks_ok_Cell {k : Int} {n : Nat} (h : k + (2 * n : Nat) ≤ 4294967280) : ∀ d ∈ marks mkCell 2 k n, d.ok := by
  intro d hd
  obtain ⟨i, hi, rfl⟩ := marks_mem hd
  exact mkCell_ok _ (by omega)
theorem Tryd.elemCellS : Elem Tryd.prog 40 52 2 32 := Elem.of (.agg #[.string ⟨#[]⟩, .string ⟨#[]⟩]) Tryd.underlying40 (by kernel_rfl) rfl (by decide)
end Go.Proofs.YtedgenmbdjadkaaDoor
