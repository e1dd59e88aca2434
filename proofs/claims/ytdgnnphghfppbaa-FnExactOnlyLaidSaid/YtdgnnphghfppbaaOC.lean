/- What the arguments of a law read as: numbers, texts, structs, slices. No condition. -/
import Derived.Test.YtdgnnphghfppbaaCTouch
import Derived.Test.YtdgnnphghfppbaaTCell
import Derived.Test.YtdgnnphghfppbaaOpens
set_option linter.unusedVariables false
namespace Go.Proofs.Ytdgnnphghfppbaa
open Go.ChangeShapes Go.WideShapes Go.ChangeAt Go.RowKit
theorem opens_int : Opens Try.prog 3 vInt := opensInt Try.underlying3
theorem opens_str : Opens Try.prog 9 vStr := opensStr Try.underlying9
theorem Try.cellsLCell : Try.prog.cellsOf 48 = 2 := by kernel_rfl
set_option maxRecDepth 100000 in
theorem opens_Cell : Opens Try.prog 48 vCell := by
  intro H enc w fuel cs x h
  obtain ⟨xs, n, _, _, hl, hxl, hf⟩ := DataW.trod_struct Try.underlying48 h
  rw [Try.cellsLCell] at hl
  match cs, hl with
  | [c0, c1], _ =>
    match xs, hxl with
    | [y0, y1], _ =>
      have h0 : DataW.trod enc Try.prog w 0 (fun _ => true) true n 9 [c0] = some y0 := by
        have := hf 0 _ rfl
        rw [show Try.prog.cellsOf _ = 1 by kernel_rfl] at this
        exact this
      have h1 : DataW.trod enc Try.prog w 0 (fun _ => true) true n 9 [c1] = some y1 := by
        have := hf 1 _ rfl
        rw [show Try.prog.cellsOf _ = 1 by kernel_rfl] at this
        exact this
      obtain ⟨d0, e0, z0⟩ := opens_str _ _ _ _ h0
      obtain ⟨d1, e1, z1⟩ := opens_str _ _ _ _ h1
      simp only [List.cons.injEq, and_true] at e0
      subst e0
      simp only [List.cons.injEq, and_true] at e1
      subst e1
      exact ⟨⟨d0, d1⟩, rfl, ⟨z0, z1⟩⟩
theorem opens_CellS {x : TypeId} : Opens Try.prog 22 (vSlice vCell x) := opens_slice Try.underlying22 (by kernel_rfl) (by decide) opens_Cell
theorem opens_StrS {x : TypeId} : Opens Try.prog 30 (vSlice vStr x) := opens_slice Try.underlying30 (by kernel_rfl) (by decide) opens_str
theorem Try.cellsLTouch : Try.prog.cellsOf 32 = 2 := by kernel_rfl
set_option maxRecDepth 100000 in
theorem opens_Touch : Opens Try.prog 32 vTouch := by
  intro H enc w fuel cs x h
  obtain ⟨xs, n, _, _, hl, hxl, hf⟩ := DataW.trod_struct Try.underlying32 h
  rw [Try.cellsLTouch] at hl
  match cs, hl with
  | [c0, c1], _ =>
    match xs, hxl with
    | [y0, y1], _ =>
      have h0 : DataW.trod enc Try.prog w 0 (fun _ => true) true n 30 [c0] = some y0 := by
        have := hf 0 _ rfl
        rw [show Try.prog.cellsOf _ = 1 by kernel_rfl] at this
        exact this
      have h1 : DataW.trod enc Try.prog w 0 (fun _ => true) true n 30 [c1] = some y1 := by
        have := hf 1 _ rfl
        rw [show Try.prog.cellsOf _ = 1 by kernel_rfl] at this
        exact this
      obtain ⟨d0, e0⟩ := opens_StrS _ _ _ _ h0
      obtain ⟨d1, e1⟩ := opens_StrS _ _ _ _ h1
      exact ⟨⟨d0, d1⟩, _, _, rfl, e0, e1⟩
end Go.Proofs.Ytdgnnphghfppbaa
