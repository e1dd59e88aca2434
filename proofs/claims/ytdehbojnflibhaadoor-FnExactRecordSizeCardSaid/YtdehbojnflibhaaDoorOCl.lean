/- What the arguments of a law read as: numbers, texts, structs, slices. No condition. -/
import Derived.Test.YtdehbojnflibhaaDoorTCell
import Derived.Test.YtdehbojnflibhaaDoorOpens
set_option linter.unusedVariables false
namespace Go.Proofs.YtdehbojnflibhaaDoor
open Go.ChangeShapes Go.WideShapes Go.ChangeAt Go.RowKit
theorem opens_int : Opens Tryd.prog 3 vInt := opensInt Tryd.underlying3
theorem opens_str : Opens Tryd.prog 9 vStr := opensStr Tryd.underlying9
theorem Tryd.cellsLCell : Tryd.prog.cellsOf 43 = 2 := by kernel_rfl
set_option maxRecDepth 100000 in
theorem opens_Cell : Opens Tryd.prog 43 vCell := by
  intro H enc w fuel cs x h
  obtain ⟨xs, n, _, _, hl, hxl, hf⟩ := DataW.trod_struct Tryd.underlying43 h
  rw [Tryd.cellsLCell] at hl
  match cs, hl with
  | [c0, c1], _ =>
    match xs, hxl with
    | [y0, y1], _ =>
      have h0 : DataW.trod enc Tryd.prog w 0 (fun _ => true) true n 9 [c0] = some y0 := by
        have := hf 0 _ rfl
        rw [show Tryd.prog.cellsOf _ = 1 by kernel_rfl] at this
        exact this
      have h1 : DataW.trod enc Tryd.prog w 0 (fun _ => true) true n 9 [c1] = some y1 := by
        have := hf 1 _ rfl
        rw [show Tryd.prog.cellsOf _ = 1 by kernel_rfl] at this
        exact this
      obtain ⟨d0, e0, z0⟩ := opens_str _ _ _ _ h0
      obtain ⟨d1, e1, z1⟩ := opens_str _ _ _ _ h1
      simp only [List.cons.injEq, and_true] at e0
      subst e0
      simp only [List.cons.injEq, and_true] at e1
      subst e1
      exact ⟨⟨d0, d1⟩, rfl, ⟨z0, z1⟩⟩
theorem opens_CellS {x : TypeId} : Opens Tryd.prog 27 (vSlice vCell x) := opens_slice Tryd.underlying27 (by kernel_rfl) (by decide) opens_Cell
end Go.Proofs.YtdehbojnflibhaaDoor
