/- What the arguments of a law read as: numbers, texts, structs, slices. No condition. -/
import Derived.Test.YtdelkphahpbegaaCDisk
import Derived.Test.YtdelkphahpbegaaOpens
set_option linter.unusedVariables false
namespace Go.Proofs.Ytdelkphahpbegaa
open Go.ChangeShapes Go.WideShapes Go.ChangeAt Go.RowKit
theorem opens_int : Opens Try.prog 3 vInt := opensInt Try.underlying3
theorem opens_str : Opens Try.prog 9 vStr := opensStr Try.underlying9
theorem opens_bool : Opens Try.prog 4 vBool := opensBool Try.underlying4
theorem Try.cellsLCell : Try.prog.cellsOf 57 = 2 := by kernel_rfl
set_option maxRecDepth 100000 in
theorem opens_Cell : Opens Try.prog 57 vCell := by
  intro H enc w fuel cs x h
  obtain ⟨xs, n, _, _, hl, hxl, hf⟩ := DataW.trod_struct Try.underlying57 h
  rw [Try.cellsLCell] at hl
  match cs, hl with
  | [c0, c1], _ =>
    match xs, hxl with
    | [y0, y1], _ =>
      have h0 : DataW.trod enc Try.prog w 0 (fun _ => true) true n 9 [c0] = some y0 := by
        have := hf 0 _ rfl
        rw [show Try.prog.cellsOf _ = 1 by kernel_rfl] at this
        exact this
      have h1 : DataW.trod enc Try.prog w 0 (fun _ => true) true n 9 [c1] = some y1 := by
        have := hf 1 _ rfl
        rw [show Try.prog.cellsOf _ = 1 by kernel_rfl] at this
        exact this
      obtain ⟨d0, e0, z0⟩ := opens_str _ _ _ _ h0
      obtain ⟨d1, e1, z1⟩ := opens_str _ _ _ _ h1
      simp only [List.cons.injEq, and_true] at e0
      subst e0
      simp only [List.cons.injEq, and_true] at e1
      subst e1
      exact ⟨⟨d0, d1⟩, rfl, ⟨z0, z1⟩⟩
theorem opens_CellS {x : TypeId} : Opens Try.prog 36 (vSlice vCell x) := opens_slice Try.underlying36 (by kernel_rfl) (by decide) opens_Cell
theorem Try.cellsLSlot : Try.prog.cellsOf 71 = 3 := by kernel_rfl
set_option maxRecDepth 100000 in
theorem opens_Slot : Opens Try.prog 71 vSlot := by
  intro H enc w fuel cs x h
  obtain ⟨xs, n, _, _, hl, hxl, hf⟩ := DataW.trod_struct Try.underlying71 h
  rw [Try.cellsLSlot] at hl
  match cs, hl with
  | [c0, c1, c2], _ =>
    match xs, hxl with
    | [y0, y1, y2], _ =>
      have h0 : DataW.trod enc Try.prog w 0 (fun _ => true) true n 3 [c0] = some y0 := by
        have := hf 0 _ rfl
        rw [show Try.prog.cellsOf _ = 1 by kernel_rfl] at this
        exact this
      have h1 : DataW.trod enc Try.prog w 0 (fun _ => true) true n 36 [c1] = some y1 := by
        have := hf 1 _ rfl
        rw [show Try.prog.cellsOf _ = 1 by kernel_rfl] at this
        exact this
      have h2 : DataW.trod enc Try.prog w 0 (fun _ => true) true n 4 [c2] = some y2 := by
        have := hf 2 _ rfl
        rw [show Try.prog.cellsOf _ = 1 by kernel_rfl] at this
        exact this
      obtain ⟨d0, e0, _⟩ := opens_int _ _ _ _ h0
      obtain ⟨d1, e1⟩ := opens_CellS _ _ _ _ h1
      obtain ⟨d2, e2, _⟩ := opens_bool _ _ _ _ h2
      simp only [List.cons.injEq, and_true] at e0
      subst e0
      simp only [List.cons.injEq, and_true] at e2
      subst e2
      exact ⟨⟨d0, d1, d2⟩, _, rfl, e1⟩
theorem opens_SlotS {x : TypeId} : Opens Try.prog 22 (vSlice vSlot x) := opens_slice Try.underlying22 (by kernel_rfl) (by decide) opens_Slot
theorem Try.cellsLJournal : Try.prog.cellsOf 24 = 2 := by kernel_rfl
set_option maxRecDepth 100000 in
theorem opens_Journal : Opens Try.prog 24 vJournal := by
  intro H enc w fuel cs x h
  obtain ⟨xs, n, _, _, hl, hxl, hf⟩ := DataW.trod_struct Try.underlying24 h
  rw [Try.cellsLJournal] at hl
  match cs, hl with
  | [c0, c1], _ =>
    match xs, hxl with
    | [y0, y1], _ =>
      have h0 : DataW.trod enc Try.prog w 0 (fun _ => true) true n 9 [c0] = some y0 := by
        have := hf 0 _ rfl
        rw [show Try.prog.cellsOf _ = 1 by kernel_rfl] at this
        exact this
      have h1 : DataW.trod enc Try.prog w 0 (fun _ => true) true n 3 [c1] = some y1 := by
        have := hf 1 _ rfl
        rw [show Try.prog.cellsOf _ = 1 by kernel_rfl] at this
        exact this
      obtain ⟨d0, e0, z0⟩ := opens_str _ _ _ _ h0
      obtain ⟨d1, e1, _⟩ := opens_int _ _ _ _ h1
      simp only [List.cons.injEq, and_true] at e0
      subst e0
      simp only [List.cons.injEq, and_true] at e1
      subst e1
      exact ⟨⟨d0, d1⟩, rfl, z0⟩
theorem Try.cellsLDisk : Try.prog.cellsOf 26 = 3 := by kernel_rfl
set_option maxRecDepth 100000 in
theorem opens_Disk : Opens Try.prog 26 vDisk := by
  intro H enc w fuel cs x h
  obtain ⟨xs, n, _, _, hl, hxl, hf⟩ := DataW.trod_struct Try.underlying26 h
  rw [Try.cellsLDisk] at hl
  match cs, hl with
  | [c0, c1, c2], _ =>
    match xs, hxl with
    | [y0, y1], _ =>
      have h0 : DataW.trod enc Try.prog w 0 (fun _ => true) true n 22 [c0] = some y0 := by
        have := hf 0 _ rfl
        rw [show Try.prog.cellsOf _ = 1 by kernel_rfl] at this
        exact this
      have h1 : DataW.trod enc Try.prog w 0 (fun _ => true) true n 24 [c1, c2] = some y1 := by
        have := hf 1 _ rfl
        rw [show Try.prog.cellsOf _ = 2 by kernel_rfl] at this
        exact this
      obtain ⟨d0, e0⟩ := opens_SlotS _ _ _ _ h0
      obtain ⟨d1, e1⟩ := opens_Journal _ _ _ _ h1
      obtain ⟨r1, z1⟩ := e1
      simp only [JournalD.row, List.cons.injEq, and_true] at r1
      obtain ⟨rfl, rfl⟩ := r1
      exact ⟨⟨d0, d1⟩, _, rfl, e0, z1⟩
end Go.Proofs.Ytdelkphahpbegaa
