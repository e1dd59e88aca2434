/- What the arguments of a law read as: numbers, texts, structs, slices. No condition. -/
import Derived.Test.YtefenfglkfdoaaaCTx
import Derived.Test.YtefenfglkfdoaaaOpens
set_option linter.unusedVariables false
namespace Go.Proofs.Ytefenfglkfdoaaa
open Go.ChangeShapes Go.WideShapes Go.ChangeAt Go.RowKit
theorem opens_int : Opens Try.prog 3 vInt := opensInt Try.underlying3
theorem opens_str : Opens Try.prog 9 vStr := opensStr Try.underlying9
theorem Try.cellsLCall : Try.prog.cellsOf 107 = 6 := by kernel_rfl
set_option maxRecDepth 100000 in
theorem opens_Call : Opens Try.prog 107 vCall := by
  intro H enc w fuel cs x h
  obtain ⟨xs, n, _, _, hl, hxl, hf⟩ := DataW.trod_struct Try.underlying107 h
  rw [Try.cellsLCall] at hl
  match cs, hl with
  | [c0, c1, c2, c3, c4, c5], _ =>
    match xs, hxl with
    | [y0, y1, y2, y3, y4, y5], _ =>
      have h0 : DataW.trod enc Try.prog w 0 (fun _ => true) true n 3 [c0] = some y0 := by
        have := hf 0 _ rfl
        rw [show Try.prog.cellsOf _ = 1 by kernel_rfl] at this
        exact this
      have h1 : DataW.trod enc Try.prog w 0 (fun _ => true) true n 9 [c1] = some y1 := by
        have := hf 1 _ rfl
        rw [show Try.prog.cellsOf _ = 1 by kernel_rfl] at this
        exact this
      have h2 : DataW.trod enc Try.prog w 0 (fun _ => true) true n 9 [c2] = some y2 := by
        have := hf 2 _ rfl
        rw [show Try.prog.cellsOf _ = 1 by kernel_rfl] at this
        exact this
      have h3 : DataW.trod enc Try.prog w 0 (fun _ => true) true n 3 [c3] = some y3 := by
        have := hf 3 _ rfl
        rw [show Try.prog.cellsOf _ = 1 by kernel_rfl] at this
        exact this
      have h4 : DataW.trod enc Try.prog w 0 (fun _ => true) true n 3 [c4] = some y4 := by
        have := hf 4 _ rfl
        rw [show Try.prog.cellsOf _ = 1 by kernel_rfl] at this
        exact this
      have h5 : DataW.trod enc Try.prog w 0 (fun _ => true) true n 9 [c5] = some y5 := by
        have := hf 5 _ rfl
        rw [show Try.prog.cellsOf _ = 1 by kernel_rfl] at this
        exact this
      obtain ⟨d0, e0, _⟩ := opens_int _ _ _ _ h0
      obtain ⟨d1, e1, z1⟩ := opens_str _ _ _ _ h1
      obtain ⟨d2, e2, z2⟩ := opens_str _ _ _ _ h2
      obtain ⟨d3, e3, _⟩ := opens_int _ _ _ _ h3
      obtain ⟨d4, e4, _⟩ := opens_int _ _ _ _ h4
      obtain ⟨d5, e5, z5⟩ := opens_str _ _ _ _ h5
      simp only [List.cons.injEq, and_true] at e0
      subst e0
      simp only [List.cons.injEq, and_true] at e1
      subst e1
      simp only [List.cons.injEq, and_true] at e2
      subst e2
      simp only [List.cons.injEq, and_true] at e3
      subst e3
      simp only [List.cons.injEq, and_true] at e4
      subst e4
      simp only [List.cons.injEq, and_true] at e5
      subst e5
      exact ⟨⟨d0, d1, d2, d3, d4, d5⟩, rfl, ⟨z1, z2, z5⟩⟩
theorem opens_CallS {x : TypeId} : Opens Try.prog 34 (vSlice vCall x) := opens_slice Try.underlying34 (by kernel_rfl) (by decide) opens_Call
theorem Try.cellsLAnswer : Try.prog.cellsOf 109 = 3 := by kernel_rfl
set_option maxRecDepth 100000 in
theorem opens_Answer : Opens Try.prog 109 vAnswer := by
  intro H enc w fuel cs x h
  obtain ⟨xs, n, _, _, hl, hxl, hf⟩ := DataW.trod_struct Try.underlying109 h
  rw [Try.cellsLAnswer] at hl
  match cs, hl with
  | [c0, c1, c2], _ =>
    match xs, hxl with
    | [y0, y1, y2], _ =>
      have h0 : DataW.trod enc Try.prog w 0 (fun _ => true) true n 3 [c0] = some y0 := by
        have := hf 0 _ rfl
        rw [show Try.prog.cellsOf _ = 1 by kernel_rfl] at this
        exact this
      have h1 : DataW.trod enc Try.prog w 0 (fun _ => true) true n 3 [c1] = some y1 := by
        have := hf 1 _ rfl
        rw [show Try.prog.cellsOf _ = 1 by kernel_rfl] at this
        exact this
      have h2 : DataW.trod enc Try.prog w 0 (fun _ => true) true n 9 [c2] = some y2 := by
        have := hf 2 _ rfl
        rw [show Try.prog.cellsOf _ = 1 by kernel_rfl] at this
        exact this
      obtain ⟨d0, e0, _⟩ := opens_int _ _ _ _ h0
      obtain ⟨d1, e1, _⟩ := opens_int _ _ _ _ h1
      obtain ⟨d2, e2, z2⟩ := opens_str _ _ _ _ h2
      simp only [List.cons.injEq, and_true] at e0
      subst e0
      simp only [List.cons.injEq, and_true] at e1
      subst e1
      simp only [List.cons.injEq, and_true] at e2
      subst e2
      exact ⟨⟨d0, d1, d2⟩, rfl, z2⟩
theorem opens_AnswerS {x : TypeId} : Opens Try.prog 35 (vSlice vAnswer x) := opens_slice Try.underlying35 (by kernel_rfl) (by decide) opens_Answer
theorem opens_StrS {x : TypeId} : Opens Try.prog 24 (vSlice vStr x) := opens_slice Try.underlying24 (by kernel_rfl) (by decide) opens_str
theorem Try.cellsLTouch : Try.prog.cellsOf 36 = 2 := by kernel_rfl
set_option maxRecDepth 100000 in
theorem opens_Touch : Opens Try.prog 36 vTouch := by
  intro H enc w fuel cs x h
  obtain ⟨xs, n, _, _, hl, hxl, hf⟩ := DataW.trod_struct Try.underlying36 h
  rw [Try.cellsLTouch] at hl
  match cs, hl with
  | [c0, c1], _ =>
    match xs, hxl with
    | [y0, y1], _ =>
      have h0 : DataW.trod enc Try.prog w 0 (fun _ => true) true n 24 [c0] = some y0 := by
        have := hf 0 _ rfl
        rw [show Try.prog.cellsOf _ = 1 by kernel_rfl] at this
        exact this
      have h1 : DataW.trod enc Try.prog w 0 (fun _ => true) true n 24 [c1] = some y1 := by
        have := hf 1 _ rfl
        rw [show Try.prog.cellsOf _ = 1 by kernel_rfl] at this
        exact this
      obtain ⟨d0, e0⟩ := opens_StrS _ _ _ _ h0
      obtain ⟨d1, e1⟩ := opens_StrS _ _ _ _ h1
      exact ⟨⟨d0, d1⟩, _, _, rfl, e0, e1⟩
theorem opens_IntS {x : TypeId} : Opens Try.prog 27 (vSlice vInt x) := opens_slice Try.underlying27 (by kernel_rfl) (by decide) opens_int
theorem Try.cellsLTx : Try.prog.cellsOf 38 = 10 := by kernel_rfl
set_option maxRecDepth 100000 in
theorem opens_Tx : Opens Try.prog 38 vTx := by
  intro H enc w fuel cs x h
  obtain ⟨xs, n, _, _, hl, hxl, hf⟩ := DataW.trod_struct Try.underlying38 h
  rw [Try.cellsLTx] at hl
  match cs, hl with
  | [c0, c1, c2, c3, c4, c5, c6, c7, c8, c9], _ =>
    match xs, hxl with
    | [y0, y1, y2, y3, y4, y5, y6, y7, y8], _ =>
      have h0 : DataW.trod enc Try.prog w 0 (fun _ => true) true n 3 [c0] = some y0 := by
        have := hf 0 _ rfl
        rw [show Try.prog.cellsOf _ = 1 by kernel_rfl] at this
        exact this
      have h1 : DataW.trod enc Try.prog w 0 (fun _ => true) true n 3 [c1] = some y1 := by
        have := hf 1 _ rfl
        rw [show Try.prog.cellsOf _ = 1 by kernel_rfl] at this
        exact this
      have h2 : DataW.trod enc Try.prog w 0 (fun _ => true) true n 3 [c2] = some y2 := by
        have := hf 2 _ rfl
        rw [show Try.prog.cellsOf _ = 1 by kernel_rfl] at this
        exact this
      have h3 : DataW.trod enc Try.prog w 0 (fun _ => true) true n 3 [c3] = some y3 := by
        have := hf 3 _ rfl
        rw [show Try.prog.cellsOf _ = 1 by kernel_rfl] at this
        exact this
      have h4 : DataW.trod enc Try.prog w 0 (fun _ => true) true n 34 [c4] = some y4 := by
        have := hf 4 _ rfl
        rw [show Try.prog.cellsOf _ = 1 by kernel_rfl] at this
        exact this
      have h5 : DataW.trod enc Try.prog w 0 (fun _ => true) true n 35 [c5] = some y5 := by
        have := hf 5 _ rfl
        rw [show Try.prog.cellsOf _ = 1 by kernel_rfl] at this
        exact this
      have h6 : DataW.trod enc Try.prog w 0 (fun _ => true) true n 36 [c6, c7] = some y6 := by
        have := hf 6 _ rfl
        rw [show Try.prog.cellsOf _ = 2 by kernel_rfl] at this
        exact this
      have h7 : DataW.trod enc Try.prog w 0 (fun _ => true) true n 27 [c8] = some y7 := by
        have := hf 7 _ rfl
        rw [show Try.prog.cellsOf _ = 1 by kernel_rfl] at this
        exact this
      have h8 : DataW.trod enc Try.prog w 0 (fun _ => true) true n 3 [c9] = some y8 := by
        have := hf 8 _ rfl
        rw [show Try.prog.cellsOf _ = 1 by kernel_rfl] at this
        exact this
      obtain ⟨d0, e0, _⟩ := opens_int _ _ _ _ h0
      obtain ⟨d1, e1, _⟩ := opens_int _ _ _ _ h1
      obtain ⟨d2, e2, _⟩ := opens_int _ _ _ _ h2
      obtain ⟨d3, e3, _⟩ := opens_int _ _ _ _ h3
      obtain ⟨d4, e4⟩ := opens_CallS _ _ _ _ h4
      obtain ⟨d5, e5⟩ := opens_AnswerS _ _ _ _ h5
      obtain ⟨d6, e6⟩ := opens_Touch _ _ _ _ h6
      obtain ⟨d7, e7⟩ := opens_IntS _ _ _ _ h7
      obtain ⟨d8, e8, _⟩ := opens_int _ _ _ _ h8
      simp only [List.cons.injEq, and_true] at e0
      subst e0
      simp only [List.cons.injEq, and_true] at e1
      subst e1
      simp only [List.cons.injEq, and_true] at e2
      subst e2
      simp only [List.cons.injEq, and_true] at e3
      subst e3
      simp only [List.cons.injEq, and_true] at e8
      subst e8
      obtain ⟨s6_0, s6_1, r6, t6_0, t6_1⟩ := e6
      simp only [List.cons.injEq, and_true] at r6
      obtain ⟨rfl, rfl⟩ := r6
      exact ⟨⟨d0, d1, d2, d3, d4, d5, d6, d7, d8⟩, _, _, _, _, _, rfl, e4, e5, t6_0, t6_1, e7⟩
theorem opens_TxS {x : TypeId} : Opens Try.prog 45 (vSlice vTx x) := opens_slice Try.underlying45 (by kernel_rfl) (by decide) opens_Tx
end Go.Proofs.Ytefenfglkfdoaaa
