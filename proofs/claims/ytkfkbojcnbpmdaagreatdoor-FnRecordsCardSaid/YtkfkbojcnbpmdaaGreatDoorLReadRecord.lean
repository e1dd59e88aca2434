/- The law of ReadRecord. Each condition stands in its theorem. -/
import Derived.Test.YtkfkbojcnbpmdaaGreatDoorReadRI
set_option linter.unusedVariables false
set_option linter.unusedSimpArgs false
namespace Go.Proofs.YtkfkbojcnbpmdaaGreatDoor
open Go.ChangeShapes Go.WideShapes Go.ChangeAt Go.RowKit

theorem RrOk.same {s : ByteArray} {n n' : Int} {b b' : Bool} {cs cs' : List CellD} (h : RrOk s n b cs) (h' : RrOk s n' b' cs') : n' = n ∧ b' = b ∧ cs' = cs := by
  cases b with
  | true =>
    have a := h.1 rfl
    cases b' with
    | true =>
      have a' := h'.1 rfl
      rw [a] at a'
      injection a' with a'
      injection a' with e1 e2
      exact ⟨e1.symm, rfl, e2.symm⟩
    | false =>
      have a' := (h'.2 rfl).2.2
      rw [a] at a'
      cases a'
  | false =>
    obtain ⟨a1, a2, a3⟩ := h.2 rfl
    cases b' with
    | true =>
      have a' := h'.1 rfl
      rw [a3] at a'
      cases a'
    | false =>
      obtain ⟨c1, c2, c3⟩ := h'.2 rfl
      exact ⟨c1.trans a1.symm, rfl, c2.trans a2.symm⟩
theorem RrOk.sm {s : ByteArray} {n : Int} {b : Bool} {cs : List CellD} (h : RrOk s n b cs) : Sm cs := by
  cases b with
  | true =>
    have a := (readI_inv (h.1 rfl)).2.2.2
    exact fun c hc => ⟨by have := (a c hc).1; omega, by have := (a c hc).2; omega⟩
  | false =>
    rw [(h.2 rfl).2.1]
    exact Sm.nil
theorem RrOk.len {s : ByteArray} {n : Int} {b : Bool} {cs : List CellD} (h : RrOk s n b cs) (hs : s.size ≤ 1048576) : cs.length ≤ 1048577 := by
  cases b with
  | true =>
    have a := (readI_inv (h.1 rfl)).2.2.1
    have h1 := mid_len (splitL 32 s.data.toList)
    rw [a, List.length_map] at h1
    have h2 := splitL_length 32 s.data.toList
    have e : s.data.toList.length = s.size := by simp
    omega
  | false =>
    rw [(h.2 rfl).2.1]
    simp
/-- what the readers of a record leave, owned -/
def RrM (s : ByteArray) (w : World) (e : Ending) (w' : World) : Prop := ∃ n v b cs fp, e = .returned (.tuple #[.int .i64 n, v, .bool b]) ∧ Fresh (vSlice vCell 34) w w' fp [v] cs ∧ RrOk s n b cs ∧ Below w.heap.size w w'
theorem RrP.m {s : ByteArray} {w w' : World} {e : Ending} (h : RrP s w e w') : RrM s w e w' := by
  obtain ⟨n, v, b, cs, rfl, ho, hok, hb⟩ := h
  obtain ⟨fp, h1, h2, h3⟩ := own_of_cells ho (fun d hd => by have := hok.sm d hd; exact ⟨by omega, by omega⟩)
  exact ⟨n, v, b, cs, fp, rfl, ⟨h1, h2, h3⟩, hok, hb⟩
end Go.Proofs.YtkfkbojcnbpmdaaGreatDoor
