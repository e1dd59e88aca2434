/- A journal among a law's arguments: what its reading says of the value. No condition. -/
import Derived.Test.YtnacopiampdghaaBase
import Derived.Lib.SmallJoins
namespace Go.Proofs.Ytnacopiampdghaa
open Go.ChangeShapes Go.WideShapes Go.ChangeAt Go.RowKit
open Go.Joins

theorem Try.cells25 : Try.prog.cellsOf 25 = 2 := by kernel_rfl
theorem open_jour {H : Type} {enc : TypeId × Value → H} {W : World} {base : Nat} {v : Value} {d : DataW H} {p : List MemPlace} (hv : Value.okWide Try.prog W .any base 25 v)
    (h : DataW.Trod enc Try.prog W 0 (fun _ => true) true 25 v d p) : ∃ (t : ByteArray) (n : Int), v = .agg #[.string t, .int .i64 n] ∧ t.size ≤ maxLen := by
  obtain ⟨v0, v1, y0, y1, n, rfl, rfl, rfl, h0, h1⟩ := open_agg2 Try.underlying25 (by kernel_rfl) Try.cells25 hv h
  obtain ⟨s, e0, _, hs⟩ := DataW.trod_string Try.underlying9 h0
  obtain ⟨m, e1, _, _⟩ := DataW.trod_int Try.underlying3 h1
  simp only [List.cons.injEq, and_true] at e0 e1
  exact ⟨s, m, by rw [e0, e1], hs⟩
end Go.Proofs.Ytnacopiampdghaa
