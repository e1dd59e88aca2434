/- The drawn pairs and lists of transactions; who is older; the next age. Each condition stands in its theorem. -/
import Derived.Test.YtkfkbojcnbpmdaaGreatDoorDraw5
set_option linter.unusedVariables false
set_option linter.unusedSimpArgs false
namespace Go.Proofs.YtkfkbojcnbpmdaaGreatDoor
open Go.ChangeShapes Go.WideShapes Go.ChangeAt Go.RowKit

theorem _root_.Go.Got.toBelow {a w w' : World} {p : Nat} {o : Obj} (h : Got p w o w') (hb : Below a.heap.size a w) (hp : a.heap.size ≤ p) : Below a.heap.size a w' := by
  obtain ⟨X, rfl⟩ := hb.ext
  obtain ⟨Y, rfl⟩ := h
  rw [World.ext_setB_past _ _ _ _ hp]
  exact ((Below.refl _ _).ofExt _).ofExt _

theorem _root_.Go.RdL.shapeT {w : World} {v : Value} {xs : List TxR} (h : RdL rTx w v xs) : ∃ ao cap, v = .slice ao xs.length cap ∧ xs.length ≤ cap ∧ cap ≤ maxLen ∧ (ao = none → cap = 0 ∧ xs = []) ∧
    (xs ≠ [] → ∃ b off, ao = some ⟨b, off, none⟩ ∧ b < w.heap.size ∧ ∀ (i : Nat) (hi : i < xs.length),
      w.cell? ⟨b, off + i * 10, none⟩ = some (.int .i64 xs[i].id) ∧ w.cell? ⟨b, off + i * 10 + 1, none⟩ = some (.int .i64 xs[i].age) ∧
      w.cell? ⟨b, off + i * 10 + 2, none⟩ = some (.int .i64 xs[i].proc) ∧ w.cell? ⟨b, off + i * 10 + 3, none⟩ = some (.int .i64 xs[i].began) ∧
      w.cell? ⟨b, off + i * 10 + 4, none⟩ = some (.slice xs[i].calls.a xs[i].calls.n xs[i].calls.cap) ∧ w.cell? ⟨b, off + i * 10 + 5, none⟩ = some (.slice xs[i].answers.a xs[i].answers.n xs[i].answers.cap) ∧
      w.cell? ⟨b, off + i * 10 + 6, none⟩ = some (.slice xs[i].tr.a xs[i].tr.n xs[i].tr.cap) ∧ w.cell? ⟨b, off + i * 10 + 7, none⟩ = some (.slice xs[i].tw.a xs[i].tw.n xs[i].tw.cap) ∧
      w.cell? ⟨b, off + i * 10 + 8, none⟩ = some (.slice xs[i].marks.a xs[i].marks.n xs[i].marks.cap) ∧ w.cell? ⟨b, off + i * 10 + 9, none⟩ = some (.int .i64 xs[i].state)) := by
  obtain ⟨ao, cap, h0, h1, h2, h3, h4⟩ := h.shape
  refine ⟨ao, cap, h0, h1, h2, h3, fun hne => ?_⟩
  obtain ⟨b, off, e, hb, hc⟩ := h4 hne
  refine ⟨b, off, e, hb (by decide), fun i hi => ?_⟩
  have hc := fun j u h => hc i hi j u h
  exact ⟨hc 0 _ rfl, hc 1 _ rfl, hc 2 _ rfl, hc 3 _ rfl, hc 4 _ rfl, hc 5 _ rfl, hc 6 _ rfl, hc 7 _ rfl, hc 8 _ rfl, hc 9 _ rfl⟩

theorem _root_.Go.RowKit.Below.past {a w : World} (h : Below a.heap.size a w) {b : Nat} (hb : a.heap.size ≤ b) (o : Obj) : Below a.heap.size a (w.setB b o) := by
  obtain ⟨X, rfl⟩ := h.ext
  rw [World.ext_setB_past _ _ _ _ hb]
  exact (Below.refl _ _).ofExt _
theorem _root_.Go.World.alloc_new' (w : World) (o : Obj) (b : Nat) (h : b = w.heap.size) : (w.alloc o).heap[b]? = some o := by subst h; exact World.alloc_new w o
def older (x y : TxR) : Bool := decide (x.age < y.age) || (decide (x.age = y.age) && decide (x.id < y.id))
def nextAge (xs : List TxR) : Int := (xs.map TxR.age).foldl max 0
theorem laws_big (v : Value) (n : Nat) (cs : List Value) (w : World) (hs : Sl w v n cs) : Calls Tryz.prog 4 #[v] w fun e w' => e = .returned (.bool (decide (1048576 < n))) ∧ w = w' := by
  obtain ⟨ao, cap, rfl, hc1, hc2, hnil, hcell⟩ := hs.shape
  clear hs hnil hcell
  by_cases h : (1048576 : Int) < n
  · have h' : 1048576 < n := by omega
    go_enter Tryz.func4, Tryz.ntmps4
    go_wp2
    go_ret
    exact ⟨by simp [h'], rfl⟩
  · have h' : ¬ 1048576 < n := by omega
    go_enter Tryz.func4, Tryz.ntmps4
    go_wp2
    go_ret
    exact ⟨by simp [h'], rfl⟩
end Go.Proofs.YtkfkbojcnbpmdaaGreatDoor
