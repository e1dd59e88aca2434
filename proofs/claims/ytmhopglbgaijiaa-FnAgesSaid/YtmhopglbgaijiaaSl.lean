/- What a slice value reads as in a world: its cells, flat. No condition. -/
import Derived.Test.YtmhopglbgaijiaaExt
namespace Go
open Go.RowKit

/-- slice value v has n elements; its cells (all elements' cells in a row) are cs -/
def Sl (w : World) (v : Value) (n : Nat) (cs : List Value) : Prop :=
  (v = .slice none 0 0 ∧ n = 0 ∧ cs = []) ∨
  ∃ b off cap, v = .slice (some ⟨b, off, none⟩) n cap ∧ n ≤ cap ∧ cap ≤ maxLen ∧ ∀ j u, cs[j]? = some u → w.cell? ⟨b, off + j, none⟩ = some u

theorem Sl.ext {w : World} {v : Value} {n : Nat} {cs : List Value} (h : Sl w v n cs) (X : Ext) : Sl (w.ext X) v n cs := by
  rcases h with h | ⟨b, off, cap, hv, h1, h2, h3⟩
  · exact .inl h
  · refine .inr ⟨b, off, cap, hv, h1, h2, fun j u hj => ?_⟩
    have hc := h3 j u hj
    rw [World.cell?_ext w X b (off + j) (World.block_lt_of_cell? w ⟨b, off + j, none⟩ hc)]
    exact hc

theorem Sl.alloc {w : World} {v : Value} {n : Nat} {cs : List Value} (h : Sl w v n cs) (o : Obj) : Sl (w.alloc o) v n cs := by
  rcases h with h | ⟨b, off, cap, hv, h1, h2, h3⟩
  · exact .inl h
  · refine .inr ⟨b, off, cap, hv, h1, h2, fun j u hj => ?_⟩
    have hc := h3 j u hj
    rw [World.cell?_alloc_past o b (off + j) (World.block_lt_of_cell? w ⟨b, off + j, none⟩ hc)]
    exact hc

theorem Sl.drew {w : World} {v : Value} {n : Nat} {cs : List Value} (h : Sl w v n cs) : Sl w.drew v n cs := h

theorem Sl.setB {w : World} {v : Value} {n : Nat} {cs : List Value} (h : Sl w v n cs) {p : Nat} (hp : v.ownBlock ≠ some p) (o : Obj) : Sl (w.setB p o) v n cs := by
  rcases h with h | ⟨b, off, cap, hv, h1, h2, h3⟩
  · exact .inl h
  · refine .inr ⟨b, off, cap, hv, h1, h2, fun j u hj => ?_⟩
    subst hv
    rw [World.cell?_setB_ne w p o b (off + j) (fun e => hp (by simp [Value.ownBlock, e]))]
    exact h3 j u hj

/-- the value's block is an old one -/
theorem Sl.lt {w : World} {v : Value} {n : Nat} {cs : List Value} (h : Sl w v n cs) (hc : cs ≠ []) : ∀ b, v.ownBlock = some b → b < w.heap.size := by
  intro b hb
  rcases h with ⟨rfl, _, _⟩ | ⟨b', off, cap, rfl, h1, h2, h3⟩
  · simp [Value.ownBlock] at hb
  · simp only [Value.ownBlock, Option.some.injEq] at hb
    subst hb
    cases cs with
    | nil => exact absurd rfl hc
    | cons u r => exact World.block_lt_of_cell? w ⟨b', off + 0, none⟩ (h3 0 u rfl)

/-- a block known whole -/
theorem Sl.of_block {w : World} {b n : Nat} {cs : List Value} {t : TypeId} {f : Nat × Nat} (h : w.heap[b]? = some (.cells cs.toArray t f)) (hm : n ≤ maxLen) : Sl w (.slice (some ⟨b, 0, none⟩) n n) n cs := by
  refine .inr ⟨b, 0, n, rfl, Nat.le_refl _, hm, fun j u hj => ?_⟩
  simp only [World.cell?, h, Nat.zero_add]
  simpa using hj

theorem Sl.below {w w' : World} {v : Value} {n : Nat} {cs : List Value} (h : Sl w v n cs) (hb : Below w.heap.size w w') : Sl w' v n cs := by
  obtain ⟨X, rfl⟩ := hb.ext
  exact h.ext X

/-- the shape of a slice value, nil or not -/
theorem Sl.shape {w : World} {v : Value} {n : Nat} {cs : List Value} (h : Sl w v n cs) : ∃ ao cap, v = .slice ao n cap ∧ n ≤ cap ∧ cap ≤ maxLen ∧ (ao = none → cap = 0 ∧ n = 0) ∧
    (0 < n → ∃ b off, ao = some ⟨b, off, none⟩ ∧ ∀ j u, cs[j]? = some u → w.cell? ⟨b, off + j, none⟩ = some u) := by
  rcases h with ⟨rfl, rfl, rfl⟩ | ⟨b, off, cap, rfl, h1, h2, h3⟩
  · exact ⟨none, 0, rfl, Nat.le_refl _, Nat.zero_le _, fun _ => ⟨rfl, rfl⟩, fun h => absurd h (by omega)⟩
  · exact ⟨some ⟨b, off, none⟩, cap, rfl, h1, h2, (fun h => by cases h), fun _ => ⟨b, off, rfl, h3⟩⟩

def bytesOf (l : List UInt8) : List Value := l.map fun c => .int .u8 c.toNat
end Go
