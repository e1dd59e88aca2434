/- slices.Clone on cells: the program's and the reference's. Each condition stands in its theorem. -/
import Derived.Test.YtedgenmbdjadkaaDoorTCell
import Derived.Lib.Hide
import Derived.Lib.SliceRun
set_option linter.unusedVariables false
set_option linter.unusedSimpArgs false
namespace Go.Proofs.YtedgenmbdjadkaaDoor
open Go.ChangeShapes Go.WideShapes Go.ChangeAt Go.RowKit

theorem vCell_one : ∀ d : CellD, ∀ u ∈ CellD.row d, u.oneCell' = true := fun d u hu => by simp [CellD.row] at hu; rcases hu with rfl | rfl <;> rfl
def rCell : RowOf CellD := ⟨CellD.row, 2, fun _ => rfl, vCell_one⟩
/-- what is owned reads as a row that begins at its block -/
theorem rdl_of_own {α : Type} {row : α → List Value} {k : Nat} {ok : α → Prop} {hk : ∀ d, (row d).length = k} {h1 : ∀ d, ∀ u ∈ row d, u.oneCell' = true} {R : RowOf α} (hr : R.row = row) {e : TypeId} {w : World} {fp : List Nat} {v : Value} {ds : List α}
    (h : (vSlice (vRow row k ok hk h1) e).own w fp [v] ds) : RdL R w v ds := by
  subst hr
  rcases h with ⟨hv, rfl, _⟩ | ⟨b, cap, blk, css, fps, hv, hb, h2, h3, h4, h5, h6, h7, h8, h9⟩
  · cases hv
    exact RdL.nil _ _
  · cases hv
    refine .inr ⟨b, 0, cap, rfl, h2, h3, fun j u hj => ?_⟩
    have e : css = ds.map R.row := List.ext_getElem (by simp [h7]) (fun i a c => by
      have := (h9 i (by omega) a (by omega)).2.1
      simpa using this)
    rw [e, ← List.flatMap_def] at h5
    rw [← h5, List.getElem?_take] at hj
    split at hj
    · rw [World.cell?_of_get hb, Nat.zero_add]
      simpa using hj
    · cases hj
theorem own_of_OwnR {α : Type} {row : α → List Value} {k : Nat} {ok : α → Prop} {hk : ∀ d, (row d).length = k} {h1 : ∀ d, ∀ u ∈ row d, u.oneCell' = true} {R : RowOf α} (hr : R.row = row) (hkk : R.k = k) {e : TypeId} {w : World} {B : Nat} {v : Value} {xs : List α} (h : OwnL R e w B v xs) (hok : ∀ d ∈ xs, ok d) :
    ∃ fp : List Nat, (vSlice (vRow row k ok hk h1) e).own w fp [v] xs ∧ fp.Nodup ∧ ∀ b ∈ fp, B ≤ b := by
  subst hr hkk
  rcases h.2 with ⟨rfl, h0⟩ | ⟨g, cap, cur, rfl, hg, hh, hn, hm, hsz, ht⟩
  · have : xs = [] := List.eq_nil_of_length_eq_zero h0
    subst this
    exact ⟨[], .inl ⟨rfl, rfl, rfl⟩, List.nodup_nil, by simp⟩
  · exact ⟨[g], vSlice.ownRow hh rfl hn hm hsz ht hok, by simp, by simpa using hg⟩
theorem vCells_ok {v : Value} {xs : List CellD} {w : World} {e : TypeId} (h : (vSlice vCell e).rd w [v] xs) : ∀ c ∈ xs, c.ok := by
  obtain ⟨_, _, _, _, _, _, hcell⟩ := vSlice.shape h
  intro c hc
  obtain ⟨i, hi, rfl⟩ := List.getElem_of_mem hc
  obtain ⟨_, _, _, _, _, h, _⟩ := hcell i hi
  exact h.2
theorem own_of_cells {w : World} {B : Nat} {v : Value} {xs : List CellD} {e : TypeId} (h : OwnL rCell e w B v xs) (hok : ∀ d ∈ xs, d.ok) : ∃ fp : List Nat, (vSlice vCell e).own w fp [v] xs ∧ fp.Nodup ∧ ∀ b ∈ fp, B ≤ b :=
  own_of_OwnR (R := rCell) (row := CellD.row) (k := 2) rfl rfl (ok := CellD.ok) (hk := fun _ => rfl) (h1 := vCell_one) h hok
end Go.Proofs.YtedgenmbdjadkaaDoor
