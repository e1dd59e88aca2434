/- slices.Clone on cells: the program's and the reference's. Each condition stands in its theorem. -/
import Derived.Test.YtedgenmbdjadkaaGreatDoorTCell
import Derived.Lib.Hide
import Derived.Lib.SliceRun
set_option linter.unusedVariables false
set_option linter.unusedSimpArgs false
namespace Go.Proofs.YtedgenmbdjadkaaGreatDoor
open Go.ChangeShapes Go.WideShapes Go.ChangeAt Go.RowKit

theorem vCell_one : ∀ d : CellD, ∀ u ∈ CellD.row d, u.oneCell' = true := fun d u hu => by simp [CellD.row] at hu; rcases hu with rfl | rfl <;> rfl
def rCell : RowOf CellD := ⟨CellD.row, 2, fun _ => rfl, vCell_one⟩
/-- what is owned reads as a row that begins at its block -/
theorem rdl_of_own {α : Type} {row : α → List Value} {k : Nat} {ok : α → Prop} {hk : ∀ d, (row d).length = k} {h1 : ∀ d, ∀ u ∈ row d, u.oneCell' = true} {R : RowOf α} (hr : R.row = row) {e : TypeId} {w : World} {fp : List Nat} {v : Value} {ds : List α}
    (h : (vSlice (vRow row k ok hk h1) e).own w fp [v] ds) : RdL R w v ds := by
  subst hr
  rcases h with ⟨hv, rfl, _⟩ | ⟨b, cap, blk, css, fps, hv, hb, h2, h3, h4, h5, h6, h7, h8, h9⟩
  · cases hv
    exact RdL.nil _ _
  · cases hv
    refine .inr ⟨b, 0, cap, rfl, h2, h3, fun j u hj => ?_⟩
    have e : css = ds.map R.row := List.ext_getElem (by simp [h7]) (fun i a c => by
      have := (h9 i (by omega) a (by omega)).2.1
      simpa using this)
    rw [e, ← List.flatMap_def] at h5
    rw [← h5, List.getElem?_take] at hj
    split at hj
    · rw [World.cell?_of_get hb, Nat.zero_add]
      simpa using hj
    · cases hj
theorem own_of_OwnR {α : Type} {row : α → List Value} {k : Nat} {ok : α → Prop} {hk : ∀ d, (row d).length = k} {h1 : ∀ d, ∀ u ∈ row d, u.oneCell' = true} {R : RowOf α} (hr : R.row = row) (hkk : R.k = k) {e : TypeId} {w : World} {B : Nat} {v : Value} {xs : List α} (h : OwnL R e w B v xs) (hok : ∀ d ∈ xs, ok d) :
    ∃ fp : List Nat, (vSlice (vRow row k ok hk h1) e).own w fp [v] xs ∧ fp.Nodup ∧ ∀ b ∈ fp, B ≤ b := by
  subst hr hkk
  rcases h.2 with ⟨rfl, h0⟩ | ⟨g, cap, cur, rfl, hg, hh, hn, hm, hsz, ht⟩
  · have : xs = [] := List.eq_nil_of_length_eq_zero h0
    subst this
    exact ⟨[], .inl ⟨rfl, rfl, rfl⟩, List.nodup_nil, by simp⟩
  · exact ⟨[g], vSlice.ownRow hh rfl hn hm hsz ht hok, by simp, by simpa using hg⟩
theorem vCells_ok {v : Value} {xs : List CellD} {w : World} {e : TypeId} (h : (vSlice vCell e).rd w [v] xs) : ∀ c ∈ xs, c.ok := by
  obtain ⟨_, _, _, _, _, _, hcell⟩ := vSlice.shape h
  intro c hc
  obtain ⟨i, hi, rfl⟩ := List.getElem_of_mem hc
  obtain ⟨_, _, _, _, _, h, _⟩ := hcell i hi
  exact h.2
theorem own_of_cells {w : World} {B : Nat} {v : Value} {xs : List CellD} {e : TypeId} (h : OwnL rCell e w B v xs) (hok : ∀ d ∈ xs, d.ok) : ∃ fp : List Nat, (vSlice vCell e).own w fp [v] xs ∧ fp.Nodup ∧ ∀ b ∈ fp, B ≤ b :=
  own_of_OwnR (R := rCell) (row := CellD.row) (k := 2) rfl rfl (ok := CellD.ok) (hk := fun _ => rfl) (h1 := vCell_one) h hok
set_option maxRecDepth 100000 in
theorem impl_CloneCells (v : Value) (xs : List CellD) (w : World) (hs : RdL rCell w v xs) (hl : xs.length ≤ 1048576) :
    Calls Tryz.prog 60 #[v] w fun e w' => ∃ v', e = .returned v' ∧ OwnL rCell 39 w' w.heap.size v' xs ∧ Below w.heap.size w w' := by
  obtain ⟨ao, cap, rfl, hc1, hc2, hnil, hne⟩ := hs.shape
  have HS := Lib.hid hs
  clear hs hne
  have qT : ∀ (w : World) (a : Option Addr) (n c n' c' : Nat), (binOp .eql 35 (.slice a n c) (.slice none n' c')).run Tryz.prog w = .ok (.bool a.isNone) w := fun w a n c n' c' => Lib.run_eql_slice_nil w _ _ a n c n' c' Tryz.underlying35
  cases ao with
  | none =>
    obtain ⟨rfl, rfl⟩ := hnil rfl
    go_enter Tryz.func60, Tryz.ntmps60
    go_wp2
    go_ret
    exact ⟨_, rfl, OwnL.nil rCell _ _ _, (by repeat (first | with_reducible exact Below.refl _ _ | with_reducible apply Below.ofExt | with_reducible apply Below.ofAlloc | with_reducible apply Below.drew | with_reducible apply Below.ofDrewN | with_reducible assumption | (with_reducible refine Below.setCell ?_ (by first | exact Nat.le_refl _ | (simp [go_sem]; done) | (simp [go_sem]; omega)) _)))⟩
  | some a =>
    clear hnil
    go_enter Tryz.func60, Tryz.ntmps60
    go_wp2_with (at_builtin; refine Stop.here ?_)
    refine wpList_appL rfl _ _ _ rfl (R := rCell) (e := 39) Tryz.elemCellS (B := w.heap.size) (OwnL.empty rCell _ w) rfl (HS.out.alloc _) rfl (by simp only [List.length_nil]; omega) (by simp only [List.length_nil]; unfold maxLen; omega) (by simp) ?_
    intro v4 w4 hown4 hgr4 _
    have hb4 : Below w.heap.size w w4 := Below.appL (a := w) (R := rCell) (e := 39) (by repeat (first | with_reducible exact Below.refl _ _ | with_reducible apply Below.ofExt | with_reducible apply Below.ofAlloc | with_reducible apply Below.drew | with_reducible apply Below.ofDrewN | with_reducible assumption | (with_reducible refine Below.setCell ?_ (by first | exact Nat.le_refl _ | (simp [go_sem]; done) | (simp [go_sem]; omega)) _))) hgr4 (OwnL.empty rCell _ w)
    go_wp2
    go_ret
    exact ⟨_, rfl, hown4, hb4⟩
end Go.Proofs.YtedgenmbdjadkaaGreatDoor
