/- slices.Clone on calls: the program's and the reference's. Each condition stands in its theorem. -/
import Derived.Test.YtefenfglkfdoaaaTCall
import Derived.Test.YtefenfglkfdoaaaLive
import Derived.Lib.Hide
import Derived.Lib.SliceRun
set_option linter.unusedVariables false
set_option linter.unusedSimpArgs false
namespace Go.Proofs.Ytefenfglkfdoaaa
open Go.ChangeShapes Go.WideShapes Go.ChangeAt Go.RowKit

def rCall : RowOf CallD := ⟨CallD.row, 6, fun _ => rfl, fun d u hu => by simp [CallD.row] at hu; rcases hu with rfl | rfl | rfl | rfl | rfl | rfl <;> rfl⟩
/-- what is owned reads as a row that begins at its block -/
theorem rdl_of_own {α : Type} {row : α → List Value} {k : Nat} {ok : α → Prop} {hk : ∀ d, (row d).length = k} {h1 : ∀ d, ∀ u ∈ row d, u.oneCell' = true} {R : RowOf α} (hr : R.row = row) {e : TypeId} {w : World} {fp : List Nat} {v : Value} {ds : List α}
    (h : (vSlice (vRow row k ok hk h1) e).own w fp [v] ds) : RdL R w v ds := by
  subst hr
  rcases h with ⟨hv, rfl, _⟩ | ⟨b, cap, blk, css, fps, hv, hb, h2, h3, h4, h5, h6, h7, h8, h9⟩
  · cases hv
    exact RdL.nil _ _
  · cases hv
    refine .inr ⟨b, 0, cap, rfl, h2, h3, fun j u hj => ?_⟩
    have e : css = ds.map R.row := List.ext_getElem (by simp [h7]) (fun i a c => by
      have := (h9 i (by omega) a (by omega)).2.1
      simpa using this)
    rw [e, ← List.flatMap_def] at h5
    rw [← h5, List.getElem?_take] at hj
    split at hj
    · rw [World.cell?_of_get hb, Nat.zero_add]
      simpa using hj
    · cases hj
set_option maxRecDepth 100000 in
theorem impl_CloneCalls (v : Value) (xs : List CallD) (w : World) (hs : RdL rCall w v xs) (hl : xs.length ≤ 1048576) :
    Calls Try.prog 100 #[v] w fun e w' => ∃ v', e = .returned v' ∧ OwnL rCall 89 w' w.heap.size v' xs ∧ Below w.heap.size w w' := by
  obtain ⟨ao, cap, rfl, hc1, hc2, hnil, hne⟩ := hs.shape
  have HS := Lib.hid hs
  clear hs hne
  have qT : ∀ (w : World) (a : Option Addr) (n c n' c' : Nat), (binOp .eql 22 (.slice a n c) (.slice none n' c')).run Try.prog w = .ok (.bool a.isNone) w := fun w a n c n' c' => Lib.run_eql_slice_nil w _ _ a n c n' c' Try.underlying22
  cases ao with
  | none =>
    obtain ⟨rfl, rfl⟩ := hnil rfl
    go_enter Try.func100, Try.ntmps100
    go_wp2
    go_ret
    exact ⟨_, rfl, OwnL.nil rCall _ _ _, (by repeat (first | with_reducible exact Below.refl _ _ | with_reducible apply Below.ofExt | with_reducible apply Below.ofAlloc | with_reducible apply Below.drew | with_reducible apply Below.ofDrewN | with_reducible assumption | (with_reducible refine Below.setCell ?_ (by first | exact Nat.le_refl _ | (simp [go_sem]; done) | (simp [go_sem]; omega)) _)))⟩
  | some a =>
    clear hnil
    go_enter Try.func100, Try.ntmps100
    go_wp2_with (at_builtin; refine Stop.here ?_)
    refine wpList_appL rfl _ _ _ rfl (R := rCall) (e := 89) Try.elemCallS (B := w.heap.size) (OwnL.empty rCall _ w) rfl (HS.out.alloc _) rfl (by simp only [List.length_nil]; omega) (by simp only [List.length_nil]; unfold maxLen; omega) (by simp) ?_
    intro v4 w4 hown4 hgr4 _
    have hb4 : Below w.heap.size w w4 := Below.appL (a := w) (R := rCall) (e := 89) (by repeat (first | with_reducible exact Below.refl _ _ | with_reducible apply Below.ofExt | with_reducible apply Below.ofAlloc | with_reducible apply Below.drew | with_reducible apply Below.ofDrewN | with_reducible assumption | (with_reducible refine Below.setCell ?_ (by first | exact Nat.le_refl _ | (simp [go_sem]; done) | (simp [go_sem]; omega)) _))) hgr4 (OwnL.empty rCall _ w)
    go_wp2
    go_ret
    exact ⟨_, rfl, hown4, hb4⟩
end Go.Proofs.Ytefenfglkfdoaaa
