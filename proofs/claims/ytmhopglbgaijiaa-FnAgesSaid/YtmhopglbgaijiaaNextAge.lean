/- The next age: the program's and the reference's. Each condition stands in its theorem. -/
import Derived.Test.YtmhopglbgaijiaaCTxS
set_option linter.unusedVariables false
set_option linter.unusedSimpArgs false
namespace Go.Proofs.Ytmhopglbgaijiaa
open Go.ChangeShapes Go.WideShapes Go.ChangeAt Go.RowKit

def ageMax (m : Int) (d : TxD) : Int := if m < d.age then d.age else m
theorem foldl_take_step {α β : Type} (f : β → α → β) (b : β) (xs : List α) (n : Nat) (h : n < xs.length) : (xs.take (n + 1)).foldl f b = f ((xs.take n).foldl f b) xs[n] := by
  rw [List.take_succ_eq_append_getElem h, List.foldl_append]
  rfl
set_option maxRecDepth 100000 in
theorem spec_NextAge (v : Value) (ds : List TxD) (w : World) {e : TypeId} (hs : (vSlice vTx e).rd w [v] ds) :
    Calls Try.prog 20 #[v] w fun e w' => e = .returned (.int .i64 (wrap64 (ds.foldl ageMax 0 + 1))) ∧ Below w.heap.size w w' := by
  obtain ⟨ao, cap, rfl, hc1, hc2, hnil, hcell⟩ := vSlice.shape hs
  have HX := Lib.hid hcell
  clear hcell hnil
  unfold maxLen at hc2
  clear hs
  go_enter Try.func20, Try.ntmps20
  go_wp2
  go_loopw [3, 4] (fun g k wr => ∃ (n : Nat) (m : Int), k = .int .i64 n ∧ n ≤ ds.length ∧ Below w.heap.size w wr ∧ g = .int .i64 m ∧ m = (ds.take n).foldl ageMax 0) (fun _ k _ => ds.length - (intOf k).toNat)
  case atStart => exact ⟨0, 0, rfl, by omega, (by repeat (first | with_reducible exact Below.refl _ _ | with_reducible apply Below.ofExt | with_reducible apply Below.ofAlloc | with_reducible apply Below.drew | with_reducible apply Below.ofDrewN | with_reducible assumption | (with_reducible refine Below.setCell ?_ (by first | exact Nat.le_refl _ | (simp [go_sem]; done) | (simp [go_sem]; omega)) _))), rfl, rfl⟩
  case round =>
    obtain ⟨n, m, rfl, hn, hbel, rfl, hmx⟩ := hrel
    obtain ⟨X, rfl⟩ := hbel.ext
    have HM := Lib.hid hmx
    clear hmx
    by_cases hlt : (n : Int) < ds.length
    · have hk : n < ds.length := by omega
      obtain ⟨b, off, cs, rfl, hbly, hrd, hcell⟩ := HX.out n hk
      have hst := foldl_take_step ageMax 0 ds n hk
      generalize ds[n] = d at hrd hst
      have HD := Lib.hid hrd
      obtain ⟨a0, c0, a1, c1, a2, c2, a3, c3, a4, c4, rfl⟩ := vTx_shape hrd
      clear hrd
      have y0 := hcell 0 _ rfl
      have y1 := hcell 1 _ rfl
      have y2 := hcell 2 _ rfl
      have y3 := hcell 3 _ rfl
      have y4 := hcell 4 _ rfl
      have y5 := hcell 5 _ rfl
      have y6 := hcell 6 _ rfl
      have y7 := hcell 7 _ rfl
      have y8 := hcell 8 _ rfl
      have y9 := hcell 9 _ rfl
      clear hcell
      simp only [show vTx.k = 10 from rfl, Nat.add_zero] at y0 y1 y2 y3 y4 y5 y6 y7 y8 y9
      have HT := Lib.hid hst
      clear hst
      by_cases hg : m < d.age
      · skip
        go_wp2
        go_roundw
        case rel => exact ⟨n + 1, _, by go_num, by omega, (by repeat (first | with_reducible exact Below.refl _ _ | with_reducible apply Below.ofExt | with_reducible apply Below.ofAlloc | with_reducible apply Below.drew | with_reducible apply Below.ofDrewN | with_reducible assumption | (with_reducible refine Below.setCell ?_ (by first | exact Nat.le_refl _ | (simp [go_sem]; done) | (simp [go_sem]; omega)) _))), rfl, by rw [HT.out, ← HM.out]; unfold ageMax; rw [if_pos hg]⟩
        case measure => simp [intOf]; omega
      · skip
        go_wp2
        go_roundw
        case rel => exact ⟨n + 1, _, by go_num, by omega, (by repeat (first | with_reducible exact Below.refl _ _ | with_reducible apply Below.ofExt | with_reducible apply Below.ofAlloc | with_reducible apply Below.drew | with_reducible apply Below.ofDrewN | with_reducible assumption | (with_reducible refine Below.setCell ?_ (by first | exact Nat.le_refl _ | (simp [go_sem]; done) | (simp [go_sem]; omega)) _))), rfl, by rw [HT.out, ← HM.out]; unfold ageMax; rw [if_neg hg]⟩
        case measure => simp [intOf]; omega
    · go_wp2
      go_ret
      have e : n = ds.length := by omega
      subst e
      have h := HM.out
      rw [List.take_length] at h
      exact ⟨by rw [← h]; rfl, (by repeat (first | with_reducible exact Below.refl _ _ | with_reducible apply Below.ofExt | with_reducible apply Below.ofAlloc | with_reducible apply Below.drew | with_reducible apply Below.ofDrewN | with_reducible assumption | (with_reducible refine Below.setCell ?_ (by first | exact Nat.le_refl _ | (simp [go_sem]; done) | (simp [go_sem]; omega)) _)))⟩
set_option maxRecDepth 100000 in
theorem impl_NextAge (v : Value) (ds : List TxD) (w : World) {e : TypeId} (hs : (vSlice vTx e).rd w [v] ds) :
    Calls Try.prog 19 #[v] w fun e w' => e = .returned (.int .i64 (wrap64 (ds.foldl ageMax 0 + 1))) ∧ Below w.heap.size w w' := by
  obtain ⟨ao, cap, rfl, hc1, hc2, hnil, hcell⟩ := vSlice.shape hs
  have HX := Lib.hid hcell
  clear hcell hnil
  unfold maxLen at hc2
  clear hs
  go_enter Try.func19, Try.ntmps19
  go_wp2
  go_loopw [3, 8] (fun g k wr => ∃ (n : Nat) (m : Int), k = .int .i64 n ∧ n ≤ ds.length ∧ Below w.heap.size w wr ∧ g = .int .i64 m ∧ m = (ds.take n).foldl ageMax 0) (fun _ k _ => ds.length - (intOf k).toNat)
  case atStart => exact ⟨0, 0, rfl, by omega, (by repeat (first | with_reducible exact Below.refl _ _ | with_reducible apply Below.ofExt | with_reducible apply Below.ofAlloc | with_reducible apply Below.drew | with_reducible apply Below.ofDrewN | with_reducible assumption | (with_reducible refine Below.setCell ?_ (by first | exact Nat.le_refl _ | (simp [go_sem]; done) | (simp [go_sem]; omega)) _))), rfl, rfl⟩
  case round =>
    obtain ⟨n, m, rfl, hn, hbel, rfl, hmx⟩ := hrel
    obtain ⟨X, rfl⟩ := hbel.ext
    have HM := Lib.hid hmx
    clear hmx
    by_cases hlt : (n : Int) < ds.length
    · have hk : n < ds.length := by omega
      obtain ⟨b, off, cs, rfl, hbly, hrd, hcell⟩ := HX.out n hk
      have hst := foldl_take_step ageMax 0 ds n hk
      generalize ds[n] = d at hrd hst
      have HD := Lib.hid hrd
      obtain ⟨a0, c0, a1, c1, a2, c2, a3, c3, a4, c4, rfl⟩ := vTx_shape hrd
      clear hrd
      have y0 := hcell 0 _ rfl
      have y1 := hcell 1 _ rfl
      have y2 := hcell 2 _ rfl
      have y3 := hcell 3 _ rfl
      have y4 := hcell 4 _ rfl
      have y5 := hcell 5 _ rfl
      have y6 := hcell 6 _ rfl
      have y7 := hcell 7 _ rfl
      have y8 := hcell 8 _ rfl
      have y9 := hcell 9 _ rfl
      clear hcell
      simp only [show vTx.k = 10 from rfl, Nat.add_zero] at y0 y1 y2 y3 y4 y5 y6 y7 y8 y9
      have HT := Lib.hid hst
      clear hst
      by_cases hg : m < d.age
      · have hmax : max m d.age = d.age := Int.max_eq_right (by omega)
        go_wp2
        go_roundw
        case rel => exact ⟨n + 1, _, by go_num, by omega, (by repeat (first | with_reducible exact Below.refl _ _ | with_reducible apply Below.ofExt | with_reducible apply Below.ofAlloc | with_reducible apply Below.drew | with_reducible apply Below.ofDrewN | with_reducible assumption | (with_reducible refine Below.setCell ?_ (by first | exact Nat.le_refl _ | (simp [go_sem]; done) | (simp [go_sem]; omega)) _))), rfl, by rw [HT.out, ← HM.out]; unfold ageMax; rw [if_pos hg]⟩
        case measure => simp [intOf]; omega
      · have hmax : max m d.age = m := Int.max_eq_left (by omega)
        go_wp2
        go_roundw
        case rel => exact ⟨n + 1, _, by go_num, by omega, (by repeat (first | with_reducible exact Below.refl _ _ | with_reducible apply Below.ofExt | with_reducible apply Below.ofAlloc | with_reducible apply Below.drew | with_reducible apply Below.ofDrewN | with_reducible assumption | (with_reducible refine Below.setCell ?_ (by first | exact Nat.le_refl _ | (simp [go_sem]; done) | (simp [go_sem]; omega)) _))), rfl, by rw [HT.out, ← HM.out]; unfold ageMax; rw [if_neg hg]⟩
        case measure => simp [intOf]; omega
    · go_wp2
      go_ret
      have e : n = ds.length := by omega
      subst e
      have h := HM.out
      rw [List.take_length] at h
      exact ⟨by rw [← h]; rfl, (by repeat (first | with_reducible exact Below.refl _ _ | with_reducible apply Below.ofExt | with_reducible apply Below.ofAlloc | with_reducible apply Below.drew | with_reducible apply Below.ofDrewN | with_reducible assumption | (with_reducible refine Below.setCell ?_ (by first | exact Nat.le_refl _ | (simp [go_sem]; done) | (simp [go_sem]; omega)) _)))⟩
end Go.Proofs.Ytmhopglbgaijiaa
