/- The laws' measure, copy, comparison, marks of slices of strings. Each condition stands in its theorem. -/
import Derived.Test.YtedgenmbdjadkaaDoorMark
set_option linter.unusedVariables false
set_option linter.unusedSimpArgs false
namespace Go.Proofs.YtedgenmbdjadkaaDoor
open Go.ChangeShapes Go.WideShapes Go.ChangeAt Go.RowKit

def wtStrs (xs : List ByteArray) : Nat := wtS ByteArray.size xs
theorem vStr_shape {v : Value} {xs : List ByteArray} {w : World} {e : TypeId} (h : (vSlice vStr e).rd w [v] xs) : ∃ ao cap, v = .slice ao xs.length cap ∧ xs.length ≤ cap ∧ cap ≤ maxLen ∧ (ao = none → cap = 0 ∧ xs = []) ∧
    (xs ≠ [] → ∃ b off, ao = some ⟨b, off, none⟩ ∧ b < w.heap.size ∧ ∀ (i : Nat) (hi : i < xs.length), w.cell? ⟨b, off + i, none⟩ = some (Value.string xs[i])) ∧ ∀ s ∈ xs, s.size ≤ 9223372036854775807 := by
  obtain ⟨ao, cap, rfl, h1, h2, h3, h4⟩ := vSlice.shape h
  refine ⟨ao, cap, rfl, h1, h2, fun e => ⟨h3 e, List.eq_nil_of_length_eq_zero (by have := h3 e; omega)⟩, fun hne => ?_, fun s hs => ?_⟩
  · have hl : 0 < xs.length := List.length_pos_iff.2 hne
    obtain ⟨b, off, cs, rfl, hb, _, _⟩ := h4 0 hl
    refine ⟨b, off, rfl, hb, fun i hi => ?_⟩
    obtain ⟨b', off', cs', e, _, hr, hc⟩ := h4 i hi
    simp only [Option.some.injEq, Addr.mk.injEq, and_true] at e
    obtain ⟨rfl, rfl⟩ := e
    obtain ⟨rfl, _⟩ := hr
    have := hc 0 _ rfl
    simpa [vStr, vRow] using this
  · obtain ⟨i, hi, rfl⟩ := List.getElem_of_mem hs
    obtain ⟨_, _, _, _, _, hr, _⟩ := h4 i hi
    exact hr.2
theorem laws_eqStringS (v v' : Value) (xs : List ByteArray) (w : World) {e e' : TypeId} (hs : (vSlice vStr e).rd w [v] xs) (hs' : (vSlice vStr e').rd w [v'] xs) :
    Calls Tryd.prog 7 #[v, v'] w fun e w' => e = .returned (.bool true) ∧ Below w.heap.size w w' := by
  obtain ⟨ao, cap, rfl, hc1, hc2, hnil, hcell, hz⟩ := vStr_shape hs
  obtain ⟨ao', cap', rfl, hc1', hc2', hnil', hcell', hz'⟩ := vStr_shape hs'
  have HX := Lib.hid hcell
  have HX' := Lib.hid hcell'
  clear hcell hs hnil hcell' hs' hnil' hz hz'
  unfold maxLen at hc2 hc2'
  go_enter Tryd.func7, Tryd.ntmps7
  go_wp2
  go_loopw [5] (fun k wr => ∃ (n : Nat) (X : Ext), k = .int .i64 n ∧ n ≤ xs.length ∧ wr = w.ext X) (fun k _ => xs.length - (intOf k).toNat)
  case atStart => exact ⟨0, ⟨#[], _⟩, rfl, by omega, (World.ext_nil _ _ rfl).symm⟩
  case round =>
    obtain ⟨n, X, rfl, hn, rfl⟩ := hrel
    by_cases hlt : (n : Int) < xs.length
    · have hk : n < xs.length := by omega
      obtain ⟨b, off, rfl, hbl, hcell⟩ := HX.out (by intro e; simp [e] at hk)
      obtain ⟨b', off', rfl, hbl', hcell'⟩ := HX'.out (by intro e; simp [e] at hk)
      have hcc := hcell n hk
      have hcc' := hcell' n hk
      generalize xs[n] = s at hcc hcc'
      clear hcell hcell'
      go_wp2
      refine wp_region_ord [(0,true),(1,true),(2,true),(3,true),(4,true),(5,true),(6,true),(7,true),(8,true)] 9 (by kernel_rfl) (by kernel_rfl) ?_
      repeat (refine wpOrd_quiet rfl (fun K hK => ?_); go_simp; (try simp (disch := omega) only [IntWalk.i64_in]); refine hK _ ?_; clear hK K)
      refine wpOrd_nil ?_
      go_wp2
      go_roundw
      case rel => exact ⟨n + 1, _, by go_num, by omega, rfl⟩
      case measure => simp [intOf]; omega
    · go_wp2
      go_ret
      exact ⟨rfl, (by repeat (first | with_reducible exact Below.refl _ _ | with_reducible apply Below.ofExt | with_reducible apply Below.ofAlloc | with_reducible apply Below.drew | with_reducible apply Below.ofDrewN | with_reducible assumption | (with_reducible refine Below.setCell ?_ (by first | exact Nat.le_refl _ | (simp [go_sem]; done) | (simp [go_sem]; omega)) _)))⟩
set_option maxRecDepth 100000 in
theorem laws_markStringS (v : Value) (fp : List Nat) (ds : List ByteArray) (k : Int) (w : World) (hs : (vSlice vStr 9).own w fp [v] ds) (h0 : 0 ≤ k) (h1 : k + (1 * ds.length : Nat) ≤ 4294960000) :
    Calls Tryd.prog 8 #[v, .int .i64 k] w fun e w' => e = .returned (.int .i64 (k + (1 * ds.length : Nat))) ∧ (vSlice vStr 9).own w' fp [v] (marks mtext 1 k ds.length) ∧ Upon fp w w' := by
  rcases hs with ⟨hv, rfl, rfl⟩ | ⟨b, cap, blk, css, fps, hv, hb, hn, hm, hsz, ht, rfl, hcl, hfl, hel⟩
  · simp only [List.cons.injEq, and_true] at hv
    subst hv
    go_enter Tryd.func8, Tryd.ntmps8
    go_wp2
    go_loopw [1, 5] (fun kk i wr => kk = .int .i64 k ∧ i = .int .i64 0 ∧ wr = w) (fun _ _ _ => 0)
    case atStart => exact ⟨rfl, rfl, rfl⟩
    case round =>
      obtain ⟨rfl, rfl, rfl⟩ := hrel
      go_wp2
      go_ret
      exact ⟨by simp, .inl ⟨rfl, rfl, rfl⟩, Upon.refl _ _⟩
  · simp only [List.cons.injEq, and_true] at hv
    subst hv
    have hfe : fps.flatten = [] := by
      rw [List.flatten_eq_nil_iff]
      intro l hl
      obtain ⟨i, hi, rfl⟩ := List.getElem_of_mem hl
      exact (hel i (by omega) (by omega) hi).1
    rw [hfe]
    have hbl := World.lt_of_get hb
    have hsz' : blk.size = cap * 1 := hsz
    rw [Nat.mul_one] at hsz'
    clear hel ht hfe hcl hfl hsz
    generalize hnn : ds.length = N at hn h1
    clear hnn
    unfold maxLen at hm
    refine World.at_block hb ?_
    clear hb
    go_enter Tryd.func8, Tryd.ntmps8
    go_wp2
    go_loopw [1, 5] (fun kk i wr => ∃ (n : Nat) (cs : Array Value) (X : Ext) (m : Int), kk = .int .i64 m ∧ m = k + (1 * n : Nat) ∧ i = .int .i64 n ∧ n ≤ N ∧ wr = (w.setB b (.cells cs 9)).ext X ∧ cs.size = cap ∧ cs.toList.take n = (marks mtext 1 k n).flatMap (fun n => [Value.string n])) (fun _ i _ => N - (intOf i).toNat)
    case atStart => exact ⟨0, blk, ⟨#[], _⟩, k, rfl, by simp, rfl, by omega, (World.ext_nil _ _ rfl).symm, hsz', by simp [marks]⟩
    case round =>
      obtain ⟨n, cs, X, m, rfl, hmk, rfl, hn2, rfl, hcs, htk⟩ := hrel
      have HT := Lib.hid htk
      have HSZ := Lib.hid hcs
      have HM := Lib.hid hmk
      clear htk hcs hsz'
      have hm0 : 0 ≤ m := by omega
      have hm1 : m ≤ 4294960000 := by omega
      by_cases hlt : (n : Int) < N
      · have hk : n < N := by omega
        have hm2 : m + 1 ≤ 4294960000 := by omega
        clear hmk
        have l0 : n < cs.size := by rw [HSZ.out]; omega
        go_wp2_with fail
        (go_at_call 14; refine (laws_markText _ _ (by omega) (by omega)).mono ?_; rintro e w' ⟨rfl, hb⟩; obtain ⟨X, rfl⟩ := hb.ext; clear hb)
        go_wp2
        go_roundw
        case rel =>
          refine ⟨n + 1, _, _, _, rfl, ?_, by go_num, by omega, rfl, ?_, ?_⟩
          · have := HM.out
            omega
          · simpa using HSZ.out
          · rw [marks_succ, List.flatMap_append, ← HM.out]
            exact take_set1 HT.out l0
        case measure => simp [intOf]; omega
      · clear hmk
        go_wp2
        go_ret
        have e : n = N := by omega
        subst e
        exact ⟨ret_int (by have := HM.out; omega), View.ownExt (vSlice.ownRow (World.setB_at _ _ _ hbl) (marks_len _ _ _ _).symm hn (by unfold maxLen; exact hm) (by rw [Nat.mul_one]; exact HSZ.out) (by rw [Nat.mul_one]; exact HT.out) (fun d hd => by obtain ⟨i, hi, rfl⟩ := marks_mem hd; exact mtext_size _ (by omega))) X, Upon.setBExt _ _ _ (by simp)⟩
set_option maxRecDepth 100000 in
theorem laws_heldStringS (v : Value) (k : Int) (N : Nat) (w : World) {e : TypeId} (hs : (vSlice vStr e).rd w [v] (marks mtext 1 k N)) (h0 : 0 ≤ k) (h1 : k + (1 * N : Nat) ≤ 4294960000) :
    Calls Tryd.prog 9 #[v, .int .i64 k] w fun e w' => e = .returned (.int .i64 (k + (1 * N : Nat))) ∧ Below w.heap.size w w' := by
  obtain ⟨ao, cap, rfl, hc1, hc2, hnil, hcell, hz⟩ := vStr_shape hs
  have HX := Lib.hid hcell
  clear hcell hs hnil hz
  rw [marks_len] at hc1 ⊢
  unfold maxLen at hc2
  go_enter Tryd.func9, Tryd.ntmps9
  go_wp2
  go_loopw [1, 5] (fun kk i wr => ∃ (n : Nat) (m : Int), kk = .int .i64 m ∧ m = k + (1 * n : Nat) ∧ i = .int .i64 n ∧ n ≤ N ∧ Below w.heap.size w wr) (fun _ i _ => N - (intOf i).toNat)
  case atStart => exact ⟨0, k, rfl, by simp, rfl, by omega, (by repeat (first | with_reducible exact Below.refl _ _ | with_reducible apply Below.ofExt | with_reducible apply Below.ofAlloc | with_reducible apply Below.drew | with_reducible apply Below.ofDrewN | with_reducible assumption | (with_reducible refine Below.setCell ?_ (by first | exact Nat.le_refl _ | (simp [go_sem]; done) | (simp [go_sem]; omega)) _)))⟩
  case round =>
    obtain ⟨n, m, rfl, hmk, rfl, hn, hbel⟩ := hrel
    obtain ⟨X, rfl⟩ := hbel.ext
    have HM := Lib.hid hmk
    have hm0 : 0 ≤ m := by omega
    have hm1 : m ≤ 4294960000 := by omega
    by_cases hlt : (n : Int) < N
    · have hk : n < N := by omega
      have hm2 : m + 1 ≤ 4294960000 := by omega
      have hkl : n < (marks mtext 1 k N).length := by rw [marks_len]; exact hk
      obtain ⟨b, off, rfl, hbl, hcell⟩ := HX.out (by intro e; rw [e] at hkl; simp at hkl)
      have hcc := hcell n hkl
      rw [marks_get, ← hmk] at hcc
      clear hmk hcell hkl

      go_wp2
      refine wp_region_ord [(0,true),(1,true),(2,true),(3,true),(4,true),(5,false),(6,true)] 7 (by kernel_rfl) (by kernel_rfl) ?_
      repeat (refine wpOrd_quiet rfl (fun K hK => ?_); go_simp; (try simp (disch := omega) only [IntWalk.i64_in]); refine hK _ ?_; clear hK K)
      refine wpOrd_grow rfl (fun K hK => ?_); go_simp; go_at_call 14; refine (laws_markText _ _ (by omega) (by omega)).mono ?_; rintro e w' ⟨rfl, hb⟩; obtain ⟨X, rfl⟩ := hb.ext; clear hb; try go_simp; refine hK _ _ (by show Sx _ _; (try simp only [← Array.append_assoc]); repeat (first | with_reducible exact Sx.drew _ | with_reducible exact Sx.same _ _ _ _ | with_reducible exact ⟨_, rfl⟩ | with_reducible apply Sx.more | with_reducible apply Sx.ext | with_reducible apply Sx.alloc | with_reducible apply Sx.draw | with_reducible exact Sx.refl _)) ?_; clear hK K
      repeat (refine wpOrd_quiet rfl (fun K hK => ?_); go_simp; (try simp (disch := omega) only [IntWalk.i64_in]); refine hK _ ?_; clear hK K)
      refine wpOrd_nil ?_
      go_wp2
      go_roundw
      case rel =>
        exact ⟨n + 1, _, rfl, by have := HM.out; omega, by go_num, by omega, (by repeat (first | with_reducible exact Below.refl _ _ | with_reducible apply Below.ofExt | with_reducible apply Below.ofAlloc | with_reducible apply Below.drew | with_reducible apply Below.ofDrewN | with_reducible assumption | (with_reducible refine Below.setCell ?_ (by first | exact Nat.le_refl _ | (simp [go_sem]; done) | (simp [go_sem]; omega)) _)))⟩
      case measure => simp [intOf]; omega
    · clear hmk
      go_wp2
      go_ret
      have e : n = N := by omega
      subst e
      exact ⟨ret_int (by have := HM.out; omega), (by repeat (first | with_reducible exact Below.refl _ _ | with_reducible apply Below.ofExt | with_reducible apply Below.ofAlloc | with_reducible apply Below.drew | with_reducible apply Below.ofDrewN | with_reducible assumption | (with_reducible refine Below.setCell ?_ (by first | exact Nat.le_refl _ | (simp [go_sem]; done) | (simp [go_sem]; omega)) _)))⟩
end Go.Proofs.YtedgenmbdjadkaaDoor
