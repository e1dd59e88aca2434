/- Texts of this claim, merged: the walks and what they stand on. Each condition stands in its theorem. -/
import Derived.Deep.Slices
import Derived.Lib.SmallJoins
import Derived.Test.YtieenbnmfaekiaaGreatDoorSS28
set_option linter.unusedVariables false
set_option linter.unusedSimpArgs false
set_option maxRecDepth 100000
set_option maxHeartbeats 8000000
namespace Go.Proofs.YtieenbnmfaekiaaGreatDoor
open Go.ChangeShapes Go.WideShapes Go.ChangeAt Go.RowKit
theorem mtext_sizeB (k : Int) (h : k ≤ 1125899906842624) : (mtext k).size ≤ 9223372036854775807 := by
 unfold mtext
 split
 ·decide
 ·rw [ByteArray.size_append]
  have h1 := mtxtAux_size k.toNat k.toNat ⟨#[]⟩
  have h2 : (⟨#[109]⟩ : ByteArray).size = 1 := rfl
  have h3 : (⟨#[]⟩ : ByteArray).size = 0 := rfl
  omega
theorem laws_markTextB (k : Int) (w : World) (h0 : 0 ≤ k) (h1 : k ≤ 1125899906842624) :
  Calls Tryz.prog 28 #[.int .i64 k] w fun e w' => e = .returned (.string (mtext k)) ∧ Below w.heap.size w w' := by
 by_cases hz : k ≤ 0
 ·have : mtext k = ⟨#[109, 48]⟩ := by unfold mtext; rw [if_pos hz]
  rw [this]
  go_enter Tryz.func28, Tryz.ntmps28
  go_wp2
  go_ret
  exact ⟨rfl, (by repeat (with_reducible exact Below.refl _ _))⟩
 ·have : mtext k = ⟨#[109]⟩ ++ mtxtAux k.toNat k.toNat ⟨#[]⟩ := by unfold mtext; rw [if_neg hz]
  rw [this]
  obtain ⟨m, rfl⟩ : ∃ m : Nat, k = m := ⟨k.toNat, by omega⟩
  simp only [Int.toNat_natCast]
  go_enter Tryz.func28, Tryz.ntmps28
  go_wp2
  go_loopw [0, 3] (fun kk o wr => ∃ (n : Nat) (s : ByteArray), kk = .int .i64 n ∧ n ≤ m ∧ Below w.heap.size w wr ∧ o = .string s ∧ mtxtAux n n s = mtxtAux m m ⟨#[]⟩ ∧ s.size + n ≤ m) (fun kk _ _ => (intOf kk).toNat)
  case atStart => exact ⟨m, ⟨#[]⟩, rfl, by omega, (by repeat (with_reducible exact Below.refl _ _)), rfl, rfl, by show 0 + m ≤ m; omega⟩
  case round =>
   obtain ⟨n, s, rfl, hn, hbel, rfl, haux, hsz⟩ := hrel
   obtain ⟨X, rfl⟩ := hbel.ext
   have HA := Lib.hid haux
   clear haux
   by_cases hlt : 0 < (n : Int)
   ·have hk := conv_one (w.ext X) (digB n) (48 + (n : Int) % 10) (digit_toNat n).symm (w.heap.size + X.bs.size) (by rw [World.ext_size])
    have hst : mtxtAux n n s = mtxtAux (n / 10) (n / 10) (⟨#[digB n]⟩ ++ s) := by
     obtain ⟨p, rfl⟩ : ∃ p, n = p + 1 := ⟨n - 1, by omega⟩
     show (if p + 1 = 0 then s else mtxtAux p ((p + 1) / 10) _) = _
     rw [if_neg (by omega), mtxtAux_fuel p _ _ (by omega)]
    have HK := Lib.hid hst
    clear hst
    go_wp2
    go_roundw
    case rel =>
     refine ⟨n / 10, _, by go_num, by omega, (by repeat (first | with_reducible exact Below.refl _ _ | with_reducible apply Below.ofExt | with_reducible apply Below.ofAlloc)), rfl, by rw [← HK.out]; exact HA.out, ?_⟩
     rw [ByteArray.size_append]
     have : (⟨#[digB n]⟩ : ByteArray).size = 1 := rfl
     omega
    case measure => simp [intOf]; omega
   ·go_wp2
    go_ret
    have e : n = 0 := by omega
    subst e
    have h := HA.out
    exact ⟨by rw [← h]; rfl, (by repeat (first | with_reducible exact Below.refl _ _ | with_reducible apply Below.ofExt))⟩
theorem mkCell_okB (k : Int) (h : k ≤ 1125899906842600) : (mkCell k).ok := ⟨mtext_sizeB _ (by omega), mtext_sizeB _ (by omega)⟩
theorem marks_ok_CellB {k : Int} {n : Nat} (h : k + (2 * n : Nat) ≤ 1125899906842600) : ∀ d ∈ marks mkCell 2 k n, d.ok := by
 intro d hd
 obtain ⟨i, hi, rfl⟩ := marks_mem hd
 exact mkCell_okB _ (by omega)
theorem laws_markCellSB (v : Value) (fp : List Nat) (ds : List CellD) (k : Int) (w : World) (hs : (vSlice vCell 53).own w fp [v] ds) (h0 : 0 ≤ k) (h1 : k + (2 * ds.length : Nat) ≤ 1125899906842000) :
  Calls Tryz.prog 13 #[v, .int .i64 k] w fun e w' => e = .returned (.int .i64 (k + (2 * ds.length : Nat))) ∧ (vSlice vCell 53).own w' fp [v] (marks mkCell 2 k ds.length) ∧ Upon fp w w' := by
 rcases hs with ⟨hv, rfl, rfl⟩ | ⟨b, cap, blk, css, fps, hv, hb, hn, hm, hsz, ht, rfl, hcl, hfl, hel⟩
 ·simp only [List.cons.injEq, and_true] at hv
  subst hv
  go_enter Tryz.func13, Tryz.ntmps13
  go_wp2
  go_loopw [1, 5] (fun kk i wr => kk = .int .i64 k ∧ i = .int .i64 0 ∧ wr = w) (fun _ _ _ => 0)
  case atStart => exact ⟨rfl, rfl, rfl⟩
  case round =>
   obtain ⟨rfl, rfl, rfl⟩ := hrel
   go_wp2
   go_ret
   exact ⟨by simp, .inl ⟨rfl, rfl, rfl⟩, Upon.refl _ _⟩
 ·simp only [List.cons.injEq, and_true] at hv
  subst hv
  have hfe : fps.flatten = [] := by
   rw [List.flatten_eq_nil_iff]
   intro l hl
   obtain ⟨i, hi, rfl⟩ := List.getElem_of_mem hl
   exact (hel i (by omega) (by omega) hi).1
  rw [hfe]
  have hbl := World.lt_of_get hb
  have hsz' : blk.size = cap * 2 := hsz
  clear hel ht hfe hcl hfl hsz
  generalize hnn : ds.length = N at hn h1
  clear hnn
  unfold maxLen at hm
  refine World.at_block hb ?_
  clear hb
  go_enter Tryz.func13, Tryz.ntmps13
  go_wp2
  go_loopw [1, 5] (fun kk i wr => ∃ (n : Nat) (cs : Array Value) (X : Ext) (m : Int), kk = .int .i64 m ∧ m = k + (2 * n : Nat) ∧ i = .int .i64 n ∧ n ≤ N ∧ wr = (w.setB b (.cells cs 53)).ext X ∧ cs.size = cap * 2 ∧ cs.toList.take (n * 2) = (marks mkCell 2 k n).flatMap CellD.row) (fun _ i _ => N - (intOf i).toNat)
  case atStart => exact ⟨0, blk, ⟨#[], _⟩, k, rfl, by simp, rfl, by omega, (World.ext_nil _ _ rfl).symm, hsz', by simp [marks]⟩
  case round =>
   obtain ⟨n, cs, X, m, rfl, hmk, rfl, hn2, rfl, hcs, htk⟩ := hrel
   have HT := Lib.hid htk
   have HSZ := Lib.hid hcs
   have HM := Lib.hid hmk
   clear htk hcs hsz'
   have hm0 : 0 ≤ m := by omega
   have hm1 : m ≤ 1125899906842000 := by omega
   by_cases hlt : (n : Int) < N
   ·have hk : n < N := by omega
    have hm2 : m + 2 ≤ 1125899906842000 := by omega
    clear hmk
    have hsz2 : n * 2 + 2 ≤ cs.size := by rw [HSZ.out]; omega
    have l0 : n * 2 < cs.size := by omega
    have l1 : n * 2 + 1 < cs.size := by omega
    go_wp2_with fail
    (go_at_call 28; refine (laws_markTextB _ _ (by omega) (by omega)).mono ?_; rintro e w' ⟨rfl, hb⟩; obtain ⟨X, rfl⟩ := hb.ext; clear hb)
    go_wp2_with fail
    (go_at_call 28; refine (laws_markTextB _ _ (by omega) (by omega)).mono ?_; rintro e w' ⟨rfl, hb⟩; obtain ⟨X, rfl⟩ := hb.ext; clear hb)
    go_wp2
    go_roundw
    case rel =>
     refine ⟨n + 1, _, _, _, rfl, ?_, by go_num, by omega, rfl, ?_, ?_⟩
     ·have := HM.out
      omega
     ·simpa using HSZ.out
     ·skip
      have h0 := take_set1' (v := .string (mtext m)) HT.out rfl rfl (by omega)
      have h1 := take_set1' (p := (n + 1) * 2) (v := .string (mtext (m + 1))) h0 rfl (by omega) (by simp; omega)
      rw [marks_succ, List.flatMap_append, ← HM.out]
      simpa [mkCell, CellD.row] using h1
    case measure => simp [intOf]; omega
   ·clear hmk
    go_wp2
    go_ret
    have e : n = N := by omega
    subst e
    exact ⟨ret_int HM.out, View.ownExt (vSlice.ownRow (World.setB_at _ _ _ hbl) (marks_len _ _ _ _).symm hn (by unfold maxLen; exact hm) HSZ.out HT.out (marks_ok_CellB (by omega))) X, Upon.setBExt _ _ _ (by simp)⟩
theorem laws_heldCellSB (v : Value) (k : Int) (N : Nat) (w : World) {e : TypeId} (hs : (vSlice vCell e).rd w [v] (marks mkCell 2 k N)) (h0 : 0 ≤ k) (h1 : k + (2 * N : Nat) ≤ 1125899906842000) :
  Calls Tryz.prog 16 #[v, .int .i64 k] w fun e w' => e = .returned (.int .i64 (k + (2 * N : Nat))) ∧ Below w.heap.size w w' := by
 obtain ⟨ao, cap, rfl, hc1, hc2, hnil, hcell⟩ := vSlice.shape hs
 have HX := Lib.hid hcell
 clear hcell hs hnil
 rw [marks_len] at hc1 ⊢
 unfold maxLen at hc2
 go_enter Tryz.func16, Tryz.ntmps16
 go_wp2
 go_loopw [1, 5] (fun kk i wr => ∃ (n : Nat) (m : Int), kk = .int .i64 m ∧ m = k + (2 * n : Nat) ∧ i = .int .i64 n ∧ n ≤ N ∧ Below w.heap.size w wr) (fun _ i _ => N - (intOf i).toNat)
 case atStart => exact ⟨0, k, rfl, by simp, rfl, by omega, (by repeat (with_reducible exact Below.refl _ _))⟩
 case round =>
  obtain ⟨n, m, rfl, hmk, rfl, hn, hbel⟩ := hrel
  obtain ⟨X, rfl⟩ := hbel.ext
  have HM := Lib.hid hmk
  have hm0 : 0 ≤ m := by omega
  have hm1 : m ≤ 1125899906842000 := by omega
  by_cases hlt : (n : Int) < N
  ·have hk : n < N := by omega
   have hm2 : m + 2 ≤ 1125899906842000 := by omega
   obtain ⟨b, off, cs, rfl, hbl, hrd, hcell⟩ := HX.out n (by rw [marks_len]; exact hk)
   rw [marks_get, ← hmk] at hrd
   clear hmk
   obtain ⟨rfl, hok⟩ := hrd
   have c0 := hcell 0 _ rfl
   have c1 := hcell 1 _ rfl
   clear hcell
   simp only [show vCell.k = 2 from rfl, Nat.add_zero, mkCell] at c0 c1
   go_wp2
   refine wp_region_ord [(0,true),(1,true),(2,true),(3,true),(4,true),(5,true),(6,false),(7,true)] 8 (by kernel_rfl) (by kernel_rfl) ?_
   repeat (refine wpOrd_quiet rfl (fun K hK => ?_); go_simp; (try simp (disch := omega) only [IntWalk.i64_in]); refine hK _ ?_; clear hK K)
   refine wpOrd_grow rfl (fun K hK => ?_); go_simp; go_at_call 28; refine (laws_markTextB _ _ (by omega) (by omega)).mono ?_; rintro e w' ⟨rfl, hb⟩; obtain ⟨X, rfl⟩ := hb.ext; clear hb; try go_simp; refine hK _ _ (by show Sx _ _; repeat (first | with_reducible exact Sx.same _ _ _ _ | with_reducible apply Sx.more)) ?_; clear hK K
   repeat (refine wpOrd_quiet rfl (fun K hK => ?_); go_simp; (try simp (disch := omega) only [IntWalk.i64_in]); refine hK _ ?_; clear hK K)
   refine wpOrd_nil ?_
   go_wp2
   refine wp_region_ord [(0,true),(1,true),(2,true),(3,true),(4,true),(5,true),(6,false),(7,true)] 8 (by kernel_rfl) (by kernel_rfl) ?_
   repeat (refine wpOrd_quiet rfl (fun K hK => ?_); go_simp; (try simp (disch := omega) only [IntWalk.i64_in]); refine hK _ ?_; clear hK K)
   refine wpOrd_grow rfl (fun K hK => ?_); go_simp; go_at_call 28; refine (laws_markTextB _ _ (by omega) (by omega)).mono ?_; rintro e w' ⟨rfl, hb⟩; obtain ⟨X, rfl⟩ := hb.ext; clear hb; try go_simp; refine hK _ _ (by show Sx _ _; (try simp only [← Array.append_assoc]); repeat (first | with_reducible exact Sx.same _ _ _ _ | with_reducible apply Sx.more)) ?_; clear hK K
   repeat (refine wpOrd_quiet rfl (fun K hK => ?_); go_simp; (try simp (disch := omega) only [IntWalk.i64_in]); refine hK _ ?_; clear hK K)
   refine wpOrd_nil ?_
   go_wp2
   go_roundw
   case rel =>
    exact ⟨n + 1, _, rfl, by have := HM.out; omega, by go_num, by omega, (by repeat (first | with_reducible exact Below.refl _ _ | with_reducible apply Below.ofExt))⟩
   case measure => simp [intOf]; omega
  ·clear hmk
   go_wp2
   go_ret
   have e : n = N := by omega
   subst e
   exact ⟨ret_int HM.out, (by repeat (first | with_reducible exact Below.refl _ _ | with_reducible apply Below.ofExt))⟩
theorem mkAnswer_okB (k : Int) (h : k ≤ 1125899906842600) : (mkAnswer k).ok := mtext_sizeB _ (by omega)
theorem marks_ok_AnswerB {k : Int} {n : Nat} (h : k + (3 * n : Nat) ≤ 1125899906842600) : ∀ d ∈ marks mkAnswer 3 k n, d.ok := by
 intro d hd
 obtain ⟨i, hi, rfl⟩ := marks_mem hd
 exact mkAnswer_okB _ (by omega)
theorem laws_markAnswerSB (v : Value) (fp : List Nat) (ds : List AnswerD) (k : Int) (w : World) (hs : (vSlice vAnswer 66).own w fp [v] ds) (h0 : 0 ≤ k) (h1 : k + (3 * ds.length : Nat) ≤ 1125899906842000) :
  Calls Tryz.prog 15 #[v, .int .i64 k] w fun e w' => e = .returned (.int .i64 (k + (3 * ds.length : Nat))) ∧ (vSlice vAnswer 66).own w' fp [v] (marks mkAnswer 3 k ds.length) ∧ Upon fp w w' := by
 rcases hs with ⟨hv, rfl, rfl⟩ | ⟨b, cap, blk, css, fps, hv, hb, hn, hm, hsz, ht, rfl, hcl, hfl, hel⟩
 ·simp only [List.cons.injEq, and_true] at hv
  subst hv
  go_enter Tryz.func15, Tryz.ntmps15
  go_wp2
  go_loopw [1, 5] (fun kk i wr => kk = .int .i64 k ∧ i = .int .i64 0 ∧ wr = w) (fun _ _ _ => 0)
  case atStart => exact ⟨rfl, rfl, rfl⟩
  case round =>
   obtain ⟨rfl, rfl, rfl⟩ := hrel
   go_wp2
   go_ret
   exact ⟨by simp, .inl ⟨rfl, rfl, rfl⟩, Upon.refl _ _⟩
 ·simp only [List.cons.injEq, and_true] at hv
  subst hv
  have hfe : fps.flatten = [] := by
   rw [List.flatten_eq_nil_iff]
   intro l hl
   obtain ⟨i, hi, rfl⟩ := List.getElem_of_mem hl
   exact (hel i (by omega) (by omega) hi).1
  rw [hfe]
  have hbl := World.lt_of_get hb
  have hsz' : blk.size = cap * 3 := hsz
  clear hel ht hfe hcl hfl hsz
  generalize hnn : ds.length = N at hn h1
  clear hnn
  unfold maxLen at hm
  refine World.at_block hb ?_
  clear hb
  go_enter Tryz.func15, Tryz.ntmps15
  go_wp2
  go_loopw [1, 5] (fun kk i wr => ∃ (n : Nat) (cs : Array Value) (X : Ext) (m : Int), kk = .int .i64 m ∧ m = k + (3 * n : Nat) ∧ i = .int .i64 n ∧ n ≤ N ∧ wr = (w.setB b (.cells cs 66)).ext X ∧ cs.size = cap * 3 ∧ cs.toList.take (n * 3) = (marks mkAnswer 3 k n).flatMap AnswerD.row) (fun _ i _ => N - (intOf i).toNat)
  case atStart => exact ⟨0, blk, ⟨#[], _⟩, k, rfl, by simp, rfl, by omega, (World.ext_nil _ _ rfl).symm, hsz', by simp [marks]⟩
  case round =>
   obtain ⟨n, cs, X, m, rfl, hmk, rfl, hn2, rfl, hcs, htk⟩ := hrel
   have HT := Lib.hid htk
   have HSZ := Lib.hid hcs
   have HM := Lib.hid hmk
   clear htk hcs hsz'
   have hm0 : 0 ≤ m := by omega
   have hm1 : m ≤ 1125899906842000 := by omega
   by_cases hlt : (n : Int) < N
   ·have hk : n < N := by omega
    have hm2 : m + 3 ≤ 1125899906842000 := by omega
    clear hmk
    have hsz2 : n * 3 + 3 ≤ cs.size := by rw [HSZ.out]; omega
    have l0 : n * 3 < cs.size := by omega
    have l1 : n * 3 + 1 < cs.size := by omega
    have l2 : n * 3 + 2 < cs.size := by omega
    go_wp2_with fail
    (go_at_call 28; refine (laws_markTextB _ _ (by omega) (by omega)).mono ?_; rintro e w' ⟨rfl, hb⟩; obtain ⟨X, rfl⟩ := hb.ext; clear hb)
    go_wp2
    go_roundw
    case rel =>
     refine ⟨n + 1, _, _, _, rfl, ?_, by go_num, by omega, rfl, ?_, ?_⟩
     ·have := HM.out
      omega
     ·simpa using HSZ.out
     ·skip
      have h0 := take_set1' (v := .int .i64 m) HT.out rfl rfl (by omega)
      have h1 := take_set1' (v := .int .i64 (m + 1)) h0 rfl rfl (by simp; omega)
      have h2 := take_set1' (p := (n + 1) * 3) (v := .string (mtext (m + 1 + 1))) h1 rfl (by omega) (by simp; omega)
      rw [marks_succ, List.flatMap_append, ← HM.out]
      simpa [mkAnswer, AnswerD.row] using h2
    case measure => simp [intOf]; omega
   ·clear hmk
    go_wp2
    go_ret
    have e : n = N := by omega
    subst e
    exact ⟨ret_int HM.out, View.ownExt (vSlice.ownRow (World.setB_at _ _ _ hbl) (marks_len _ _ _ _).symm hn (by unfold maxLen; exact hm) HSZ.out HT.out (marks_ok_AnswerB (by omega))) X, Upon.setBExt _ _ _ (by simp)⟩
theorem laws_heldAnswerSB (v : Value) (k : Int) (N : Nat) (w : World) {e : TypeId} (hs : (vSlice vAnswer e).rd w [v] (marks mkAnswer 3 k N)) (h0 : 0 ≤ k) (h1 : k + (3 * N : Nat) ≤ 1125899906842000) :
  Calls Tryz.prog 17 #[v, .int .i64 k] w fun e w' => e = .returned (.int .i64 (k + (3 * N : Nat))) ∧ Below w.heap.size w w' := by
 obtain ⟨ao, cap, rfl, hc1, hc2, hnil, hcell⟩ := vSlice.shape hs
 have HX := Lib.hid hcell
 clear hcell hs hnil
 rw [marks_len] at hc1 ⊢
 unfold maxLen at hc2
 go_enter Tryz.func17, Tryz.ntmps17
 go_wp2
 go_loopw [1, 5] (fun kk i wr => ∃ (n : Nat) (m : Int), kk = .int .i64 m ∧ m = k + (3 * n : Nat) ∧ i = .int .i64 n ∧ n ≤ N ∧ Below w.heap.size w wr) (fun _ i _ => N - (intOf i).toNat)
 case atStart => exact ⟨0, k, rfl, by simp, rfl, by omega, (by repeat (with_reducible exact Below.refl _ _))⟩
 case round =>
  obtain ⟨n, m, rfl, hmk, rfl, hn, hbel⟩ := hrel
  obtain ⟨X, rfl⟩ := hbel.ext
  have HM := Lib.hid hmk
  have hm0 : 0 ≤ m := by omega
  have hm1 : m ≤ 1125899906842000 := by omega
  by_cases hlt : (n : Int) < N
  ·have hk : n < N := by omega
   have hm2 : m + 3 ≤ 1125899906842000 := by omega
   obtain ⟨b, off, cs, rfl, hbl, hrd, hcell⟩ := HX.out n (by rw [marks_len]; exact hk)
   rw [marks_get, ← hmk] at hrd
   clear hmk
   obtain ⟨rfl, hok⟩ := hrd
   have c0 := hcell 0 _ rfl
   have c1 := hcell 1 _ rfl
   have c2 := hcell 2 _ rfl
   clear hcell
   simp only [show vAnswer.k = 3 from rfl, Nat.add_zero, mkAnswer] at c0 c1 c2
   go_wp2
   refine wp_region_ord [(0,true),(1,true),(2,true),(3,true),(4,true),(5,true),(6,false),(7,true)] 8 (by kernel_rfl) (by kernel_rfl) ?_
   repeat (refine wpOrd_quiet rfl (fun K hK => ?_); go_simp; (try simp (disch := omega) only [IntWalk.i64_in]); refine hK _ ?_; clear hK K)
   refine wpOrd_grow rfl (fun K hK => ?_); go_simp; go_at_call 28; refine (laws_markTextB _ _ (by omega) (by omega)).mono ?_; rintro e w' ⟨rfl, hb⟩; obtain ⟨X, rfl⟩ := hb.ext; clear hb; try go_simp; refine hK _ _ (by show Sx _ _; repeat (first | with_reducible exact Sx.same _ _ _ _ | with_reducible apply Sx.more)) ?_; clear hK K
   repeat (refine wpOrd_quiet rfl (fun K hK => ?_); go_simp; (try simp (disch := omega) only [IntWalk.i64_in]); refine hK _ ?_; clear hK K)
   refine wpOrd_nil ?_
   go_wp2
   go_roundw
   case rel =>
    exact ⟨n + 1, _, rfl, by have := HM.out; omega, by go_num, by omega, (by repeat (first | with_reducible exact Below.refl _ _ | with_reducible apply Below.ofExt))⟩
   case measure => simp [intOf]; omega
  ·clear hmk
   go_wp2
   go_ret
   have e : n = N := by omega
   subst e
   exact ⟨ret_int HM.out, (by repeat (first | with_reducible exact Below.refl _ _ | with_reducible apply Below.ofExt))⟩
end Go.Proofs.YtieenbnmfaekiaaGreatDoor
namespace Go
open Go.RowKit Go.ChangeShapes Go.WideShapes Go.Deep
def Opens {α : Type} (P : Program) (T : TypeId) (V : View α) : Prop := ∀ (H : Type) (enc : TypeId × Value → H) (w : World) (fuel : Nat) {cs : List Value} {x : DataW H × List MemPlace},
 DataW.trod enc P w 0 (fun _ => true) true fuel T cs = some x → ∃ d, V.rd w cs d
theorem opensInt {P : Program} {T : TypeId} (ht : P.underlying T = some (.int .i64)) : Opens P T vInt := by
 intro H enc w fuel cs x h
 obtain ⟨n, rfl, _⟩ := DataW.trod_int ht h
 exact ⟨n, rfl, trivial⟩
theorem opensStr {P : Program} {T : TypeId} (ht : P.underlying T = some .string) : Opens P T vStr := by
 intro H enc w fuel cs x h
 obtain ⟨n, rfl, _, hz⟩ := DataW.trod_string ht h
 exact ⟨n, rfl, hz⟩
theorem flat_cells {k : Nat} (w : World) (b : Nat) : ∀ (css : List (List Value)) (off : Nat), (∀ i (hc : i < css.length), (css[i]).length = k) →
  (∀ i (hc : i < css.length) (j : Nat), j < k → w.cell? ⟨b, off + i * k + j, none⟩ = css[i][j]?) → ∀ j u, css.flatten[j]? = some u → w.cell? ⟨b, off + j, none⟩ = some u
 | [], _, _, _, j, u, h => by simp at h
 | c :: r, off, hl, hc, j, u, h => by
  have h0 : c.length = k := hl 0 (by simp)
  rw [List.flatten_cons] at h
  by_cases hj : j < k
  ·rw [List.getElem?_append_left (by omega)] at h
   have := hc 0 (by simp) j hj
   rw [Nat.zero_mul, Nat.add_zero] at this
   rw [this]
   exact h
  ·rw [List.getElem?_append_right (by omega), h0] at h
   have := flat_cells w b r (off + k) (fun i hi => by have := hl (i + 1) (by simpa using hi); rwa [List.getElem_cons_succ] at this) (fun i hi q hq => by
    have := hc (i + 1) (by simpa using hi) q hq
    rw [List.getElem_cons_succ] at this
    rw [← this]
    congr 2
    rw [Nat.add_mul]
    omega) (j - k) u h
   rw [← this]
   congr 2
   omega
theorem add_none (b o n : Nat) : (⟨b, o, none⟩ : Addr).add n = ⟨b, o + n, none⟩ := addr_add b o n
theorem opens_slice {α : Type} {P : Program} {T E : TypeId} {V : View α} {e : TypeId} (ht : P.underlying T = some (.slice E)) (hc : P.cellsOf E = V.k) (hk : 0 < V.k) (hE : Opens P E V) : Opens P T (vSlice V e) := by
 intro H enc w fuel cs x h
 rcases open_slice ht h with ⟨rfl, _⟩ | ⟨a, len, cap, m, n, D, Pl, rfl, _, hl, hm, hmm, _, hi⟩
 ·exact ⟨[], none, 0, [], rfl, Nat.le_refl _, Nat.zero_le _, fun _ => rfl, rfl, fun i hi => absurd hi (by simp), fun h => absurd rfl h⟩
 ·have hmm2 : cap = m := hmm.symm
  subst hmm2
  have hi : ∀ i, i < cap → ∃ cs', w.cells? 0 (a.add (i * P.cellsOf E)) (P.cellsOf E) = some cs' ∧ DataW.trod enc P w 0 (fun _ => true) true n E cs' = some (D i, Pl i) := hi
  have hex : ∀ i, ∃ cs' : List Value, ∃ d : Option α, i < len → cs'.length = V.k ∧ (∀ j, j < V.k → w.cell? ((a.add (i * V.k)).add j) = cs'[j]?) ∧ ∃ d', d = some d' ∧ V.rd w cs' d' := by
   intro i
   by_cases hlt : i < len
   ·obtain ⟨cs', h1, h2⟩ := hi i (by omega)
    rw [hc] at h1
    obtain ⟨_, h3, h4⟩ := World.cells?_some h1
    obtain ⟨d, hd⟩ := hE _ _ _ _ h2
    exact ⟨cs', some d, fun _ => ⟨h3, h4, d, rfl, hd⟩⟩
   ·exact ⟨[], none, fun h => absurd h hlt⟩
  have hex2 : ∃ (f : Nat → List Value) (g : Nat → Option α), ∀ i, i < len → (f i).length = V.k ∧ (∀ j, j < V.k → w.cell? ((a.add (i * V.k)).add j) = (f i)[j]?) ∧ ∃ d', g i = some d' ∧ V.rd w (f i) d' :=
   ⟨fun i => (hex i).choose, fun i => (hex i).choose_spec.choose, fun i => (hex i).choose_spec.choose_spec⟩
  obtain ⟨f, g, hfg⟩ := hex2
  by_cases hz : len = 0
  ·subst hz
   exact ⟨[], some a, cap, [], rfl, Nat.zero_le _, hm, (fun h => by cases h), rfl, fun i hi => absurd hi (by simp), fun h => absurd rfl h⟩
  ·have h0 := (hfg 0 (by omega))
   have hd0 : ∃ d0 : α, True := by obtain ⟨_, _, d, _⟩ := h0; exact ⟨d, trivial⟩
   obtain ⟨d0, _⟩ := hd0
   obtain ⟨b, off, sp⟩ := a
   have hsp : sp = none := by
    cases sp with
    | none => rfl
    | some q =>
     have h2 := h0.2.1 0 hk
     rw [Nat.zero_mul] at h2
     have h3 : (f 0)[0]? = some ((f 0)[0]'(by rw [h0.1]; exact hk)) := List.getElem?_eq_getElem _
     rw [h3] at h2
     have e : ((⟨b, off, some q⟩ : Addr).add 0).add 0 = ⟨b, off, some q⟩ := by simp [Addr.add]
     rw [e] at h2
     unfold World.cell? at h2
     simp only [Option.isSome_some, if_true] at h2
     split at h2 <;> cases h2
   subst hsp
   refine ⟨(List.range len).map fun i => (g i).getD d0, some ⟨b, off, none⟩, cap, (List.range len).map f, by simp, by simpa using hl, hm, (fun h => by cases h), by simp, ?_, fun _ => ⟨b, off, rfl, ?_, ?_⟩⟩
   ·intro i hi hci
    simp only [List.length_map, List.length_range] at hi hci
    obtain ⟨_, _, d', hd', hr⟩ := hfg i hi
    simp only [List.getElem_map, List.getElem_range, hd', Option.getD_some]
    exact hr
   ·have h2 := h0.2.1 0 hk
    obtain ⟨u, hu⟩ : ∃ u, (f 0)[0]? = some u := ⟨_, List.getElem?_eq_getElem (by rw [h0.1]; exact hk)⟩
    rw [hu, add_none, add_none] at h2
    exact World.block_lt_of_cell? w _ h2
   ·refine flat_cells (k := V.k) w b _ off (fun i hci => ?_) (fun i hci j hj => ?_)
    ·simp only [List.length_map, List.length_range] at hci
     simpa using (hfg i hci).1
    ·simp only [List.length_map, List.length_range] at hci
     have := (hfg i hci).2.1 j hj
     rw [add_none, add_none] at this
     simpa using this
theorem open_sl {α : Type} {P : Program} {T E e : TypeId} {V : View α} (hs : P.underlying T = some (.slice E)) (hO : Opens P T (vSlice V e)) {H : Type} {enc : TypeId × Value → H} {W : World} {base : Nat} {v : Value} {d : DataW H} {p : List MemPlace}
  (hv : Value.okWide P W .any base T v) (h : DataW.Trod enc P W 0 (fun _ => true) true T v d p) : ∃ x, (vSlice V e).rd W [v] x := by
 obtain ⟨a, len, cap, rfl⟩ := okWide_slice hs hv
 obtain ⟨fuel, hf⟩ := h
 exact hO _ _ _ _ hf
end Go
namespace Go.Proofs.YtieenbnmfaekiaaGreatDoor
open Go.ChangeShapes Go.WideShapes Go.ChangeAt Go.RowKit
theorem opens_int : Opens Tryz.prog 3 vInt := opensInt Tryz.underlying3
def InR (n : Int) : Prop := -9223372036854775808 ≤ n ∧ n ≤ 9223372036854775807
def vIntR : View Int := vRow (fun n => [.int .i64 n]) 1 InR (fun _ => rfl) (by simp [Value.oneCell'])
def vCallR : View CallD := vRow CallD.row 6 (fun d => d.ok ∧ InR d.a ∧ InR d.b) (fun _ => rfl) (fun d u hu => by simp [CallD.row] at hu; rcases hu with rfl | rfl | rfl | rfl | rfl | rfl <;> rfl)
def vStepR : View StepD := vRow StepD.row 7 (fun d => d.call.ok ∧ InR d.proc ∧ InR d.call.a ∧ InR d.call.b) (fun _ => rfl) (fun d u hu => by simp [StepD.row] at hu; rcases hu with rfl | rfl | rfl | rfl | rfl | rfl | rfl <;> rfl)
theorem opens_intR : Opens Tryz.prog 3 vIntR := by
 intro H enc w fuel cs x h
 obtain ⟨n, rfl, _, hw⟩ := DataW.trod_int Tryz.underlying3 h
 refine ⟨n, rfl, ?_⟩
 simp [Lit.wf, IntKind.min, IntKind.max, IntKind.signed, IntKind.bits] at hw
 exact ⟨by omega, by omega⟩
theorem slice_row {α : Type} {row : α → List Value} {k : Nat} {ok ok' : α → Prop} {hk : ∀ d, (row d).length = k} {h1 : ∀ d, ∀ u ∈ row d, u.oneCell' = true} {e : TypeId} {w : World} {cs : List Value} {ds : List α} (h : (vSlice (vRow row k ok hk h1) e).rd w cs ds) (hi : ∀ d, ok d → ok' d) :
  (vSlice (vRow row k ok' hk h1) e).rd w cs ds := by
 obtain ⟨ao, cap, css, e, h1, h2, h3, h4, h5, h6⟩ := h
 exact ⟨ao, cap, css, e, h1, h2, h3, h4, fun i hi' hc => ⟨(h5 i hi' hc).1, hi _ (h5 i hi' hc).2⟩, h6⟩
theorem slice_ok {α : Type} {row : α → List Value} {k : Nat} {ok : α → Prop} {hk : ∀ d, (row d).length = k} {h1 : ∀ d, ∀ u ∈ row d, u.oneCell' = true} {e : TypeId} {w : World} {cs : List Value} {ds : List α} (h : (vSlice (vRow row k ok hk h1) e).rd w cs ds) : ∀ d ∈ ds, ok d := by
 obtain ⟨ao, cap, css, e, h1, h2, h3, h4, h5, h6⟩ := h
 intro d hd
 obtain ⟨i, hi, rfl⟩ := List.getElem_of_mem hd
 exact (h5 i hi (by omega)).2
theorem opens_str : Opens Tryz.prog 9 vStr := opensStr Tryz.underlying9
theorem Tryz.cellsLCall : Tryz.prog.cellsOf 45 = 6 := by kernel_rfl
theorem opens_CallR : Opens Tryz.prog 45 vCallR := by
 intro H enc w fuel cs x h
 obtain ⟨xs, n, _, _, hl, hxl, hf⟩ := DataW.trod_struct Tryz.underlying45 h
 rw [Tryz.cellsLCall] at hl
 match cs, hl with
 | [c0, c1, c2, c3, c4, c5], _ =>
  match xs, hxl with
  | [y0, y1, y2, y3, y4, y5], _ =>
   have h0 : DataW.trod enc Tryz.prog w 0 (fun _ => true) true n 3 [c0] = some y0 := by
    have := hf 0 _ rfl
    rw [show Tryz.prog.cellsOf _ = 1 by kernel_rfl] at this
    exact this
   have h1 : DataW.trod enc Tryz.prog w 0 (fun _ => true) true n 9 [c1] = some y1 := by
    have := hf 1 _ rfl
    rw [show Tryz.prog.cellsOf _ = 1 by kernel_rfl] at this
    exact this
   have h2 : DataW.trod enc Tryz.prog w 0 (fun _ => true) true n 9 [c2] = some y2 := by
    have := hf 2 _ rfl
    rw [show Tryz.prog.cellsOf _ = 1 by kernel_rfl] at this
    exact this
   have h3 : DataW.trod enc Tryz.prog w 0 (fun _ => true) true n 3 [c3] = some y3 := by
    have := hf 3 _ rfl
    rw [show Tryz.prog.cellsOf _ = 1 by kernel_rfl] at this
    exact this
   have h4 : DataW.trod enc Tryz.prog w 0 (fun _ => true) true n 3 [c4] = some y4 := by
    have := hf 4 _ rfl
    rw [show Tryz.prog.cellsOf _ = 1 by kernel_rfl] at this
    exact this
   have h5 : DataW.trod enc Tryz.prog w 0 (fun _ => true) true n 9 [c5] = some y5 := by
    have := hf 5 _ rfl
    rw [show Tryz.prog.cellsOf _ = 1 by kernel_rfl] at this
    exact this
   obtain ⟨d0, e0, _⟩ := opens_int _ _ _ _ h0
   obtain ⟨d1, e1, z1⟩ := opens_str _ _ _ _ h1
   obtain ⟨d2, e2, z2⟩ := opens_str _ _ _ _ h2
   obtain ⟨d3, e3, z3⟩ := opens_intR _ _ _ _ h3
   obtain ⟨d4, e4, z4⟩ := opens_intR _ _ _ _ h4
   obtain ⟨d5, e5, z5⟩ := opens_str _ _ _ _ h5
   simp only [List.cons.injEq, and_true] at e0
   subst e0
   simp only [List.cons.injEq, and_true] at e1
   subst e1
   simp only [List.cons.injEq, and_true] at e2
   subst e2
   simp only [List.cons.injEq, and_true] at e3
   subst e3
   simp only [List.cons.injEq, and_true] at e4
   subst e4
   simp only [List.cons.injEq, and_true] at e5
   subst e5
   exact ⟨⟨d0, d1, d2, d3, d4, d5⟩, rfl, ⟨⟨z1, z2, z5⟩, z3, z4⟩⟩
theorem Tryz.cellsLStep : Tryz.prog.cellsOf 47 = 7 := by kernel_rfl
theorem opens_StepR : Opens Tryz.prog 47 vStepR := by
 intro H enc w fuel cs x h
 obtain ⟨xs, n, _, _, hl, hxl, hf⟩ := DataW.trod_struct Tryz.underlying47 h
 rw [Tryz.cellsLStep] at hl
 match cs, hl with
 | [c0, c1, c2, c3, c4, c5, c6], _ =>
  match xs, hxl with
  | [y0, y1], _ =>
   have h0 : DataW.trod enc Tryz.prog w 0 (fun _ => true) true n 3 [c0] = some y0 := by
    have := hf 0 _ rfl
    rw [show Tryz.prog.cellsOf _ = 1 by kernel_rfl] at this
    exact this
   have h1 : DataW.trod enc Tryz.prog w 0 (fun _ => true) true n 45 [c1, c2, c3, c4, c5, c6] = some y1 := by
    have := hf 1 _ rfl
    rw [show Tryz.prog.cellsOf _ = 6 by kernel_rfl] at this
    exact this
   obtain ⟨d0, e0, z0⟩ := opens_intR _ _ _ _ h0
   obtain ⟨d1, e1⟩ := opens_CallR _ _ _ _ h1
   simp only [List.cons.injEq, and_true] at e0
   subst e0
   obtain ⟨r1, z1⟩ := e1
   simp only [CallD.row, List.cons.injEq, and_true] at r1
   obtain ⟨rfl, rfl, rfl, rfl, rfl, rfl⟩ := r1
   exact ⟨⟨d0, d1⟩, rfl, z1.1, z0, z1.2⟩
theorem opens_StepRS {x : TypeId} : Opens Tryz.prog 23 (vSlice vStepR x) := opens_slice Tryz.underlying23 (by kernel_rfl) (by decide) opens_StepR
theorem Tryz.cellsLCell : Tryz.prog.cellsOf 42 = 2 := by kernel_rfl
theorem opens_Cell : Opens Tryz.prog 42 vCell := by
 intro H enc w fuel cs x h
 obtain ⟨xs, n, _, _, hl, hxl, hf⟩ := DataW.trod_struct Tryz.underlying42 h
 rw [Tryz.cellsLCell] at hl
 match cs, hl with
 | [c0, c1], _ =>
  match xs, hxl with
  | [y0, y1], _ =>
   have h0 : DataW.trod enc Tryz.prog w 0 (fun _ => true) true n 9 [c0] = some y0 := by
    have := hf 0 _ rfl
    rw [show Tryz.prog.cellsOf _ = 1 by kernel_rfl] at this
    exact this
   have h1 : DataW.trod enc Tryz.prog w 0 (fun _ => true) true n 9 [c1] = some y1 := by
    have := hf 1 _ rfl
    rw [show Tryz.prog.cellsOf _ = 1 by kernel_rfl] at this
    exact this
   obtain ⟨d0, e0, z0⟩ := opens_str _ _ _ _ h0
   obtain ⟨d1, e1, z1⟩ := opens_str _ _ _ _ h1
   simp only [List.cons.injEq, and_true] at e0
   subst e0
   simp only [List.cons.injEq, and_true] at e1
   subst e1
   exact ⟨⟨d0, d1⟩, rfl, ⟨z0, z1⟩⟩
theorem opens_CellS {x : TypeId} : Opens Tryz.prog 22 (vSlice vCell x) := opens_slice Tryz.underlying22 (by kernel_rfl) (by decide) opens_Cell
end Go.Proofs.YtieenbnmfaekiaaGreatDoor
namespace Go
open Go.RowKit
theorem View.own_below {α : Type} {V : View α} {w w' : World} {fp : List Nat} {cs : List Value} {d : α} (h : V.own w fp cs d) (hb : Below w.heap.size w w') : V.own w' fp cs d := V.frame h fun b hx => hb.block b (V.lt h b hx)
theorem wt_mem {α : Type} (wt : α → Nat) : ∀ (ds : List α), ∀ d ∈ ds, wt d ≤ (ds.map wt).sum
 | [], d, h => by cases h
 | x :: ds, d, h => by
  rw [List.map_cons, List.sum_cons]
  rcases List.mem_cons.1 h with rfl | h
  ·omega
  ·have := wt_mem wt ds d h; omega
end Go
namespace Go.Proofs.YtieenbnmfaekiaaGreatDoor
open Go.ChangeShapes Go.WideShapes Go.ChangeAt Go.RowKit
theorem rd_of_RdL {α : Type} {row : α → List Value} {k : Nat} {ok : α → Prop} {hk : ∀ d, (row d).length = k} {h1 : ∀ d, ∀ u ∈ row d, u.oneCell' = true} {R : RowOf α} (hr : R.row = row) (hkk : R.k = k) (h0 : 0 < k) {e : TypeId} {w : World} {v : Value} {xs : List α} (h : RdL R w v xs) (hok : ∀ d ∈ xs, ok d) :
  (vSlice (vRow row k ok hk h1) e).rd w [v] xs := by
 subst hr hkk
 rcases h with ⟨rfl, hz, _⟩ | ⟨b, off, cap, rfl, h2, h3, h4⟩
 ·have : xs = [] := List.eq_nil_of_length_eq_zero hz
  subst this
  exact ⟨none, 0, [], rfl, Nat.le_refl _, Nat.zero_le _, fun _ => rfl, rfl, fun i hi => absurd hi (by simp), fun h => absurd rfl h⟩
 ·refine ⟨_, cap, xs.map R.row, rfl, h2, h3, (fun h => by cases h), by simp, fun i hi hc => ⟨by simp, hok _ (List.getElem_mem hi)⟩, fun hne => ⟨b, off, rfl, ?_, fun j u hj => h4 j u (by rw [List.flatMap_def]; exact hj)⟩⟩
  cases xs with
  | nil => exact absurd rfl hne
  | cons x xs =>
   have hl := R.len x
   cases hx : R.row x with
   | nil => rw [hx, List.length_nil] at hl; omega
   | cons u us => exact World.block_lt_of_cell? w _ (h4 0 u (by rw [List.flatMap_cons, hx]; rfl))
theorem own_parted {α β : Type} {row : α → List Value} {k : Nat} {ok : α → Prop} {hk : ∀ d, (row d).length = k} {h1 : ∀ d, ∀ u ∈ row d, u.oneCell' = true} {row' : β → List Value} {k' : Nat} {ok' : β → Prop} {hk' : ∀ d, (row' d).length = k'} {h1' : ∀ d, ∀ u ∈ row' d, u.oneCell' = true}
  {e e' : TypeId} {w : World} {fp fp' : List Nat} {v v' : Value} {ds : List α} {ds' : List β} (h : (vSlice (vRow row k ok hk h1) e).own w fp [v] ds) (h' : (vSlice (vRow row' k' ok' hk' h1') e').own w fp' [v'] ds') (hne : e ≠ e') : ∀ x ∈ fp, x ∉ fp' := by
 have key : ∀ {γ : Type} {row : γ → List Value} {k : Nat} {ok : γ → Prop} {hk : ∀ d, (row d).length = k} {h1 : ∀ d, ∀ u ∈ row d, u.oneCell' = true} {e : TypeId} {fp : List Nat} {v : Value} {ds : List γ}, (vSlice (vRow row k ok hk h1) e).own w fp [v] ds → ∀ x ∈ fp, ∃ blk, w.heap[x]? = some (.cells blk e (0, 0)) := by
  intro γ row k ok hk h1 e fp v ds h x hx
  rcases h with ⟨_, _, rfl⟩ | ⟨b, cap, blk, css, fps, hv, hb, hn, hm, hsz, ht, rfl, hcl, hfl, hel⟩
  ·cases hx
  ·have hfe : fps.flatten = [] := by
    rw [List.flatten_eq_nil_iff]
    intro l hl
    obtain ⟨i, hi, rfl⟩ := List.getElem_of_mem hl
    exact (hel i (by omega) (by omega) hi).1
   rw [hfe] at hx
   rw [List.mem_singleton.1 hx]
   exact ⟨blk, hb⟩
 intro x hx hx'
 obtain ⟨b1, g1⟩ := key h x hx
 obtain ⟨b2, g2⟩ := key h' x hx'
 rw [g1] at g2
 injection g2 with g2
 injection g2 with _ g3
 exact hne g3
theorem law_SerialRun (v0 : Value) (d0 : List CellD) (v1 : Value) (d1 : List StepD) (w : World) (hg : Glob w) (hs0 : (vSlice vCell 42).rd w [v0] d0) (hs1 : (vSlice vStepR 47).rd w [v1] d1) : Calls Tryz.prog 3 #[v0, v1] w (Yes w) := by
 unfold Yes
 have HF : Hid (∀ s ∈ d1, s.fine) := slice_ok hs1
 have hs2 : (vSlice vStep 47).rd w [v1] d1 := slice_row hs1 (fun d h => h.1)
 obtain ⟨a0, c0, rfl⟩ := vSlice.form hs0
 obtain ⟨a1, c1, rfl⟩ := vSlice.form hs2
 have H0 := Lib.hid hs0
 have H1 := Lib.hid hs2
 have HG := Lib.hid hg
 clear hs0 hs1 hs2 hg
 have BW := Lib.hid (Below.refl w.heap.size w)
 go_enter Tryz.func3, Tryz.ntmps3
 go_wp2_with fail
 (go_at_call 4; refine (laws_szCellS _ d0 _ _ (View.grow _ H0.out (Grew.below BW.out)) (by omega) (by omega)).mono ?_; rintro e w1 ⟨rfl, hb⟩)
 replace BW := Lib.hid (Below.then BW.out hb)
 clear hb
 obtain ⟨q0, q0e⟩ : ∃ q : Nat, q = wtS CellD.wt d0 := ⟨_, rfl⟩
 rw [← q0e]
 have Q0 := Lib.hid q0e
 clear q0e
 by_cases g0 : (q0 : Int) ≤ 1048576
 case neg =>
  rw [leftOf_none g0]
  go_wp2
  go_ret
  exact ⟨rfl, BW.out⟩
 rw [leftOf_pos g0]
 have n0 : ¬ (1048576 - (q0 : Int) : Int) < 0 := by omega
 go_wp2_with fail
 (go_at_call 5; refine (laws_szStepS _ d1 _ _ (View.grow _ H1.out (Grew.below BW.out)) (by omega) (by omega)).mono ?_; rintro e w2 ⟨rfl, hb⟩)
 replace BW := Lib.hid (Below.then BW.out hb)
 clear hb
 obtain ⟨q1, q1e⟩ : ∃ q : Nat, q = wtS StepD.wt d1 := ⟨_, rfl⟩
 rw [← q1e]
 have Q1 := Lib.hid q1e
 clear q1e
 by_cases g1 : (q1 : Int) ≤ 1048576 - (q0 : Int)
 case neg =>
  rw [leftOf_none g1]
  go_wp2
  go_ret
  exact ⟨rfl, BW.out⟩
 rw [leftOf_pos g1]
 have n1 : ¬ (1048576 - (q0 : Int) - (q1 : Int) : Int) < 0 := by omega
 have HSUM : Hid (d0.length + d1.length ≤ 1048576) := by
  have t0 := Q0.out
  have t1 := Q1.out
  unfold wtS at t0 t1
  show _ ≤ _
  omega
 have HL0 : Hid (d0.length ≤ 1048576) := by have := HSUM.out; show _ ≤ _; omega
 have HL1 : Hid (d1.length ≤ 1048576) := by have := HSUM.out; show _ ≤ _; omega
 have HW := Lib.hid (run_whole (cs := d0) (l := d1) HSUM.out (fun c hc => by
  have t0 := Q0.out
  have t1 := wt_mem CellD.wt d0 c hc
  have t2 : CellD.wt c = c.key.size + c.val.size := rfl
  unfold wtS at t0
  omega) (fun s hs => ⟨(HF.out s hs).2.1, (HF.out s hs).2.2.1⟩))
 obtain ⟨ans, m, hr⟩ : ∃ ans m, (K.runAll d1).run ⟨d0, [], []⟩ = (ans, m) := ⟨_, _, rfl⟩
 have HR := Lib.hid hr
 clear hr
 go_wp2_with fail
 (go_at_call 7; refine (laws_toCellS _ d0 _ (View.grow _ H0.out (Grew.below BW.out)) HL0.out).mono ?_; rintro e w3 ⟨u, fpA, rfl, hf, hb⟩)
 obtain ⟨xA, yA, rfl⟩ := vSlice.form (View.toRd _ hf.own)
 have OA := Lib.hid hf.own
 clear hf
 replace BW := Lib.hid (Below.then BW.out hb)
 clear hb
 go_wp2_with fail
 (go_at_call 8; refine (laws_toStepS _ d1 _ (View.grow _ H1.out (Grew.below BW.out)) HL1.out).mono ?_; rintro e w4 ⟨u, fpB, rfl, hf, hb⟩)
 obtain ⟨xB, yB, rfl⟩ := vSlice.form (View.toRd _ hf.own)
 have OB := Lib.hid hf.own
 clear hf
 replace OA := Lib.hid (View.own_below OA.out hb)
 replace BW := Lib.hid (Below.then BW.out hb)
 clear hb
 go_wp2_with fail
 have DS := Lib.hid (spec_SerialRun _ _ d0 d1 _ (rdl_of_own (R := rCell) rfl OA.out) (rdl_of_own (R := rStepM) rfl OB.out) HF.out HL0.out HL1.out HW.out.1)
 rw [HR.out] at DS
 (go_at_call 6; refine DS.out.mono ?_; rintro e W ⟨u0, u1, rfl, h0, h1, hb⟩)
 have hok := HW.out.2.2
 rw [HR.out] at hok
 dsimp only at h0 h1 hok
 have CK := Lib.hid hok
 obtain ⟨xW0, yW0, rfl⟩ := h0.form
 obtain ⟨xW1, yW1, rfl⟩ := h1.form
 have R0 : Hid ((vSlice vCell 53).rd W _ m.cells) := rd_of_RdL rfl rfl (by decide) h0 hok.2.2.1
 have R1 : Hid ((vSlice vAnswer 66).rd W _ ans) := rd_of_RdL rfl rfl (by decide) h1 hok.1
 replace BW := Lib.hid (Below.then BW.out hb)
 have BS : Hid (w.heap.size ≤ W.heap.size) := BW.out.size
 have BC := Lib.hid (Below.refl W.heap.size W)
 have HIL : Hid (m.cells.length ≤ 549755813888 ∧ ans.length ≤ 1048576) := ⟨hok.2.2.2, by rw [hok.2.1]; exact HL1.out⟩
 clear h0 h1 hok hb DS OA OB
 go_wp2_with fail
 (go_at_call 7; refine (laws_toCellS _ d0 _ (View.grow _ H0.out (Grew.below BW.out)) HL0.out).mono ?_; rintro e w5 ⟨u, fpK0, rfl, hf, hb⟩)
 obtain ⟨xK0, yK0, rfl⟩ := vSlice.form (View.toRd _ hf.own)
 have OO := Lib.hid hf.own
 have NK0 : Hid fpK0.Nodup := hf.nodup
 have LK0 : Hid (∀ x ∈ fpK0, W.heap.size ≤ x) := fun x hx => Nat.le_trans BC.out.size (hf.lo x hx)
 clear hf
 replace BW := Lib.hid (Below.then BW.out hb)
 replace BC := Lib.hid (Below.then BC.out hb)
 clear hb
 have OK0 := Lib.hid OO.out
 clear OO
 go_wp2_with fail
 (go_at_call 8; refine (laws_toStepS _ d1 _ (View.grow _ H1.out (Grew.below BW.out)) HL1.out).mono ?_; rintro e w6 ⟨u, fpK1, rfl, hf, hb⟩)
 obtain ⟨xK1, yK1, rfl⟩ := vSlice.form (View.toRd _ hf.own)
 have OO := Lib.hid hf.own
 have NK1 : Hid fpK1.Nodup := hf.nodup
 have LK1 : Hid (∀ x ∈ fpK1, W.heap.size ≤ x) := fun x hx => Nat.le_trans BC.out.size (hf.lo x hx)
 have DK1K0 : Hid (∀ x ∈ fpK1, x ∉ fpK0) := fun x hx h => by have h1 := hf.lo x hx; have h2 := View.lt _ OK0.out x h; omega
 have DK0K1 : Hid (∀ x ∈ fpK0, x ∉ fpK1) := fun x h hx => DK1K0.out x hx h
 clear hf
 replace BW := Lib.hid (Below.then BW.out hb)
 replace BC := Lib.hid (Below.then BC.out hb)
 replace OK0 := Lib.hid (View.own_below OK0.out hb)
 clear hb
 have OK1 := Lib.hid OO.out
 clear OO
 go_wp2_with fail
 have DI := Lib.hid (impl_SerialRun _ _ d0 d1 _ (HG.out.below BW.out) (rdl_of_own (R := rCell) rfl OK0.out) (rdl_of_own (R := rStepM) rfl OK1.out) HF.out HL0.out HL1.out HW.out.2.1)
 rw [HR.out] at DI
 (go_at_call 9; refine DI.out.mono ?_; rintro e w7 ⟨u0, u1, rfl, h0, h1, hb⟩)
 clear DI
 dsimp only at h0 h1
 obtain ⟨fpG0, P0, NG0, lo0⟩ := own_of_cells h0 CK.out.2.2.1
 obtain ⟨fpG1, P1, NG1, lo1⟩ := own_of_OwnR (R := rAns) (row := AnswerD.row) (k := 3) (ok := AnswerD.ok) (hk := fun _ => rfl) (h1 := rAns.one) rfl rfl h1 CK.out.1
 replace P1 : (vSlice vAnswer 66).own w7 fpG1 [_] ans := P1
 obtain ⟨xG0, yG0, rfl⟩ := vSlice.form (View.toRd _ P0)
 obtain ⟨xG1, yG1, rfl⟩ := vSlice.form (View.toRd _ P1)
 have PP0 := Lib.hid P0
 have PP1 := Lib.hid P1
 have LG0 : Hid (∀ x ∈ fpG0, W.heap.size ≤ x) := fun x hx => Nat.le_trans BC.out.size (lo0 x hx)
 have LG1 : Hid (∀ x ∈ fpG1, W.heap.size ≤ x) := fun x hx => Nat.le_trans BC.out.size (lo1 x hx)
 have DG0G1 : Hid (∀ x ∈ fpG0, x ∉ fpG1) := own_parted P0 P1 (by decide)
 have DG1G0 : Hid (∀ x ∈ fpG1, x ∉ fpG0) := fun x h hx => DG0G1.out x hx h
 have DG0K0 : Hid (∀ x ∈ fpG0, x ∉ fpK0) := fun x hx h => by have h1 := lo0 x hx; have h2 := View.lt _ OK0.out x h; omega
 have DK0G0 : Hid (∀ x ∈ fpK0, x ∉ fpG0) := fun x h hx => DG0K0.out x hx h
 have DG0K1 : Hid (∀ x ∈ fpG0, x ∉ fpK1) := fun x hx h => by have h1 := lo0 x hx; have h2 := View.lt _ OK1.out x h; omega
 have DK1G0 : Hid (∀ x ∈ fpK1, x ∉ fpG0) := fun x h hx => DG0K1.out x hx h
 have DG1K0 : Hid (∀ x ∈ fpG1, x ∉ fpK0) := fun x hx h => by have h1 := lo1 x hx; have h2 := View.lt _ OK0.out x h; omega
 have DK0G1 : Hid (∀ x ∈ fpK0, x ∉ fpG1) := fun x h hx => DG1K0.out x hx h
 have DG1K1 : Hid (∀ x ∈ fpG1, x ∉ fpK1) := fun x hx h => by have h1 := lo1 x hx; have h2 := View.lt _ OK1.out x h; omega
 have DK1G1 : Hid (∀ x ∈ fpK1, x ∉ fpG1) := fun x h hx => DG1K1.out x hx h
 clear h0 h1 P0 P1 lo0 lo1
 replace BW := Lib.hid (Below.then BW.out hb)
 replace BC := Lib.hid (Below.then BC.out hb)
 replace OK0 := Lib.hid (View.own_below OK0.out hb)
 replace OK1 := Lib.hid (View.own_below OK1.out hb)
 clear hb
 have OG0 := Lib.hid PP0.out
 have OG1 := Lib.hid PP1.out
 clear PP0 PP1
 go_wp2_with fail
 (go_at_call 10; refine (laws_eqCellS _ _ m.cells _ (View.toRd _ OG0.out) (View.grow _ R0.out (Grew.below BC.out))).mono ?_; rintro e w8 ⟨rfl, hb⟩)
 replace BW := Lib.hid (Below.then BW.out hb)
 replace BC := Lib.hid (Below.then BC.out hb)
 replace OK0 := Lib.hid (View.own_below OK0.out hb)
 replace OK1 := Lib.hid (View.own_below OK1.out hb)
 replace OG0 := Lib.hid (View.own_below OG0.out hb)
 replace OG1 := Lib.hid (View.own_below OG1.out hb)
 clear hb
 go_wp2_with fail
 (go_at_call 11; refine (laws_eqAnswerS _ _ ans _ (View.toRd _ OG1.out) (View.grow _ R1.out (Grew.below BC.out))).mono ?_; rintro e w9 ⟨rfl, hb⟩)
 replace BW := Lib.hid (Below.then BW.out hb)
 replace BC := Lib.hid (Below.then BC.out hb)
 replace OK0 := Lib.hid (View.own_below OK0.out hb)
 replace OK1 := Lib.hid (View.own_below OK1.out hb)
 replace OG0 := Lib.hid (View.own_below OG0.out hb)
 replace OG1 := Lib.hid (View.own_below OG1.out hb)
 clear hb
 go_wp2_with fail
 (go_at_call 7; refine (laws_toCellS _ d0 _ (View.grow _ H0.out (Grew.below BW.out)) HL0.out).mono ?_; rintro e w10 ⟨u, fpE0, rfl, hf, hb⟩)
 obtain ⟨xE0, yE0, rfl⟩ := vSlice.form (View.toRd _ hf.own)
 have OO := Lib.hid hf.own
 have NE0 : Hid fpE0.Nodup := hf.nodup
 have LE0 : Hid (∀ x ∈ fpE0, W.heap.size ≤ x) := fun x hx => Nat.le_trans BC.out.size (hf.lo x hx)
 have DE0K0 : Hid (∀ x ∈ fpE0, x ∉ fpK0) := fun x hx h => by have h1 := hf.lo x hx; have h2 := View.lt _ OK0.out x h; omega
 have DK0E0 : Hid (∀ x ∈ fpK0, x ∉ fpE0) := fun x h hx => DE0K0.out x hx h
 have DE0K1 : Hid (∀ x ∈ fpE0, x ∉ fpK1) := fun x hx h => by have h1 := hf.lo x hx; have h2 := View.lt _ OK1.out x h; omega
 have DK1E0 : Hid (∀ x ∈ fpK1, x ∉ fpE0) := fun x h hx => DE0K1.out x hx h
 have DE0G0 : Hid (∀ x ∈ fpE0, x ∉ fpG0) := fun x hx h => by have h1 := hf.lo x hx; have h2 := View.lt _ OG0.out x h; omega
 have DG0E0 : Hid (∀ x ∈ fpG0, x ∉ fpE0) := fun x h hx => DE0G0.out x hx h
 have DE0G1 : Hid (∀ x ∈ fpE0, x ∉ fpG1) := fun x hx h => by have h1 := hf.lo x hx; have h2 := View.lt _ OG1.out x h; omega
 have DG1E0 : Hid (∀ x ∈ fpG1, x ∉ fpE0) := fun x h hx => DE0G1.out x hx h
 clear hf
 replace BW := Lib.hid (Below.then BW.out hb)
 replace BC := Lib.hid (Below.then BC.out hb)
 replace OK0 := Lib.hid (View.own_below OK0.out hb)
 replace OK1 := Lib.hid (View.own_below OK1.out hb)
 replace OG0 := Lib.hid (View.own_below OG0.out hb)
 replace OG1 := Lib.hid (View.own_below OG1.out hb)
 clear hb
 have OE0 := Lib.hid OO.out
 clear OO
 go_wp2_with fail
 (go_at_call 10; refine (laws_eqCellS _ _ d0 _ (View.toRd _ OK0.out) (View.toRd _ OE0.out)).mono ?_; rintro e w11 ⟨rfl, hb⟩)
 replace BW := Lib.hid (Below.then BW.out hb)
 replace BC := Lib.hid (Below.then BC.out hb)
 replace OK0 := Lib.hid (View.own_below OK0.out hb)
 replace OK1 := Lib.hid (View.own_below OK1.out hb)
 replace OG0 := Lib.hid (View.own_below OG0.out hb)
 replace OG1 := Lib.hid (View.own_below OG1.out hb)
 replace OE0 := Lib.hid (View.own_below OE0.out hb)
 clear hb
 clear OE0 DE0K0 DE0K1 DE0G0 DE0G1 DK0E0 DK1E0 DG0E0 DG1E0 LE0 NE0
 go_wp2_with fail
 (go_at_call 8; refine (laws_toStepS _ d1 _ (View.grow _ H1.out (Grew.below BW.out)) HL1.out).mono ?_; rintro e w12 ⟨u, fpE1, rfl, hf, hb⟩)
 obtain ⟨xE1, yE1, rfl⟩ := vSlice.form (View.toRd _ hf.own)
 have OO := Lib.hid hf.own
 have NE1 : Hid fpE1.Nodup := hf.nodup
 have LE1 : Hid (∀ x ∈ fpE1, W.heap.size ≤ x) := fun x hx => Nat.le_trans BC.out.size (hf.lo x hx)
 have DE1K0 : Hid (∀ x ∈ fpE1, x ∉ fpK0) := fun x hx h => by have h1 := hf.lo x hx; have h2 := View.lt _ OK0.out x h; omega
 have DK0E1 : Hid (∀ x ∈ fpK0, x ∉ fpE1) := fun x h hx => DE1K0.out x hx h
 have DE1K1 : Hid (∀ x ∈ fpE1, x ∉ fpK1) := fun x hx h => by have h1 := hf.lo x hx; have h2 := View.lt _ OK1.out x h; omega
 have DK1E1 : Hid (∀ x ∈ fpK1, x ∉ fpE1) := fun x h hx => DE1K1.out x hx h
 have DE1G0 : Hid (∀ x ∈ fpE1, x ∉ fpG0) := fun x hx h => by have h1 := hf.lo x hx; have h2 := View.lt _ OG0.out x h; omega
 have DG0E1 : Hid (∀ x ∈ fpG0, x ∉ fpE1) := fun x h hx => DE1G0.out x hx h
 have DE1G1 : Hid (∀ x ∈ fpE1, x ∉ fpG1) := fun x hx h => by have h1 := hf.lo x hx; have h2 := View.lt _ OG1.out x h; omega
 have DG1E1 : Hid (∀ x ∈ fpG1, x ∉ fpE1) := fun x h hx => DE1G1.out x hx h
 clear hf
 replace BW := Lib.hid (Below.then BW.out hb)
 replace BC := Lib.hid (Below.then BC.out hb)
 replace OK0 := Lib.hid (View.own_below OK0.out hb)
 replace OK1 := Lib.hid (View.own_below OK1.out hb)
 replace OG0 := Lib.hid (View.own_below OG0.out hb)
 replace OG1 := Lib.hid (View.own_below OG1.out hb)
 clear hb
 have OE1 := Lib.hid OO.out
 clear OO
 go_wp2_with fail
 (go_at_call 12; refine (laws_eqStepS _ _ d1 _ (View.toRd _ OK1.out) (View.toRd _ OE1.out)).mono ?_; rintro e w13 ⟨rfl, hb⟩)
 replace BW := Lib.hid (Below.then BW.out hb)
 replace BC := Lib.hid (Below.then BC.out hb)
 replace OK0 := Lib.hid (View.own_below OK0.out hb)
 replace OK1 := Lib.hid (View.own_below OK1.out hb)
 replace OG0 := Lib.hid (View.own_below OG0.out hb)
 replace OG1 := Lib.hid (View.own_below OG1.out hb)
 replace OE1 := Lib.hid (View.own_below OE1.out hb)
 clear hb
 clear OE1 DE1K0 DE1K1 DE1G0 DE1G1 DK0E1 DK1E1 DG0E1 DG1E1 LE1 NE1
 go_wp2_with fail
 (go_at_call 13; refine (laws_markCellS _ fpK0 d0 _ _ OK0.out (by omega) (by have := HL0.out; omega)).mono ?_; rintro e w14 ⟨rfl, hm, hu⟩)
 have hbc := hu.toBelow BC.out.size LK0.out
 replace BW := Lib.hid (Below.trans BW.out (hu.toBelow BW.out.size (fun x hx => Nat.le_trans BS.out (LK0.out x hx))))
 replace BC := Lib.hid (Below.trans BC.out hbc)
 clear hbc
 replace OK1 := Lib.hid (View.ownUpon OK1.out hu DK1K0.out)
 replace OG0 := Lib.hid (View.ownUpon OG0.out hu DG0K0.out)
 replace OG1 := Lib.hid (View.ownUpon OG1.out hu DG1K0.out)
 clear hu hm
 clear OK0
 go_wp2_with fail
 (go_at_call 14; refine (laws_markStepS _ fpK1 d1 _ _ OK1.out (by omega) (by have := HL0.out; have := HL1.out; omega)).mono ?_; rintro e w15 ⟨rfl, hm, hu⟩)
 have hbc := hu.toBelow BC.out.size LK1.out
 replace BW := Lib.hid (Below.trans BW.out (hu.toBelow BW.out.size (fun x hx => Nat.le_trans BS.out (LK1.out x hx))))
 replace BC := Lib.hid (Below.trans BC.out hbc)
 clear hbc
 replace OG0 := Lib.hid (View.ownUpon OG0.out hu DG0K1.out)
 replace OG1 := Lib.hid (View.ownUpon OG1.out hu DG1K1.out)
 clear hu hm
 clear OK1
 have hk1 : ¬ ((1 : Int) + ((2 * d0.length : Nat) : Int) + ((7 * d1.length : Nat) : Int)) < 0 := by omega
 go_wp2_with fail
 (go_at_call 10; refine (laws_eqCellS _ _ m.cells _ (View.toRd _ OG0.out) (View.grow _ R0.out (Grew.below BC.out))).mono ?_; rintro e w16 ⟨rfl, hb⟩)
 replace BW := Lib.hid (Below.then BW.out hb)
 replace BC := Lib.hid (Below.then BC.out hb)
 replace OG0 := Lib.hid (View.own_below OG0.out hb)
 replace OG1 := Lib.hid (View.own_below OG1.out hb)
 clear hb
 go_wp2_with fail
 (go_at_call 11; refine (laws_eqAnswerS _ _ ans _ (View.toRd _ OG1.out) (View.grow _ R1.out (Grew.below BC.out))).mono ?_; rintro e w17 ⟨rfl, hb⟩)
 replace BW := Lib.hid (Below.then BW.out hb)
 replace BC := Lib.hid (Below.then BC.out hb)
 replace OG0 := Lib.hid (View.own_below OG0.out hb)
 replace OG1 := Lib.hid (View.own_below OG1.out hb)
 clear hb
 go_wp2_with fail
 (go_at_call 13; refine (laws_markCellSB _ fpG0 m.cells 1 _ OG0.out (by omega) (by have := HIL.out.1; omega)).mono ?_; rintro e w18 ⟨rfl, hm, hu⟩)
 have hbc := hu.toBelow BC.out.size LG0.out
 replace BW := Lib.hid (Below.trans BW.out (hu.toBelow BW.out.size (fun x hx => Nat.le_trans BS.out (LG0.out x hx))))
 replace BC := Lib.hid (Below.trans BC.out hbc)
 clear hbc
 replace OG1 := Lib.hid (View.ownUpon OG1.out hu DG1G0.out)
 clear OG0
 have OG0 := Lib.hid hm
 clear hu hm
 go_wp2_with fail
 (go_at_call 15; refine (laws_markAnswerSB _ fpG1 ans _ _ OG1.out (by omega) (by have := HIL.out.1; have := HIL.out.2; omega)).mono ?_; rintro e w19 ⟨rfl, hm, hu⟩)
 have hbc := hu.toBelow BC.out.size LG1.out
 replace BW := Lib.hid (Below.trans BW.out (hu.toBelow BW.out.size (fun x hx => Nat.le_trans BS.out (LG1.out x hx))))
 replace BC := Lib.hid (Below.trans BC.out hbc)
 clear hbc
 replace OG0 := Lib.hid (View.ownUpon OG0.out hu DG0G1.out)
 clear OG1
 have OG1 := Lib.hid hm
 clear hu hm
 have hq0 : ¬ (1 : Int) + (2 * m.cells.length : Nat) < 0 := by omega
 have hq1 : ¬ (1 : Int) + (2 * m.cells.length : Nat) + (3 * ans.length : Nat) < 0 := by omega
 go_wp2_with fail
 (go_at_call 16; refine (laws_heldCellSB _ 1 m.cells.length _ (View.toRd _ OG0.out) (by omega) (by have := HIL.out.1; omega)).mono ?_; rintro e w20 ⟨rfl, hb⟩)
 replace BW := Lib.hid (Below.then BW.out hb)
 replace BC := Lib.hid (Below.then BC.out hb)
 replace OG0 := Lib.hid (View.own_below OG0.out hb)
 replace OG1 := Lib.hid (View.own_below OG1.out hb)
 clear hb
 go_wp2_with fail
 (go_at_call 17; refine (laws_heldAnswerSB _ _ ans.length _ (View.toRd _ OG1.out) (by omega) (by have := HIL.out.1; have := HIL.out.2; omega)).mono ?_; rintro e w21 ⟨rfl, hb⟩)
 replace BW := Lib.hid (Below.then BW.out hb)
 replace BC := Lib.hid (Below.then BC.out hb)
 replace OG0 := Lib.hid (View.own_below OG0.out hb)
 replace OG1 := Lib.hid (View.own_below OG1.out hb)
 clear hb
 go_wp2_with fail
 (go_at_call 7; refine (laws_toCellS _ d0 _ (View.grow _ H0.out (Grew.below BW.out)) HL0.out).mono ?_; rintro e w22 ⟨u, fpB0, rfl, hf, hb⟩)
 obtain ⟨xB0, yB0, rfl⟩ := vSlice.form (View.toRd _ hf.own)
 have OO := Lib.hid hf.own
 have NB0 : Hid fpB0.Nodup := hf.nodup
 have LB0 : Hid (∀ x ∈ fpB0, W.heap.size ≤ x) := fun x hx => Nat.le_trans BC.out.size (hf.lo x hx)
 have DB0G0 : Hid (∀ x ∈ fpB0, x ∉ fpG0) := fun x hx h => by have h1 := hf.lo x hx; have h2 := View.lt _ OG0.out x h; omega
 have DG0B0 : Hid (∀ x ∈ fpG0, x ∉ fpB0) := fun x h hx => DB0G0.out x hx h
 have DB0G1 : Hid (∀ x ∈ fpB0, x ∉ fpG1) := fun x hx h => by have h1 := hf.lo x hx; have h2 := View.lt _ OG1.out x h; omega
 have DG1B0 : Hid (∀ x ∈ fpG1, x ∉ fpB0) := fun x h hx => DB0G1.out x hx h
 clear hf
 replace BW := Lib.hid (Below.then BW.out hb)
 replace BC := Lib.hid (Below.then BC.out hb)
 replace OG0 := Lib.hid (View.own_below OG0.out hb)
 replace OG1 := Lib.hid (View.own_below OG1.out hb)
 clear hb
 have OB0 := Lib.hid OO.out
 clear OO
 go_wp2_with fail
 (go_at_call 8; refine (laws_toStepS _ d1 _ (View.grow _ H1.out (Grew.below BW.out)) HL1.out).mono ?_; rintro e w23 ⟨u, fpB1, rfl, hf, hb⟩)
 obtain ⟨xB1, yB1, rfl⟩ := vSlice.form (View.toRd _ hf.own)
 have OO := Lib.hid hf.own
 have NB1 : Hid fpB1.Nodup := hf.nodup
 have LB1 : Hid (∀ x ∈ fpB1, W.heap.size ≤ x) := fun x hx => Nat.le_trans BC.out.size (hf.lo x hx)
 have DB1G0 : Hid (∀ x ∈ fpB1, x ∉ fpG0) := fun x hx h => by have h1 := hf.lo x hx; have h2 := View.lt _ OG0.out x h; omega
 have DG0B1 : Hid (∀ x ∈ fpG0, x ∉ fpB1) := fun x h hx => DB1G0.out x hx h
 have DB1G1 : Hid (∀ x ∈ fpB1, x ∉ fpG1) := fun x hx h => by have h1 := hf.lo x hx; have h2 := View.lt _ OG1.out x h; omega
 have DG1B1 : Hid (∀ x ∈ fpG1, x ∉ fpB1) := fun x h hx => DB1G1.out x hx h
 have DB1B0 : Hid (∀ x ∈ fpB1, x ∉ fpB0) := fun x hx h => by have h1 := hf.lo x hx; have h2 := View.lt _ OB0.out x h; omega
 have DB0B1 : Hid (∀ x ∈ fpB0, x ∉ fpB1) := fun x h hx => DB1B0.out x hx h
 clear hf
 replace BW := Lib.hid (Below.then BW.out hb)
 replace BC := Lib.hid (Below.then BC.out hb)
 replace OG0 := Lib.hid (View.own_below OG0.out hb)
 replace OG1 := Lib.hid (View.own_below OG1.out hb)
 replace OB0 := Lib.hid (View.own_below OB0.out hb)
 clear hb
 have OB1 := Lib.hid OO.out
 clear OO
 go_wp2_with fail
 have DI := Lib.hid (impl_SerialRun _ _ d0 d1 _ (HG.out.below BW.out) (rdl_of_own (R := rCell) rfl OB0.out) (rdl_of_own (R := rStepM) rfl OB1.out) HF.out HL0.out HL1.out HW.out.2.1)
 rw [HR.out] at DI
 (go_at_call 9; refine DI.out.mono ?_; rintro e w24 ⟨u0, u1, rfl, h0, h1, hb⟩)
 clear DI
 dsimp only at h0 h1
 obtain ⟨fpH0, P0, NH0, lo0⟩ := own_of_cells h0 CK.out.2.2.1
 obtain ⟨fpH1, P1, NH1, lo1⟩ := own_of_OwnR (R := rAns) (row := AnswerD.row) (k := 3) (ok := AnswerD.ok) (hk := fun _ => rfl) (h1 := rAns.one) rfl rfl h1 CK.out.1
 replace P1 : (vSlice vAnswer 66).own w24 fpH1 [_] ans := P1
 obtain ⟨xH0, yH0, rfl⟩ := vSlice.form (View.toRd _ P0)
 obtain ⟨xH1, yH1, rfl⟩ := vSlice.form (View.toRd _ P1)
 have PP0 := Lib.hid P0
 have PP1 := Lib.hid P1
 have LH0 : Hid (∀ x ∈ fpH0, W.heap.size ≤ x) := fun x hx => Nat.le_trans BC.out.size (lo0 x hx)
 have LH1 : Hid (∀ x ∈ fpH1, W.heap.size ≤ x) := fun x hx => Nat.le_trans BC.out.size (lo1 x hx)
 have DH0H1 : Hid (∀ x ∈ fpH0, x ∉ fpH1) := own_parted P0 P1 (by decide)
 have DH1H0 : Hid (∀ x ∈ fpH1, x ∉ fpH0) := fun x h hx => DH0H1.out x hx h
 have DH0G0 : Hid (∀ x ∈ fpH0, x ∉ fpG0) := fun x hx h => by have h1 := lo0 x hx; have h2 := View.lt _ OG0.out x h; omega
 have DG0H0 : Hid (∀ x ∈ fpG0, x ∉ fpH0) := fun x h hx => DH0G0.out x hx h
 have DH0G1 : Hid (∀ x ∈ fpH0, x ∉ fpG1) := fun x hx h => by have h1 := lo0 x hx; have h2 := View.lt _ OG1.out x h; omega
 have DG1H0 : Hid (∀ x ∈ fpG1, x ∉ fpH0) := fun x h hx => DH0G1.out x hx h
 have DH0B0 : Hid (∀ x ∈ fpH0, x ∉ fpB0) := fun x hx h => by have h1 := lo0 x hx; have h2 := View.lt _ OB0.out x h; omega
 have DB0H0 : Hid (∀ x ∈ fpB0, x ∉ fpH0) := fun x h hx => DH0B0.out x hx h
 have DH0B1 : Hid (∀ x ∈ fpH0, x ∉ fpB1) := fun x hx h => by have h1 := lo0 x hx; have h2 := View.lt _ OB1.out x h; omega
 have DB1H0 : Hid (∀ x ∈ fpB1, x ∉ fpH0) := fun x h hx => DH0B1.out x hx h
 have DH1G0 : Hid (∀ x ∈ fpH1, x ∉ fpG0) := fun x hx h => by have h1 := lo1 x hx; have h2 := View.lt _ OG0.out x h; omega
 have DG0H1 : Hid (∀ x ∈ fpG0, x ∉ fpH1) := fun x h hx => DH1G0.out x hx h
 have DH1G1 : Hid (∀ x ∈ fpH1, x ∉ fpG1) := fun x hx h => by have h1 := lo1 x hx; have h2 := View.lt _ OG1.out x h; omega
 have DG1H1 : Hid (∀ x ∈ fpG1, x ∉ fpH1) := fun x h hx => DH1G1.out x hx h
 have DH1B0 : Hid (∀ x ∈ fpH1, x ∉ fpB0) := fun x hx h => by have h1 := lo1 x hx; have h2 := View.lt _ OB0.out x h; omega
 have DB0H1 : Hid (∀ x ∈ fpB0, x ∉ fpH1) := fun x h hx => DH1B0.out x hx h
 have DH1B1 : Hid (∀ x ∈ fpH1, x ∉ fpB1) := fun x hx h => by have h1 := lo1 x hx; have h2 := View.lt _ OB1.out x h; omega
 have DB1H1 : Hid (∀ x ∈ fpB1, x ∉ fpH1) := fun x h hx => DH1B1.out x hx h
 clear h0 h1 P0 P1 lo0 lo1
 replace BW := Lib.hid (Below.then BW.out hb)
 replace BC := Lib.hid (Below.then BC.out hb)
 replace OG0 := Lib.hid (View.own_below OG0.out hb)
 replace OG1 := Lib.hid (View.own_below OG1.out hb)
 replace OB0 := Lib.hid (View.own_below OB0.out hb)
 replace OB1 := Lib.hid (View.own_below OB1.out hb)
 clear hb
 have OH0 := Lib.hid PP0.out
 have OH1 := Lib.hid PP1.out
 clear PP0 PP1
 go_wp2_with fail
 (go_at_call 10; refine (laws_eqCellS _ _ m.cells _ (View.toRd _ OH0.out) (View.grow _ R0.out (Grew.below BC.out))).mono ?_; rintro e w25 ⟨rfl, hb⟩)
 replace BW := Lib.hid (Below.then BW.out hb)
 replace BC := Lib.hid (Below.then BC.out hb)
 replace OG0 := Lib.hid (View.own_below OG0.out hb)
 replace OG1 := Lib.hid (View.own_below OG1.out hb)
 replace OB0 := Lib.hid (View.own_below OB0.out hb)
 replace OB1 := Lib.hid (View.own_below OB1.out hb)
 replace OH0 := Lib.hid (View.own_below OH0.out hb)
 replace OH1 := Lib.hid (View.own_below OH1.out hb)
 clear hb
 go_wp2_with fail
 (go_at_call 11; refine (laws_eqAnswerS _ _ ans _ (View.toRd _ OH1.out) (View.grow _ R1.out (Grew.below BC.out))).mono ?_; rintro e w26 ⟨rfl, hb⟩)
 replace BW := Lib.hid (Below.then BW.out hb)
 replace BC := Lib.hid (Below.then BC.out hb)
 replace OG0 := Lib.hid (View.own_below OG0.out hb)
 replace OG1 := Lib.hid (View.own_below OG1.out hb)
 replace OB0 := Lib.hid (View.own_below OB0.out hb)
 replace OB1 := Lib.hid (View.own_below OB1.out hb)
 replace OH0 := Lib.hid (View.own_below OH0.out hb)
 replace OH1 := Lib.hid (View.own_below OH1.out hb)
 clear hb
 go_wp2_with fail
 (go_at_call 16; refine (laws_heldCellSB _ 1 m.cells.length _ (View.toRd _ OG0.out) (by omega) (by have := HIL.out.1; omega)).mono ?_; rintro e w27 ⟨rfl, hb⟩)
 replace BW := Lib.hid (Below.then BW.out hb)
 replace BC := Lib.hid (Below.then BC.out hb)
 replace OG0 := Lib.hid (View.own_below OG0.out hb)
 replace OG1 := Lib.hid (View.own_below OG1.out hb)
 replace OB0 := Lib.hid (View.own_below OB0.out hb)
 replace OB1 := Lib.hid (View.own_below OB1.out hb)
 replace OH0 := Lib.hid (View.own_below OH0.out hb)
 replace OH1 := Lib.hid (View.own_below OH1.out hb)
 clear hb
 go_wp2_with fail
 (go_at_call 17; refine (laws_heldAnswerSB _ _ ans.length _ (View.toRd _ OG1.out) (by omega) (by have := HIL.out.1; have := HIL.out.2; omega)).mono ?_; rintro e w28 ⟨rfl, hb⟩)
 replace BW := Lib.hid (Below.then BW.out hb)
 replace BC := Lib.hid (Below.then BC.out hb)
 replace OG0 := Lib.hid (View.own_below OG0.out hb)
 replace OG1 := Lib.hid (View.own_below OG1.out hb)
 replace OB0 := Lib.hid (View.own_below OB0.out hb)
 replace OB1 := Lib.hid (View.own_below OB1.out hb)
 replace OH0 := Lib.hid (View.own_below OH0.out hb)
 replace OH1 := Lib.hid (View.own_below OH1.out hb)
 clear hb
 go_wp2
 go_ret
 exact ⟨rfl, BW.out⟩
end Go.Proofs.YtieenbnmfaekiaaGreatDoor
