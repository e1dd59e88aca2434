/- The laws' measure, copy, comparison, marks of Step and of its slices. Each condition stands in its theorem. -/
import Derived.Test.YtefenfglkfdoaaaTCall
set_option linter.unusedVariables false
set_option linter.unusedSimpArgs false
namespace Go.Proofs.Ytefenfglkfdoaaa
open Go.ChangeShapes Go.WideShapes Go.ChangeAt Go.RowKit

structure StepD where
  proc : Int
  call : CallD
def StepD.row (d : StepD) : List Value := [.int .i64 d.proc, .int .i64 d.call.kind, .string d.call.name, .string d.call.to, .int .i64 d.call.a, .int .i64 d.call.b, .string d.call.text]
def StepD.ok (d : StepD) : Prop := d.call.name.size ≤ 9223372036854775807 ∧ d.call.to.size ≤ 9223372036854775807 ∧ d.call.text.size ≤ 9223372036854775807
def StepD.wt (d : StepD) : Nat := d.call.wt
def vStep : View StepD := vRow StepD.row 7 StepD.ok (fun _ => rfl) (fun d u hu => by simp [StepD.row] at hu; rcases hu with rfl | rfl | rfl | rfl | rfl | rfl | rfl <;> rfl)
def mkStep (k : Int) : StepD := ⟨k, ⟨k + 1, mtext (k + 1 + 1), mtext (k + 1 + 1 + 1), k + 1 + 1 + 1 + 1, k + 1 + 1 + 1 + 1 + 1, mtext (k + 1 + 1 + 1 + 1 + 1 + 1)⟩⟩
theorem mkStep_ok (k : Int) (h : k ≤ 4294967280) : (mkStep k).ok := ⟨mtext_size _ (by omega), mtext_size _ (by omega), mtext_size _ (by omega)⟩
theorem marks_ok_Step {k : Int} {n : Nat} (h : k + (7 * n : Nat) ≤ 4294967280) : ∀ d ∈ marks mkStep 7 k n, d.ok := by
  intro d hd
  obtain ⟨i, hi, rfl⟩ := marks_mem hd
  exact mkStep_ok _ (by omega)
theorem laws_eqStep (x0 : Int) (x1 : Int) (x2 : ByteArray) (x3 : ByteArray) (x4 : Int) (x5 : Int) (x6 : ByteArray) (w : World) :
    Calls Try.prog 109 #[.agg #[.int .i64 x0, .int .i64 x1, .string x2, .string x3, .int .i64 x4, .int .i64 x5, .string x6], .agg #[.int .i64 x0, .int .i64 x1, .string x2, .string x3, .int .i64 x4, .int .i64 x5, .string x6]] w fun e w' => e = .returned (.bool true) ∧ Below w.heap.size w w' := by
  go_enter Try.func109, Try.ntmps109
  go_wp2_with fail
  (go_at_call 102; refine (laws_eqCall x1 x2 x3 x4 x5 x6 _).mono ?_; rintro e w' ⟨rfl, hb⟩; obtain ⟨X, rfl⟩ := hb.ext; clear hb)
  go_wp2
  go_ret
  exact ⟨rfl, (by repeat (first | with_reducible exact Below.refl _ _ | with_reducible apply Below.ofExt | with_reducible apply Below.ofAlloc | with_reducible apply Below.drew | with_reducible apply Below.ofDrewN | with_reducible assumption | (with_reducible refine Below.setCell ?_ (by first | exact Nat.le_refl _ | (simp [go_sem]; done) | (simp [go_sem]; omega)) _)))⟩
set_option maxRecDepth 100000 in
theorem laws_eqStepS (v v' : Value) (ds : List StepD) (w : World) {e e' : TypeId} (hs : (vSlice vStep e).rd w [v] ds) (hs' : (vSlice vStep e').rd w [v'] ds) :
    Calls Try.prog 60 #[v, v'] w fun e w' => e = .returned (.bool true) ∧ Below w.heap.size w w' := by
  obtain ⟨ao, cap, rfl, hc1, hc2, hnil, hcell⟩ := vSlice.shape hs
  obtain ⟨ao', cap', rfl, hc1', hc2', hnil', hcell'⟩ := vSlice.shape hs'
  have HX := Lib.hid hcell
  have HX' := Lib.hid hcell'
  clear hcell hs hnil hcell' hs' hnil'
  unfold maxLen at hc2 hc2'
  go_enter Try.func60, Try.ntmps60
  go_wp2
  go_loopw [5] (fun k wr => ∃ (n : Nat) (X : Ext), k = .int .i64 n ∧ n ≤ ds.length ∧ wr = w.ext X) (fun k _ => ds.length - (intOf k).toNat)
  case atStart => exact ⟨0, ⟨#[], _⟩, rfl, by omega, (World.ext_nil _ _ rfl).symm⟩
  case round =>
    obtain ⟨n, X, rfl, hn, rfl⟩ := hrel
    by_cases hlt : (n : Int) < ds.length
    · have hk : n < ds.length := by omega
      obtain ⟨b, off, cs, rfl, hbl, hrd, hcell⟩ := HX.out n hk
      obtain ⟨b', off', cs', rfl, hbl', hrd', hcell'⟩ := HX'.out n hk
      generalize ds[n] = d at hrd hrd'
      obtain ⟨rfl, hok⟩ := hrd
      obtain ⟨rfl, hok'⟩ := hrd'
      obtain ⟨x0, ⟨x1, x2, x3, x4, x5, x6⟩⟩ := d
      have c0 := hcell 0 _ rfl
      have c1 := hcell 1 _ rfl
      have c2 := hcell 2 _ rfl
      have c3 := hcell 3 _ rfl
      have c4 := hcell 4 _ rfl
      have c5 := hcell 5 _ rfl
      have c6 := hcell 6 _ rfl
      have e0 := hcell' 0 _ rfl
      have e1 := hcell' 1 _ rfl
      have e2 := hcell' 2 _ rfl
      have e3 := hcell' 3 _ rfl
      have e4 := hcell' 4 _ rfl
      have e5 := hcell' 5 _ rfl
      have e6 := hcell' 6 _ rfl
      clear hcell hcell'
      simp only [show vStep.k = 7 from rfl, Nat.add_zero] at c0 c1 c2 c3 c4 c5 c6 e0 e1 e2 e3 e4 e5 e6
      go_wp2
      refine wp_region_ord [(0,true),(1,true),(2,true),(3,true),(4,true),(5,true),(6,true),(7,true),(8,false),(9,true)] 10 (by kernel_rfl) (by kernel_rfl) ?_
      repeat (refine wpOrd_quiet rfl (fun K hK => ?_); go_simp; (try simp (disch := omega) only [IntWalk.i64_in]); refine hK _ ?_; clear hK K)
      refine wpOrd_grow rfl (fun K hK => ?_); go_simp; go_at_call 109; refine (laws_eqStep x0 x1 x2 x3 x4 x5 x6 _).mono ?_; rintro e w' ⟨rfl, hb⟩; obtain ⟨X, rfl⟩ := hb.ext; clear hb; try go_simp; refine hK _ _ (by show Sx _ _; (try simp only [← Array.append_assoc]); repeat (first | with_reducible exact Sx.drew _ | with_reducible exact Sx.same _ _ _ _ | with_reducible exact ⟨_, rfl⟩ | with_reducible apply Sx.more | with_reducible apply Sx.ext | with_reducible apply Sx.alloc | with_reducible apply Sx.draw)) ?_; clear hK K
      repeat (refine wpOrd_quiet rfl (fun K hK => ?_); go_simp; (try simp (disch := omega) only [IntWalk.i64_in]); refine hK _ ?_; clear hK K)
      refine wpOrd_nil ?_
      go_wp2
      go_roundw
      case rel => exact ⟨n + 1, _, by go_num, by omega, rfl⟩
      case measure => simp [intOf]; omega
    · go_wp2
      go_ret
      exact ⟨rfl, (by repeat (first | with_reducible exact Below.refl _ _ | with_reducible apply Below.ofExt | with_reducible apply Below.ofAlloc | with_reducible apply Below.drew | with_reducible apply Below.ofDrewN | with_reducible assumption | (with_reducible refine Below.setCell ?_ (by first | exact Nat.le_refl _ | (simp [go_sem]; done) | (simp [go_sem]; omega)) _)))⟩
set_option maxRecDepth 100000 in
theorem laws_markStepS (v : Value) (fp : List Nat) (ds : List StepD) (k : Int) (w : World) (hs : (vSlice vStep 99).own w fp [v] ds) (h0 : 0 ≤ k) (h1 : k + (7 * ds.length : Nat) ≤ 4294960000) :
    Calls Try.prog 61 #[v, .int .i64 k] w fun e w' => e = .returned (.int .i64 (k + (7 * ds.length : Nat))) ∧ (vSlice vStep 99).own w' fp [v] (marks mkStep 7 k ds.length) ∧ Upon fp w w' := by
  rcases hs with ⟨hv, rfl, rfl⟩ | ⟨b, cap, blk, css, fps, hv, hb, hn, hm, hsz, ht, rfl, hcl, hfl, hel⟩
  · simp only [List.cons.injEq, and_true] at hv
    subst hv
    go_enter Try.func61, Try.ntmps61
    go_wp2
    go_loopw [1, 5] (fun kk i wr => kk = .int .i64 k ∧ i = .int .i64 0 ∧ wr = w) (fun _ _ _ => 0)
    case atStart => exact ⟨rfl, rfl, rfl⟩
    case round =>
      obtain ⟨rfl, rfl, rfl⟩ := hrel
      go_wp2
      go_ret
      exact ⟨by simp, .inl ⟨rfl, rfl, rfl⟩, Upon.refl _ _⟩
  · simp only [List.cons.injEq, and_true] at hv
    subst hv
    have hfe : fps.flatten = [] := by
      rw [List.flatten_eq_nil_iff]
      intro l hl
      obtain ⟨i, hi, rfl⟩ := List.getElem_of_mem hl
      exact (hel i (by omega) (by omega) hi).1
    rw [hfe]
    have hbl := World.lt_of_get hb
    have hsz' : blk.size = cap * 7 := hsz
    clear hel ht hfe hcl hfl hsz
    generalize hnn : ds.length = N at hn h1
    clear hnn
    unfold maxLen at hm
    refine World.at_block hb ?_
    clear hb
    go_enter Try.func61, Try.ntmps61
    go_wp2
    go_loopw [1, 5] (fun kk i wr => ∃ (n : Nat) (cs : Array Value) (X : Ext) (m : Int), kk = .int .i64 m ∧ m = k + (7 * n : Nat) ∧ i = .int .i64 n ∧ n ≤ N ∧ wr = (w.setB b (.cells cs 99)).ext X ∧ cs.size = cap * 7 ∧ cs.toList.take (n * 7) = (marks mkStep 7 k n).flatMap StepD.row) (fun _ i _ => N - (intOf i).toNat)
    case atStart => exact ⟨0, blk, ⟨#[], _⟩, k, rfl, by simp, rfl, by omega, (World.ext_nil _ _ rfl).symm, hsz', by simp [marks]⟩
    case round =>
      obtain ⟨n, cs, X, m, rfl, hmk, rfl, hn2, rfl, hcs, htk⟩ := hrel
      have HT := Lib.hid htk
      have HSZ := Lib.hid hcs
      have HM := Lib.hid hmk
      clear htk hcs hsz'
      have hm0 : 0 ≤ m := by omega
      have hm1 : m ≤ 4294960000 := by omega
      by_cases hlt : (n : Int) < N
      · have hk : n < N := by omega
        have hm2 : m + 7 ≤ 4294960000 := by omega
        clear hmk
        have hsz2 : n * 7 + 7 ≤ cs.size := by rw [HSZ.out]; omega
        have l0 : n * 7 < cs.size := by omega
        have l1 : n * 7 + 1 < cs.size := by omega
        have l2 : n * 7 + 2 < cs.size := by omega
        have l3 : n * 7 + 3 < cs.size := by omega
        have l4 : n * 7 + 4 < cs.size := by omega
        have l5 : n * 7 + 5 < cs.size := by omega
        have l6 : n * 7 + 6 < cs.size := by omega
        go_wp2_with fail
        (go_at_call 103; refine (laws_markText _ _ (by omega) (by omega)).mono ?_; rintro e w' ⟨rfl, hb⟩; obtain ⟨X, rfl⟩ := hb.ext; clear hb)
        go_wp2_with fail
        (go_at_call 103; refine (laws_markText _ _ (by omega) (by omega)).mono ?_; rintro e w' ⟨rfl, hb⟩; obtain ⟨X, rfl⟩ := hb.ext; clear hb)
        go_wp2_with fail
        (go_at_call 103; refine (laws_markText _ _ (by omega) (by omega)).mono ?_; rintro e w' ⟨rfl, hb⟩; obtain ⟨X, rfl⟩ := hb.ext; clear hb)
        go_wp2
        go_roundw
        case rel =>
          refine ⟨n + 1, _, _, _, rfl, ?_, by go_num, by omega, rfl, ?_, ?_⟩
          · have := HM.out
            omega
          · simpa using HSZ.out
          · skip
            have h0 := take_set1' (v := .int .i64 m) HT.out rfl rfl (by omega)
            have h1 := take_set1' (v := .int .i64 (m + 1)) h0 rfl rfl (by simp; omega)
            have h2 := take_set1' (v := .string (mtext (m + 1 + 1))) h1 rfl rfl (by simp; omega)
            have h3 := take_set1' (v := .string (mtext (m + 1 + 1 + 1))) h2 rfl rfl (by simp; omega)
            have h4 := take_set1' (v := .int .i64 (m + 1 + 1 + 1 + 1)) h3 rfl rfl (by simp; omega)
            have h5 := take_set1' (v := .int .i64 (m + 1 + 1 + 1 + 1 + 1)) h4 rfl rfl (by simp; omega)
            have h6 := take_set1' (p := (n + 1) * 7) (v := .string (mtext (m + 1 + 1 + 1 + 1 + 1 + 1))) h5 rfl (by omega) (by simp; omega)
            rw [marks_succ, List.flatMap_append, ← HM.out]
            simpa [mkStep, StepD.row] using h6
        case measure => simp [intOf]; omega
      · clear hmk
        go_wp2
        go_ret
        have e : n = N := by omega
        subst e
        exact ⟨ret_int HM.out, View.ownExt (vSlice.ownRow (World.setB_at _ _ _ hbl) (marks_len _ _ _ _).symm hn (by unfold maxLen; exact hm) HSZ.out HT.out (marks_ok_Step (by omega))) X, Upon.setBExt _ _ _ (by simp)⟩
set_option maxRecDepth 100000 in
theorem laws_heldStepS (v : Value) (k : Int) (N : Nat) (w : World) {e : TypeId} (hs : (vSlice vStep e).rd w [v] (marks mkStep 7 k N)) (h0 : 0 ≤ k) (h1 : k + (7 * N : Nat) ≤ 4294960000) :
    Calls Try.prog 62 #[v, .int .i64 k] w fun e w' => e = .returned (.int .i64 (k + (7 * N : Nat))) ∧ Below w.heap.size w w' := by
  obtain ⟨ao, cap, rfl, hc1, hc2, hnil, hcell⟩ := vSlice.shape hs
  have HX := Lib.hid hcell
  clear hcell hs hnil
  rw [marks_len] at hc1 ⊢
  unfold maxLen at hc2
  go_enter Try.func62, Try.ntmps62
  go_wp2
  go_loopw [1, 5] (fun kk i wr => ∃ (n : Nat) (m : Int), kk = .int .i64 m ∧ m = k + (7 * n : Nat) ∧ i = .int .i64 n ∧ n ≤ N ∧ Below w.heap.size w wr) (fun _ i _ => N - (intOf i).toNat)
  case atStart => exact ⟨0, k, rfl, by simp, rfl, by omega, (by repeat (first | with_reducible exact Below.refl _ _ | with_reducible apply Below.ofExt | with_reducible apply Below.ofAlloc | with_reducible apply Below.drew | with_reducible apply Below.ofDrewN | with_reducible assumption | (with_reducible refine Below.setCell ?_ (by first | exact Nat.le_refl _ | (simp [go_sem]; done) | (simp [go_sem]; omega)) _)))⟩
  case round =>
    obtain ⟨n, m, rfl, hmk, rfl, hn, hbel⟩ := hrel
    obtain ⟨X, rfl⟩ := hbel.ext
    have HM := Lib.hid hmk
    have hm0 : 0 ≤ m := by omega
    have hm1 : m ≤ 4294960000 := by omega
    by_cases hlt : (n : Int) < N
    · have hk : n < N := by omega
      have hm2 : m + 7 ≤ 4294960000 := by omega
      obtain ⟨b, off, cs, rfl, hbl, hrd, hcell⟩ := HX.out n (by rw [marks_len]; exact hk)
      rw [marks_get, ← hmk] at hrd
      clear hmk
      obtain ⟨rfl, hok⟩ := hrd
      have c0 := hcell 0 _ rfl
      have c1 := hcell 1 _ rfl
      have c2 := hcell 2 _ rfl
      have c3 := hcell 3 _ rfl
      have c4 := hcell 4 _ rfl
      have c5 := hcell 5 _ rfl
      have c6 := hcell 6 _ rfl
      clear hcell
      simp only [show vStep.k = 7 from rfl, Nat.add_zero, mkStep] at c0 c1 c2 c3 c4 c5 c6
      go_wp2
      refine wp_region_ord [(0,true),(1,true),(2,true),(3,true),(4,true),(5,true),(6,true),(7,false),(8,true)] 9 (by kernel_rfl) (by kernel_rfl) ?_
      repeat (refine wpOrd_quiet rfl (fun K hK => ?_); go_simp; (try simp (disch := omega) only [IntWalk.i64_in]); refine hK _ ?_; clear hK K)
      refine wpOrd_grow rfl (fun K hK => ?_); go_simp; go_at_call 103; refine (laws_markText _ _ (by omega) (by omega)).mono ?_; rintro e w' ⟨rfl, hb⟩; obtain ⟨X, rfl⟩ := hb.ext; clear hb; try go_simp; refine hK _ _ (by show Sx _ _; (try simp only [← Array.append_assoc]); repeat (first | with_reducible exact Sx.drew _ | with_reducible exact Sx.same _ _ _ _ | with_reducible exact ⟨_, rfl⟩ | with_reducible apply Sx.more | with_reducible apply Sx.ext | with_reducible apply Sx.alloc | with_reducible apply Sx.draw)) ?_; clear hK K
      repeat (refine wpOrd_quiet rfl (fun K hK => ?_); go_simp; (try simp (disch := omega) only [IntWalk.i64_in]); refine hK _ ?_; clear hK K)
      refine wpOrd_nil ?_
      go_wp2
      refine wp_region_ord [(0,true),(1,true),(2,true),(3,true),(4,true),(5,true),(6,true),(7,false),(8,true)] 9 (by kernel_rfl) (by kernel_rfl) ?_
      repeat (refine wpOrd_quiet rfl (fun K hK => ?_); go_simp; (try simp (disch := omega) only [IntWalk.i64_in]); refine hK _ ?_; clear hK K)
      refine wpOrd_grow rfl (fun K hK => ?_); go_simp; go_at_call 103; refine (laws_markText _ _ (by omega) (by omega)).mono ?_; rintro e w' ⟨rfl, hb⟩; obtain ⟨X, rfl⟩ := hb.ext; clear hb; try go_simp; refine hK _ _ (by show Sx _ _; (try simp only [← Array.append_assoc]); repeat (first | with_reducible exact Sx.drew _ | with_reducible exact Sx.same _ _ _ _ | with_reducible exact ⟨_, rfl⟩ | with_reducible apply Sx.more | with_reducible apply Sx.ext | with_reducible apply Sx.alloc | with_reducible apply Sx.draw)) ?_; clear hK K
      repeat (refine wpOrd_quiet rfl (fun K hK => ?_); go_simp; (try simp (disch := omega) only [IntWalk.i64_in]); refine hK _ ?_; clear hK K)
      refine wpOrd_nil ?_
      go_wp2
      refine wp_region_ord [(0,true),(1,true),(2,true),(3,true),(4,true),(5,true),(6,true),(7,false),(8,true)] 9 (by kernel_rfl) (by kernel_rfl) ?_
      repeat (refine wpOrd_quiet rfl (fun K hK => ?_); go_simp; (try simp (disch := omega) only [IntWalk.i64_in]); refine hK _ ?_; clear hK K)
      refine wpOrd_grow rfl (fun K hK => ?_); go_simp; go_at_call 103; refine (laws_markText _ _ (by omega) (by omega)).mono ?_; rintro e w' ⟨rfl, hb⟩; obtain ⟨X, rfl⟩ := hb.ext; clear hb; try go_simp; refine hK _ _ (by show Sx _ _; (try simp only [← Array.append_assoc]); repeat (first | with_reducible exact Sx.drew _ | with_reducible exact Sx.same _ _ _ _ | with_reducible exact ⟨_, rfl⟩ | with_reducible apply Sx.more | with_reducible apply Sx.ext | with_reducible apply Sx.alloc | with_reducible apply Sx.draw)) ?_; clear hK K
      repeat (refine wpOrd_quiet rfl (fun K hK => ?_); go_simp; (try simp (disch := omega) only [IntWalk.i64_in]); refine hK _ ?_; clear hK K)
      refine wpOrd_nil ?_
      go_wp2
      go_roundw
      case rel =>
        exact ⟨n + 1, _, rfl, by have := HM.out; omega, by go_num, by omega, (by repeat (first | with_reducible exact Below.refl _ _ | with_reducible apply Below.ofExt | with_reducible apply Below.ofAlloc | with_reducible apply Below.drew | with_reducible apply Below.ofDrewN | with_reducible assumption | (with_reducible refine Below.setCell ?_ (by first | exact Nat.le_refl _ | (simp [go_sem]; done) | (simp [go_sem]; omega)) _)))⟩
      case measure => simp [intOf]; omega
    · clear hmk
      go_wp2
      go_ret
      have e : n = N := by omega
      subst e
      exact ⟨ret_int HM.out, (by repeat (first | with_reducible exact Below.refl _ _ | with_reducible apply Below.ofExt | with_reducible apply Below.ofAlloc | with_reducible apply Below.drew | with_reducible apply Below.ofDrewN | with_reducible assumption | (with_reducible refine Below.setCell ?_ (by first | exact Nat.le_refl _ | (simp [go_sem]; done) | (simp [go_sem]; omega)) _)))⟩
end Go.Proofs.Ytefenfglkfdoaaa
