/- The laws' measure, copy, comparison, marks of Cell and of its slices. Each condition stands in its theorem. -/
import Derived.Test.YtedgenmbdjadkaaGreatDoorMark
set_option linter.unusedVariables false
set_option linter.unusedSimpArgs false
namespace Go.Proofs.YtedgenmbdjadkaaGreatDoor
open Go.ChangeShapes Go.WideShapes Go.ChangeAt Go.RowKit

structure CellD where
  key : ByteArray
  val : ByteArray
def CellD.row (d : CellD) : List Value := [.string d.key, .string d.val]
def CellD.ok (d : CellD) : Prop := d.key.size ≤ 9223372036854775807 ∧ d.val.size ≤ 9223372036854775807
def CellD.wt (d : CellD) : Nat := d.key.size + d.val.size
def vCell : View CellD := vRow CellD.row 2 CellD.ok (fun _ => rfl) (fun d u hu => by simp [CellD.row] at hu; rcases hu with rfl | rfl <;> rfl)
def mkCell (k : Int) : CellD := ⟨mtext k, mtext (k + 1)⟩
theorem mkCell_ok (k : Int) (h : k ≤ 4294967280) : (mkCell k).ok := ⟨mtext_size _ (by omega), mtext_size _ (by omega)⟩
theorem marks_ok_Cell {k : Int} {n : Nat} (h : k + (2 * n : Nat) ≤ 4294967280) : ∀ d ∈ marks mkCell 2 k n, d.ok := by
  intro d hd
  obtain ⟨i, hi, rfl⟩ := marks_mem hd
  exact mkCell_ok _ (by omega)
theorem Tryz.elemCellS : Elem Tryz.prog 35 39 2 32 := Elem.of (.agg #[.string ⟨#[]⟩, .string ⟨#[]⟩]) Tryz.underlying35 (by kernel_rfl) rfl (by decide)
theorem laws_eqCell (x0 : ByteArray) (x1 : ByteArray) (w : World) :
    Calls Tryz.prog 76 #[.agg #[.string x0, .string x1], .agg #[.string x0, .string x1]] w fun e w' => e = .returned (.bool true) ∧ Below w.heap.size w w' := by
  go_enter Tryz.func76, Tryz.ntmps76
  go_wp2
  go_ret
  exact ⟨rfl, (by repeat (first | with_reducible exact Below.refl _ _ | with_reducible apply Below.ofExt | with_reducible apply Below.ofAlloc | with_reducible apply Below.drew | with_reducible apply Below.ofDrewN | with_reducible assumption | (with_reducible refine Below.setCell ?_ (by first | exact Nat.le_refl _ | (simp [go_sem]; done) | (simp [go_sem]; omega)) _)))⟩
set_option maxRecDepth 100000 in
theorem laws_eqCellS (v v' : Value) (ds : List CellD) (w : World) {e e' : TypeId} (hs : (vSlice vCell e).rd w [v] ds) (hs' : (vSlice vCell e').rd w [v'] ds) :
    Calls Tryz.prog 40 #[v, v'] w fun e w' => e = .returned (.bool true) ∧ Below w.heap.size w w' := by
  obtain ⟨ao, cap, rfl, hc1, hc2, hnil, hcell⟩ := vSlice.shape hs
  obtain ⟨ao', cap', rfl, hc1', hc2', hnil', hcell'⟩ := vSlice.shape hs'
  have HX := Lib.hid hcell
  have HX' := Lib.hid hcell'
  clear hcell hs hnil hcell' hs' hnil'
  unfold maxLen at hc2 hc2'
  go_enter Tryz.func40, Tryz.ntmps40
  go_wp2
  go_loopw [5] (fun k wr => ∃ (n : Nat) (X : Ext), k = .int .i64 n ∧ n ≤ ds.length ∧ wr = w.ext X) (fun k _ => ds.length - (intOf k).toNat)
  case atStart => exact ⟨0, ⟨#[], _⟩, rfl, by omega, (World.ext_nil _ _ rfl).symm⟩
  case round =>
    obtain ⟨n, X, rfl, hn, rfl⟩ := hrel
    by_cases hlt : (n : Int) < ds.length
    · have hk : n < ds.length := by omega
      obtain ⟨b, off, cs, rfl, hbl, hrd, hcell⟩ := HX.out n hk
      obtain ⟨b', off', cs', rfl, hbl', hrd', hcell'⟩ := HX'.out n hk
      generalize ds[n] = d at hrd hrd'
      obtain ⟨rfl, hok⟩ := hrd
      obtain ⟨rfl, hok'⟩ := hrd'
      obtain ⟨x0, x1⟩ := d
      have c0 := hcell 0 _ rfl
      have c1 := hcell 1 _ rfl
      have e0 := hcell' 0 _ rfl
      have e1 := hcell' 1 _ rfl
      clear hcell hcell'
      simp only [show vCell.k = 2 from rfl, Nat.add_zero] at c0 c1 e0 e1
      go_wp2
      refine wp_region_ord [(0,true),(1,true),(2,true),(3,true),(4,true),(5,true),(6,true),(7,true),(8,false),(9,true)] 10 (by kernel_rfl) (by kernel_rfl) ?_
      repeat (refine wpOrd_quiet rfl (fun K hK => ?_); go_simp; (try simp (disch := omega) only [IntWalk.i64_in]); refine hK _ ?_; clear hK K)
      refine wpOrd_grow rfl (fun K hK => ?_); go_simp; go_at_call 76; refine (laws_eqCell x0 x1 _).mono ?_; rintro e w' ⟨rfl, hb⟩; obtain ⟨X, rfl⟩ := hb.ext; clear hb; try go_simp; refine hK _ _ (by show Sx _ _; (try simp only [← Array.append_assoc]); repeat (first | with_reducible exact Sx.drew _ | with_reducible exact Sx.same _ _ _ _ | with_reducible exact ⟨_, rfl⟩ | with_reducible apply Sx.more | with_reducible apply Sx.ext | with_reducible apply Sx.alloc | with_reducible apply Sx.draw | with_reducible exact Sx.refl _)) ?_; clear hK K
      repeat (refine wpOrd_quiet rfl (fun K hK => ?_); go_simp; (try simp (disch := omega) only [IntWalk.i64_in]); refine hK _ ?_; clear hK K)
      refine wpOrd_nil ?_
      go_wp2
      go_roundw
      case rel => exact ⟨n + 1, _, by go_num, by omega, rfl⟩
      case measure => simp [intOf]; omega
    · go_wp2
      go_ret
      exact ⟨rfl, (by repeat (first | with_reducible exact Below.refl _ _ | with_reducible apply Below.ofExt | with_reducible apply Below.ofAlloc | with_reducible apply Below.drew | with_reducible apply Below.ofDrewN | with_reducible assumption | (with_reducible refine Below.setCell ?_ (by first | exact Nat.le_refl _ | (simp [go_sem]; done) | (simp [go_sem]; omega)) _)))⟩
set_option maxRecDepth 100000 in
theorem laws_markCellS (v : Value) (fp : List Nat) (ds : List CellD) (k : Int) (w : World) (hs : (vSlice vCell 39).own w fp [v] ds) (h0 : 0 ≤ k) (h1 : k + (2 * ds.length : Nat) ≤ 4294960000) :
    Calls Tryz.prog 41 #[v, .int .i64 k] w fun e w' => e = .returned (.int .i64 (k + (2 * ds.length : Nat))) ∧ (vSlice vCell 39).own w' fp [v] (marks mkCell 2 k ds.length) ∧ Upon fp w w' := by
  rcases hs with ⟨hv, rfl, rfl⟩ | ⟨b, cap, blk, css, fps, hv, hb, hn, hm, hsz, ht, rfl, hcl, hfl, hel⟩
  · simp only [List.cons.injEq, and_true] at hv
    subst hv
    go_enter Tryz.func41, Tryz.ntmps41
    go_wp2
    go_loopw [1, 5] (fun kk i wr => kk = .int .i64 k ∧ i = .int .i64 0 ∧ wr = w) (fun _ _ _ => 0)
    case atStart => exact ⟨rfl, rfl, rfl⟩
    case round =>
      obtain ⟨rfl, rfl, rfl⟩ := hrel
      go_wp2
      go_ret
      exact ⟨by simp, .inl ⟨rfl, rfl, rfl⟩, Upon.refl _ _⟩
  · simp only [List.cons.injEq, and_true] at hv
    subst hv
    have hfe : fps.flatten = [] := by
      rw [List.flatten_eq_nil_iff]
      intro l hl
      obtain ⟨i, hi, rfl⟩ := List.getElem_of_mem hl
      exact (hel i (by omega) (by omega) hi).1
    rw [hfe]
    have hbl := World.lt_of_get hb
    have hsz' : blk.size = cap * 2 := hsz
    clear hel ht hfe hcl hfl hsz
    generalize hnn : ds.length = N at hn h1
    clear hnn
    unfold maxLen at hm
    refine World.at_block hb ?_
    clear hb
    go_enter Tryz.func41, Tryz.ntmps41
    go_wp2
    go_loopw [1, 5] (fun kk i wr => ∃ (n : Nat) (cs : Array Value) (X : Ext) (m : Int), kk = .int .i64 m ∧ m = k + (2 * n : Nat) ∧ i = .int .i64 n ∧ n ≤ N ∧ wr = (w.setB b (.cells cs 39)).ext X ∧ cs.size = cap * 2 ∧ cs.toList.take (n * 2) = (marks mkCell 2 k n).flatMap CellD.row) (fun _ i _ => N - (intOf i).toNat)
    case atStart => exact ⟨0, blk, ⟨#[], _⟩, k, rfl, by simp, rfl, by omega, (World.ext_nil _ _ rfl).symm, hsz', by simp [marks]⟩
    case round =>
      obtain ⟨n, cs, X, m, rfl, hmk, rfl, hn2, rfl, hcs, htk⟩ := hrel
      have HT := Lib.hid htk
      have HSZ := Lib.hid hcs
      have HM := Lib.hid hmk
      clear htk hcs hsz'
      have hm0 : 0 ≤ m := by omega
      have hm1 : m ≤ 4294960000 := by omega
      by_cases hlt : (n : Int) < N
      · have hk : n < N := by omega
        have hm2 : m + 2 ≤ 4294960000 := by omega
        clear hmk
        have hsz2 : n * 2 + 2 ≤ cs.size := by rw [HSZ.out]; omega
        have l0 : n * 2 < cs.size := by omega
        have l1 : n * 2 + 1 < cs.size := by omega
        go_wp2_with fail
        (go_at_call 77; refine (laws_markText _ _ (by omega) (by omega)).mono ?_; rintro e w' ⟨rfl, hb⟩; obtain ⟨X, rfl⟩ := hb.ext; clear hb)
        go_wp2_with fail
        (go_at_call 77; refine (laws_markText _ _ (by omega) (by omega)).mono ?_; rintro e w' ⟨rfl, hb⟩; obtain ⟨X, rfl⟩ := hb.ext; clear hb)
        go_wp2
        go_roundw
        case rel =>
          refine ⟨n + 1, _, _, _, rfl, ?_, by go_num, by omega, rfl, ?_, ?_⟩
          · have := HM.out
            omega
          · simpa using HSZ.out
          · skip
            have h0 := take_set1' (v := .string (mtext m)) HT.out rfl rfl (by omega)
            have h1 := take_set1' (p := (n + 1) * 2) (v := .string (mtext (m + 1))) h0 rfl (by omega) (by simp; omega)
            rw [marks_succ, List.flatMap_append, ← HM.out]
            simpa [mkCell, CellD.row] using h1
        case measure => simp [intOf]; omega
      · clear hmk
        go_wp2
        go_ret
        have e : n = N := by omega
        subst e
        exact ⟨ret_int HM.out, View.ownExt (vSlice.ownRow (World.setB_at _ _ _ hbl) (marks_len _ _ _ _).symm hn (by unfold maxLen; exact hm) HSZ.out HT.out (marks_ok_Cell (by omega))) X, Upon.setBExt _ _ _ (by simp)⟩
set_option maxRecDepth 100000 in
theorem laws_heldCellS (v : Value) (k : Int) (N : Nat) (w : World) {e : TypeId} (hs : (vSlice vCell e).rd w [v] (marks mkCell 2 k N)) (h0 : 0 ≤ k) (h1 : k + (2 * N : Nat) ≤ 4294960000) :
    Calls Tryz.prog 42 #[v, .int .i64 k] w fun e w' => e = .returned (.int .i64 (k + (2 * N : Nat))) ∧ Below w.heap.size w w' := by
  obtain ⟨ao, cap, rfl, hc1, hc2, hnil, hcell⟩ := vSlice.shape hs
  have HX := Lib.hid hcell
  clear hcell hs hnil
  rw [marks_len] at hc1 ⊢
  unfold maxLen at hc2
  go_enter Tryz.func42, Tryz.ntmps42
  go_wp2
  go_loopw [1, 5] (fun kk i wr => ∃ (n : Nat) (m : Int), kk = .int .i64 m ∧ m = k + (2 * n : Nat) ∧ i = .int .i64 n ∧ n ≤ N ∧ Below w.heap.size w wr) (fun _ i _ => N - (intOf i).toNat)
  case atStart => exact ⟨0, k, rfl, by simp, rfl, by omega, (by repeat (first | with_reducible exact Below.refl _ _ | with_reducible apply Below.ofExt | with_reducible apply Below.ofAlloc | with_reducible apply Below.drew | with_reducible apply Below.ofDrewN | with_reducible assumption | (with_reducible refine Below.setCell ?_ (by first | exact Nat.le_refl _ | (simp [go_sem]; done) | (simp [go_sem]; omega)) _)))⟩
  case round =>
    obtain ⟨n, m, rfl, hmk, rfl, hn, hbel⟩ := hrel
    obtain ⟨X, rfl⟩ := hbel.ext
    have HM := Lib.hid hmk
    have hm0 : 0 ≤ m := by omega
    have hm1 : m ≤ 4294960000 := by omega
    by_cases hlt : (n : Int) < N
    · have hk : n < N := by omega
      have hm2 : m + 2 ≤ 4294960000 := by omega
      obtain ⟨b, off, cs, rfl, hbl, hrd, hcell⟩ := HX.out n (by rw [marks_len]; exact hk)
      rw [marks_get, ← hmk] at hrd
      clear hmk
      obtain ⟨rfl, hok⟩ := hrd
      have c0 := hcell 0 _ rfl
      have c1 := hcell 1 _ rfl
      clear hcell
      simp only [show vCell.k = 2 from rfl, Nat.add_zero, mkCell] at c0 c1
      go_wp2
      refine wp_region_ord [(0,true),(1,true),(2,true),(3,true),(4,true),(5,true),(6,false),(7,true)] 8 (by kernel_rfl) (by kernel_rfl) ?_
      repeat (refine wpOrd_quiet rfl (fun K hK => ?_); go_simp; (try simp (disch := omega) only [IntWalk.i64_in]); refine hK _ ?_; clear hK K)
      refine wpOrd_grow rfl (fun K hK => ?_); go_simp; go_at_call 77; refine (laws_markText _ _ (by omega) (by omega)).mono ?_; rintro e w' ⟨rfl, hb⟩; obtain ⟨X, rfl⟩ := hb.ext; clear hb; try go_simp; refine hK _ _ (by show Sx _ _; (try simp only [← Array.append_assoc]); repeat (first | with_reducible exact Sx.drew _ | with_reducible exact Sx.same _ _ _ _ | with_reducible exact ⟨_, rfl⟩ | with_reducible apply Sx.more | with_reducible apply Sx.ext | with_reducible apply Sx.alloc | with_reducible apply Sx.draw | with_reducible exact Sx.refl _)) ?_; clear hK K
      repeat (refine wpOrd_quiet rfl (fun K hK => ?_); go_simp; (try simp (disch := omega) only [IntWalk.i64_in]); refine hK _ ?_; clear hK K)
      refine wpOrd_nil ?_
      go_wp2
      refine wp_region_ord [(0,true),(1,true),(2,true),(3,true),(4,true),(5,true),(6,false),(7,true)] 8 (by kernel_rfl) (by kernel_rfl) ?_
      repeat (refine wpOrd_quiet rfl (fun K hK => ?_); go_simp; (try simp (disch := omega) only [IntWalk.i64_in]); refine hK _ ?_; clear hK K)
      refine wpOrd_grow rfl (fun K hK => ?_); go_simp; go_at_call 77; refine (laws_markText _ _ (by omega) (by omega)).mono ?_; rintro e w' ⟨rfl, hb⟩; obtain ⟨X, rfl⟩ := hb.ext; clear hb; try go_simp; refine hK _ _ (by show Sx _ _; (try simp only [← Array.append_assoc]); repeat (first | with_reducible exact Sx.drew _ | with_reducible exact Sx.same _ _ _ _ | with_reducible exact ⟨_, rfl⟩ | with_reducible apply Sx.more | with_reducible apply Sx.ext | with_reducible apply Sx.alloc | with_reducible apply Sx.draw | with_reducible exact Sx.refl _)) ?_; clear hK K
      repeat (refine wpOrd_quiet rfl (fun K hK => ?_); go_simp; (try simp (disch := omega) only [IntWalk.i64_in]); refine hK _ ?_; clear hK K)
      refine wpOrd_nil ?_
      go_wp2
      go_roundw
      case rel =>
        exact ⟨n + 1, _, rfl, by have := HM.out; omega, by go_num, by omega, (by repeat (first | with_reducible exact Below.refl _ _ | with_reducible apply Below.ofExt | with_reducible apply Below.ofAlloc | with_reducible apply Below.drew | with_reducible apply Below.ofDrewN | with_reducible assumption | (with_reducible refine Below.setCell ?_ (by first | exact Nat.le_refl _ | (simp [go_sem]; done) | (simp [go_sem]; omega)) _)))⟩
      case measure => simp [intOf]; omega
    · clear hmk
      go_wp2
      go_ret
      have e : n = N := by omega
      subst e
      exact ⟨ret_int HM.out, (by repeat (first | with_reducible exact Below.refl _ _ | with_reducible apply Below.ofExt | with_reducible apply Below.ofAlloc | with_reducible apply Below.drew | with_reducible apply Below.ofDrewN | with_reducible assumption | (with_reducible refine Below.setCell ?_ (by first | exact Nat.le_refl _ | (simp [go_sem]; done) | (simp [go_sem]; omega)) _)))⟩
end Go.Proofs.YtedgenmbdjadkaaGreatDoor
