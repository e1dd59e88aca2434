/- The laws' measure, copy, comparison, marks of Cell and of its slices. Each condition stands in its theorem. -/
import Derived.Test.YtdehbojnflibhaaDoorMark
set_option linter.unusedVariables false
set_option linter.unusedSimpArgs false
namespace Go.Proofs.YtdehbojnflibhaaDoor
open Go.ChangeShapes Go.WideShapes Go.ChangeAt Go.RowKit

structure CellD where
  key : ByteArray
  val : ByteArray
def CellD.row (d : CellD) : List Value := [.string d.key, .string d.val]
def CellD.ok (d : CellD) : Prop := d.key.size ≤ 9223372036854775807 ∧ d.val.size ≤ 9223372036854775807
def CellD.wt (d : CellD) : Nat := d.key.size + d.val.size
def vCell : View CellD := vRow CellD.row 2 CellD.ok (fun _ => rfl) (fun d u hu => by simp [CellD.row] at hu; rcases hu with rfl | rfl <;> rfl)
def mkCell (k : Int) : CellD := ⟨mtext k, mtext (k + 1)⟩
theorem mkCell_ok (k : Int) (h : k ≤ 4294967280) : (mkCell k).ok := ⟨mtext_size _ (by omega), mtext_size _ (by omega)⟩
theorem marks_ok_Cell {k : Int} {n : Nat} (h : k + (2 * n : Nat) ≤ 4294967280) : ∀ d ∈ marks mkCell 2 k n, d.ok := by
  intro d hd
  obtain ⟨i, hi, rfl⟩ := marks_mem hd
  exact mkCell_ok _ (by omega)
theorem Tryd.elemCellS : Elem Tryd.prog 30 46 2 32 := Elem.of (.agg #[.string ⟨#[]⟩, .string ⟨#[]⟩]) Tryd.underlying30 (by kernel_rfl) rfl (by decide)
theorem laws_szCell (d : CellD) (left : Int) (w : World) (hok : d.ok) (h0 : 0 ≤ left) (h1 : left ≤ 4294967296) :
    Calls Tryd.prog 21 #[.agg d.row.toArray, .int .i64 left] w fun e w' => e = .returned (.int .i64 (leftOf left d.wt)) ∧ Below w.heap.size w w' := by
  obtain ⟨f0, f1⟩ := d
  obtain ⟨z0, z1⟩ := hok
  simp only at z0 z1
  simp only [CellD.row, CellD.wt]
  have e0 : wrap64 (left - f0.size) = left - f0.size := IntWalk.wrap64_in _ (by omega)
  by_cases g0 : left - f0.size < 0
  · rw [leftOf_none (by omega)]
    go_enter Tryd.func21, Tryd.ntmps21
    go_wp2
    go_ret
    exact ⟨rfl, (by repeat (first | with_reducible exact Below.refl _ _ | with_reducible apply Below.ofExt | with_reducible apply Below.ofAlloc | with_reducible apply Below.drew | with_reducible apply Below.ofDrewN | with_reducible assumption | (with_reducible refine Below.setCell ?_ (by first | exact Nat.le_refl _ | (simp [go_sem]; done) | (simp [go_sem]; omega)) _)))⟩
  · skip
    have e1 : wrap64 (left - f0.size - f1.size) = left - f0.size - f1.size := IntWalk.wrap64_in _ (by omega)
    by_cases g1 : left - f0.size - f1.size < 0
    · rw [leftOf_none (by omega)]
      go_enter Tryd.func21, Tryd.ntmps21
      go_wp2
      go_ret
      exact ⟨rfl, (by repeat (first | with_reducible exact Below.refl _ _ | with_reducible apply Below.ofExt | with_reducible apply Below.ofAlloc | with_reducible apply Below.drew | with_reducible apply Below.ofDrewN | with_reducible assumption | (with_reducible refine Below.setCell ?_ (by first | exact Nat.le_refl _ | (simp [go_sem]; done) | (simp [go_sem]; omega)) _)))⟩
    · skip
      rw [leftOf_pos (by omega)]
      go_enter Tryd.func21, Tryd.ntmps21
      go_wp2
      go_ret
      exact ⟨ret_int (by omega), (by repeat (first | with_reducible exact Below.refl _ _ | with_reducible apply Below.ofExt | with_reducible apply Below.ofAlloc | with_reducible apply Below.drew | with_reducible apply Below.ofDrewN | with_reducible assumption | (with_reducible refine Below.setCell ?_ (by first | exact Nat.le_refl _ | (simp [go_sem]; done) | (simp [go_sem]; omega)) _)))⟩
theorem laws_szCellS (v : Value) (ds : List CellD) (left : Int) (w : World) {e : TypeId} (hs : (vSlice vCell e).rd w [v] ds) (h0 : 0 ≤ left) (h1 : left ≤ 4294967296) :
    Calls Tryd.prog 11 #[v, .int .i64 left] w fun e w' => e = .returned (.int .i64 (leftOf left (wtS CellD.wt ds))) ∧ Below w.heap.size w w' := by
  obtain ⟨ao, cap, rfl, hc1, hc2, hnil, hcell⟩ := vSlice.shape hs
  have HX := Lib.hid hcell
  clear hcell hs hnil
  unfold maxLen at hc2
  have hsub : wrap64 (left - ds.length) = left - ds.length := IntWalk.wrap64_in _ (by omega)
  by_cases hl : left - ds.length < 0
  · rw [leftOf_none (by unfold wtS; omega)]
    go_enter Tryd.func11, Tryd.ntmps11
    go_wp2
    go_ret
    exact ⟨rfl, (by repeat (first | with_reducible exact Below.refl _ _ | with_reducible apply Below.ofExt | with_reducible apply Below.ofAlloc | with_reducible apply Below.drew | with_reducible apply Below.ofDrewN | with_reducible assumption | (with_reducible refine Below.setCell ?_ (by first | exact Nat.le_refl _ | (simp [go_sem]; done) | (simp [go_sem]; omega)) _)))⟩
  · go_enter Tryd.func11, Tryd.ntmps11
    go_wp2
    go_loopw [1, 5] (fun l k wr => ∃ (n : Nat) (m : Int) (X : Ext), k = .int .i64 n ∧ n ≤ ds.length ∧ wr = w.ext X ∧ l = .int .i64 m ∧ m + ((ds.take n).map CellD.wt).sum = left - ds.length ∧ 0 ≤ m) (fun _ k _ => ds.length - (intOf k).toNat)
    case atStart => exact ⟨0, _, ⟨#[], _⟩, rfl, by omega, (World.ext_nil _ _ rfl).symm, rfl, by simp, by omega⟩
    case round =>
      obtain ⟨n, m, X, rfl, hn, rfl, rfl, hsum, hm⟩ := hrel
      have HS := Lib.hid hsum
      have hm2 : m ≤ left := by omega
      clear hsum
      by_cases hlt : (n : Int) < ds.length
      · have hk : n < ds.length := by omega
        obtain ⟨b, off, cs, rfl, hbl, hrd, hcell⟩ := HX.out n hk
        have hstep := sum_take_step CellD.wt ds n hk
        have hle := sum_take_le CellD.wt ds (n + 1)
        generalize ds[n] = d at hrd hstep
        have HT := Lib.hid hstep
        have HL := Lib.hid hle
        clear hstep hle
        obtain ⟨rfl, hok⟩ := hrd
        obtain ⟨x0, x1⟩ := d
        have c0 := hcell 0 _ rfl
        have c1 := hcell 1 _ rfl
        clear hcell
        simp only [show vCell.k = 2 from rfl, Nat.add_zero] at c0 c1
        go_wp2_with fail
        (go_at_call 21; refine (laws_szCell ⟨x0, x1⟩ m _ hok hm (by omega)).mono ?_; rintro e w' ⟨rfl, hb⟩; obtain ⟨X, rfl⟩ := hb.ext; clear hb)
        generalize CellD.wt ⟨x0, x1⟩ = wt at HT
        by_cases hg : (wt : Int) ≤ m
        · rw [leftOf_pos hg]
          have hg2 : ¬ m - (wt : Int) < 0 := by omega
          go_wp2
          go_roundw
          case rel => exact ⟨n + 1, m - wt, _, by go_num, by omega, rfl, rfl, by rw [HT.out]; have := HS.out; omega, by omega⟩
          case measure => simp [intOf]; omega
        · rw [leftOf_none hg]
          go_wp2
          go_ret
          refine ⟨?_, (by repeat (first | with_reducible exact Below.refl _ _ | with_reducible apply Below.ofExt | with_reducible apply Below.ofAlloc | with_reducible apply Below.drew | with_reducible apply Below.ofDrewN | with_reducible assumption | (with_reducible refine Below.setCell ?_ (by first | exact Nat.le_refl _ | (simp [go_sem]; done) | (simp [go_sem]; omega)) _)))⟩
          have := HS.out
          have h2 := HT.out
          have h3 := HL.out
          rw [leftOf_none (by unfold wtS; omega)]
          rfl
      · go_wp2
        go_ret
        refine ⟨?_, (by repeat (first | with_reducible exact Below.refl _ _ | with_reducible apply Below.ofExt | with_reducible apply Below.ofAlloc | with_reducible apply Below.drew | with_reducible apply Below.ofDrewN | with_reducible assumption | (with_reducible refine Below.setCell ?_ (by first | exact Nat.le_refl _ | (simp [go_sem]; done) | (simp [go_sem]; omega)) _)))⟩
        have e : n = ds.length := by omega
        subst e
        have := HS.out
        rw [List.take_length] at this
        rw [leftOf_pos (by unfold wtS; omega)]
        exact ret_int (by unfold wtS; omega)
theorem laws_toCell (x0 : ByteArray) (x1 : ByteArray) (w : World) :
    Calls Tryd.prog 27 #[.agg #[.string x0, .string x1]] w fun e w' => e = .returned (.agg #[.string x0, .string x1]) ∧ Below w.heap.size w w' := by
  go_enter Tryd.func27, Tryd.ntmps27
  go_wp2
  refine bodyPost_ret (by simp [results, Tryd.results27, go_sem]; rfl) rfl ?_
  exact ⟨rfl, (by repeat (first | with_reducible exact Below.refl _ _ | with_reducible apply Below.ofExt | with_reducible apply Below.ofAlloc | with_reducible apply Below.drew | with_reducible apply Below.ofDrewN | with_reducible assumption | (with_reducible refine Below.setCell ?_ (by first | exact Nat.le_refl _ | (simp [go_sem]; done) | (simp [go_sem]; omega)) _)))⟩
theorem laws_eqCell (x0 : ByteArray) (x1 : ByteArray) (w : World) :
    Calls Tryd.prog 36 #[.agg #[.string x0, .string x1], .agg #[.string x0, .string x1]] w fun e w' => e = .returned (.bool true) ∧ Below w.heap.size w w' := by
  go_enter Tryd.func36, Tryd.ntmps36
  go_wp2
  go_ret
  exact ⟨rfl, (by repeat (first | with_reducible exact Below.refl _ _ | with_reducible apply Below.ofExt | with_reducible apply Below.ofAlloc | with_reducible apply Below.drew | with_reducible apply Below.ofDrewN | with_reducible assumption | (with_reducible refine Below.setCell ?_ (by first | exact Nat.le_refl _ | (simp [go_sem]; done) | (simp [go_sem]; omega)) _)))⟩
set_option maxRecDepth 100000 in
theorem laws_toCellS (v : Value) (ds : List CellD) (w : World) {e : TypeId} (hs : (vSlice vCell e).rd w [v] ds) (hl : ds.length ≤ 1048576) :
    Calls Tryd.prog 13 #[v] w (Made (vSlice vCell 46) w ds) := by
  obtain ⟨ao, cap, rfl, hc1, hc2, hnil, hcell⟩ := vSlice.shape hs
  have HX := Lib.hid hcell
  have HOK : Hid (∀ d ∈ ds, CellD.ok d) := fun d hd => by
    obtain ⟨i, hi, rfl⟩ := List.getElem_of_mem hd
    obtain ⟨_, _, _, _, _, h, _⟩ := hcell i hi
    exact h.2
  clear hcell hs hnil
  unfold maxLen at hc2
  obtain ⟨cs0, hsz0, hmk⟩ := Elem.make Tryd.elemCellS ds.length (by omega) (by omega)
  go_enter Tryd.func13, Tryd.ntmps13
  go_wp2
  go_loopw [4] (fun k wr => ∃ (n : Nat) (cs : Array Value) (X : Ext), k = .int .i64 n ∧ n ≤ ds.length ∧ wr = (w.alloc (.cells cs 46)).ext X ∧ cs.size = ds.length * 2 ∧ cs.toList.take (n * 2) = (ds.take n).flatMap CellD.row) (fun k _ => ds.length - (intOf k).toNat)
  case atStart => exact ⟨0, cs0, ⟨#[], _⟩, rfl, by omega, (World.ext_nil _ _ rfl).symm, hsz0, by simp⟩
  case round =>
    obtain ⟨n, cs, X, rfl, hn, rfl, hsz, htk⟩ := hrel
    have HT := Lib.hid htk
    have HSZ := Lib.hid hsz
    clear htk hmk hsz0 hsz
    by_cases hlt : (n : Int) < ds.length
    · have hk : n < ds.length := by omega
      obtain ⟨b, off, cs', rfl, hbl, hrd, hcell⟩ := HX.out n hk
      have hfs : (ds.take (n + 1)).flatMap CellD.row = (ds.take n).flatMap CellD.row ++ CellD.row ds[n] := by
        simp only [List.take_succ_eq_append_getElem hk, List.flatMap_append, List.flatMap_cons, List.flatMap_nil, List.append_nil]
      generalize ds[n] = d at hrd hfs
      have HF := Lib.hid hfs
      clear hfs
      obtain ⟨rfl, hok⟩ := hrd
      obtain ⟨x0, x1⟩ := d
      have c0 := hcell 0 _ rfl
      have c1 := hcell 1 _ rfl
      clear hcell
      simp only [show vCell.k = 2 from rfl, Nat.add_zero] at c0 c1
      have hsz2 : n * 2 + 2 ≤ cs.size := by rw [HSZ.out]; omega
      have o0 : cs[n * 2]? = some cs[n * 2] := Array.getElem?_eq_getElem (by omega)
      have o1 : cs[n * 2 + 1]? = some cs[n * 2 + 1] := Array.getElem?_eq_getElem (by omega)
      generalize cs[n * 2] = y0 at o0
      generalize cs[n * 2 + 1] = y1 at o1
      go_wp2_with fail
      (go_at_call 27; refine (laws_toCell x0 x1 _).mono ?_; rintro e w' ⟨rfl, hb⟩; obtain ⟨X, rfl⟩ := hb.ext; clear hb)
      go_wp2
      go_roundw
      case rel =>
        have h0 := take_set1' (v := .string x0) HT.out rfl rfl (by omega)
        have h1 := take_set1' (p := (n + 1) * 2) (v := .string x1) h0 rfl (by omega) (by simp; omega)
        exact ⟨n + 1, _, _, by go_num, by omega, rfl, by simpa using HSZ.out, by rw [HF.out]; simpa [CellD.row] using h1⟩
      case measure => simp [intOf]; omega
    · go_wp2
      go_ret
      have e : n = ds.length := by omega
      subst e
      have ht := HT.out
      rw [List.take_length] at ht
      exact ⟨_, _, rfl, vSlice.freshRow rfl (by omega) HSZ.out ht HOK.out, (by repeat (first | with_reducible exact Below.refl _ _ | with_reducible apply Below.ofExt | with_reducible apply Below.ofAlloc | with_reducible apply Below.drew | with_reducible apply Below.ofDrewN | with_reducible assumption | (with_reducible refine Below.setCell ?_ (by first | exact Nat.le_refl _ | (simp [go_sem]; done) | (simp [go_sem]; omega)) _)))⟩
set_option maxRecDepth 100000 in
theorem laws_eqCellS (v v' : Value) (ds : List CellD) (w : World) {e e' : TypeId} (hs : (vSlice vCell e).rd w [v] ds) (hs' : (vSlice vCell e').rd w [v'] ds) :
    Calls Tryd.prog 15 #[v, v'] w fun e w' => e = .returned (.bool true) ∧ Below w.heap.size w w' := by
  obtain ⟨ao, cap, rfl, hc1, hc2, hnil, hcell⟩ := vSlice.shape hs
  obtain ⟨ao', cap', rfl, hc1', hc2', hnil', hcell'⟩ := vSlice.shape hs'
  have HX := Lib.hid hcell
  have HX' := Lib.hid hcell'
  clear hcell hs hnil hcell' hs' hnil'
  unfold maxLen at hc2 hc2'
  go_enter Tryd.func15, Tryd.ntmps15
  go_wp2
  go_loopw [5] (fun k wr => ∃ (n : Nat) (X : Ext), k = .int .i64 n ∧ n ≤ ds.length ∧ wr = w.ext X) (fun k _ => ds.length - (intOf k).toNat)
  case atStart => exact ⟨0, ⟨#[], _⟩, rfl, by omega, (World.ext_nil _ _ rfl).symm⟩
  case round =>
    obtain ⟨n, X, rfl, hn, rfl⟩ := hrel
    by_cases hlt : (n : Int) < ds.length
    · have hk : n < ds.length := by omega
      obtain ⟨b, off, cs, rfl, hbl, hrd, hcell⟩ := HX.out n hk
      obtain ⟨b', off', cs', rfl, hbl', hrd', hcell'⟩ := HX'.out n hk
      generalize ds[n] = d at hrd hrd'
      obtain ⟨rfl, hok⟩ := hrd
      obtain ⟨rfl, hok'⟩ := hrd'
      obtain ⟨x0, x1⟩ := d
      have c0 := hcell 0 _ rfl
      have c1 := hcell 1 _ rfl
      have e0 := hcell' 0 _ rfl
      have e1 := hcell' 1 _ rfl
      clear hcell hcell'
      simp only [show vCell.k = 2 from rfl, Nat.add_zero] at c0 c1 e0 e1
      go_wp2
      refine wp_region_ord [(0,true),(1,true),(2,true),(3,true),(4,true),(5,true),(6,true),(7,true),(8,false),(9,true)] 10 (by kernel_rfl) (by kernel_rfl) ?_
      repeat (refine wpOrd_quiet rfl (fun K hK => ?_); go_simp; (try simp (disch := omega) only [IntWalk.i64_in]); refine hK _ ?_; clear hK K)
      refine wpOrd_grow rfl (fun K hK => ?_); go_simp; go_at_call 36; refine (laws_eqCell x0 x1 _).mono ?_; rintro e w' ⟨rfl, hb⟩; obtain ⟨X, rfl⟩ := hb.ext; clear hb; try go_simp; refine hK _ _ (by show Sx _ _; (try simp only [← Array.append_assoc]); repeat (first | with_reducible exact Sx.drew _ | with_reducible exact Sx.same _ _ _ _ | with_reducible exact ⟨_, rfl⟩ | with_reducible apply Sx.more | with_reducible apply Sx.ext | with_reducible apply Sx.alloc | with_reducible apply Sx.draw | with_reducible exact Sx.refl _)) ?_; clear hK K
      repeat (refine wpOrd_quiet rfl (fun K hK => ?_); go_simp; (try simp (disch := omega) only [IntWalk.i64_in]); refine hK _ ?_; clear hK K)
      refine wpOrd_nil ?_
      go_wp2
      go_roundw
      case rel => exact ⟨n + 1, _, by go_num, by omega, rfl⟩
      case measure => simp [intOf]; omega
    · go_wp2
      go_ret
      exact ⟨rfl, (by repeat (first | with_reducible exact Below.refl _ _ | with_reducible apply Below.ofExt | with_reducible apply Below.ofAlloc | with_reducible apply Below.drew | with_reducible apply Below.ofDrewN | with_reducible assumption | (with_reducible refine Below.setCell ?_ (by first | exact Nat.le_refl _ | (simp [go_sem]; done) | (simp [go_sem]; omega)) _)))⟩
end Go.Proofs.YtdehbojnflibhaaDoor
