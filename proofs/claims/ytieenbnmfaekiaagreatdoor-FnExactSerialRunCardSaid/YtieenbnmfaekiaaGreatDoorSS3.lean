/- Texts of this claim, merged: the walks and what they stand on. Each condition stands in its theorem. -/
import Derived.Lib.SliceRun
import Derived.Test.YtieenbnmfaekiaaGreatDoorSS2
set_option linter.unusedVariables false
set_option linter.unusedSimpArgs false
set_option maxRecDepth 100000
set_option maxHeartbeats 8000000
namespace Go.Proofs.YtieenbnmfaekiaaGreatDoor
open Go.ChangeShapes Go.WideShapes Go.ChangeAt Go.RowKit
structure CellD where
 key : ByteArray
 val : ByteArray
def CellD.row (d : CellD) : List Value := [.string d.key, .string d.val]
def CellD.ok (d : CellD) : Prop := d.key.size ≤ 9223372036854775807 ∧ d.val.size ≤ 9223372036854775807
def CellD.wt (d : CellD) : Nat := d.key.size + d.val.size
def vCell : View CellD := vRow CellD.row 2 CellD.ok (fun _ => rfl) (fun d u hu => by simp [CellD.row] at hu; rcases hu with rfl | rfl <;> rfl)
def mkCell (k : Int) : CellD := ⟨mtext k, mtext (k + 1)⟩
theorem mkCell_ok (k : Int) (h : k ≤ 4294967280) : (mkCell k).ok := ⟨mtext_size _ (by omega), mtext_size _ (by omega)⟩
theorem marks_ok_Cell {k : Int} {n : Nat} (h : k + (2 * n : Nat) ≤ 4294967280) : ∀ d ∈ marks mkCell 2 k n, d.ok := by
 intro d hd
 obtain ⟨i, hi, rfl⟩ := marks_mem hd
 exact mkCell_ok _ (by omega)
theorem Tryz.elemCellS : Elem Tryz.prog 26 53 2 32 := Elem.of (.agg #[.string ⟨#[]⟩, .string ⟨#[]⟩]) Tryz.underlying26 (by kernel_rfl) rfl (by decide)
theorem laws_szCell (d : CellD) (left : Int) (w : World) (hok : d.ok) (h0 : 0 ≤ left) (h1 : left ≤ 4294967296) :
  Calls Tryz.prog 18 #[.agg d.row.toArray, .int .i64 left] w fun e w' => e = .returned (.int .i64 (leftOf left d.wt)) ∧ Below w.heap.size w w' := by
 obtain ⟨f0, f1⟩ := d
 obtain ⟨z0, z1⟩ := hok
 simp only at z0 z1
 simp only [CellD.row, CellD.wt]
 have e0 : wrap64 (left - f0.size) = left - f0.size := IntWalk.wrap64_in _ (by omega)
 by_cases g0 : left - f0.size < 0
 ·rw [leftOf_none (by omega)]
  go_enter Tryz.func18, Tryz.ntmps18
  go_wp2
  go_ret
  exact ⟨rfl, (by repeat (first | with_reducible exact Below.refl _ _ | with_reducible apply Below.ofAlloc))⟩
 ·skip
  have e1 : wrap64 (left - f0.size - f1.size) = left - f0.size - f1.size := IntWalk.wrap64_in _ (by omega)
  by_cases g1 : left - f0.size - f1.size < 0
  ·rw [leftOf_none (by omega)]
   go_enter Tryz.func18, Tryz.ntmps18
   go_wp2
   go_ret
   exact ⟨rfl, (by repeat (first | with_reducible exact Below.refl _ _ | with_reducible apply Below.ofAlloc))⟩
  ·skip
   rw [leftOf_pos (by omega)]
   go_enter Tryz.func18, Tryz.ntmps18
   go_wp2
   go_ret
   exact ⟨ret_int (by omega), (by repeat (first | with_reducible exact Below.refl _ _ | with_reducible apply Below.ofAlloc))⟩
theorem laws_szCellS (v : Value) (ds : List CellD) (left : Int) (w : World) {e : TypeId} (hs : (vSlice vCell e).rd w [v] ds) (h0 : 0 ≤ left) (h1 : left ≤ 4294967296) :
  Calls Tryz.prog 4 #[v, .int .i64 left] w fun e w' => e = .returned (.int .i64 (leftOf left (wtS CellD.wt ds))) ∧ Below w.heap.size w w' := by
 obtain ⟨ao, cap, rfl, hc1, hc2, hnil, hcell⟩ := vSlice.shape hs
 have HX := Lib.hid hcell
 clear hcell hs hnil
 unfold maxLen at hc2
 have hsub : wrap64 (left - ds.length) = left - ds.length := IntWalk.wrap64_in _ (by omega)
 by_cases hl : left - ds.length < 0
 ·rw [leftOf_none (by unfold wtS; omega)]
  go_enter Tryz.func4, Tryz.ntmps4
  go_wp2
  go_ret
  exact ⟨rfl, (by repeat (with_reducible exact Below.refl _ _))⟩
 ·go_enter Tryz.func4, Tryz.ntmps4
  go_wp2
  go_loopw [1, 5] (fun l k wr => ∃ (n : Nat) (m : Int) (X : Ext), k = .int .i64 n ∧ n ≤ ds.length ∧ wr = w.ext X ∧ l = .int .i64 m ∧ m + ((ds.take n).map CellD.wt).sum = left - ds.length ∧ 0 ≤ m) (fun _ k _ => ds.length - (intOf k).toNat)
  case atStart => exact ⟨0, _, ⟨#[], _⟩, rfl, by omega, (World.ext_nil _ _ rfl).symm, rfl, by simp, by omega⟩
  case round =>
   obtain ⟨n, m, X, rfl, hn, rfl, rfl, hsum, hm⟩ := hrel
   have HS := Lib.hid hsum
   have hm2 : m ≤ left := by omega
   clear hsum
   by_cases hlt : (n : Int) < ds.length
   ·have hk : n < ds.length := by omega
    obtain ⟨b, off, cs, rfl, hbl, hrd, hcell⟩ := HX.out n hk
    have hstep := sum_take_step CellD.wt ds n hk
    have hle := sum_take_le CellD.wt ds (n + 1)
    generalize ds[n] = d at hrd hstep
    have HT := Lib.hid hstep
    have HL := Lib.hid hle
    clear hstep hle
    obtain ⟨rfl, hok⟩ := hrd
    obtain ⟨x0, x1⟩ := d
    have c0 := hcell 0 _ rfl
    have c1 := hcell 1 _ rfl
    clear hcell
    simp only [show vCell.k = 2 from rfl, Nat.add_zero] at c0 c1
    go_wp2_with fail
    (go_at_call 18; refine (laws_szCell ⟨x0, x1⟩ m _ hok hm (by omega)).mono ?_; rintro e w' ⟨rfl, hb⟩; obtain ⟨X, rfl⟩ := hb.ext; clear hb)
    generalize CellD.wt ⟨x0, x1⟩ = wt at HT
    by_cases hg : (wt : Int) ≤ m
    ·rw [leftOf_pos hg]
     have hg2 : ¬ m - (wt : Int) < 0 := by omega
     go_wp2
     go_roundw
     case rel => exact ⟨n + 1, m - wt, _, by go_num, by omega, rfl, rfl, by rw [HT.out]; have := HS.out; omega, by omega⟩
     case measure => simp [intOf]; omega
    ·rw [leftOf_none hg]
     go_wp2
     go_ret
     refine ⟨?_, (by repeat (first | with_reducible exact Below.refl _ _ | with_reducible apply Below.ofExt))⟩
     have := HS.out
     have h2 := HT.out
     have h3 := HL.out
     rw [leftOf_none (by unfold wtS; omega)]
     rfl
   ·go_wp2
    go_ret
    refine ⟨?_, (by repeat (first | with_reducible exact Below.refl _ _ | with_reducible apply Below.ofExt))⟩
    have e : n = ds.length := by omega
    subst e
    have := HS.out
    rw [List.take_length] at this
    rw [leftOf_pos (by unfold wtS; omega)]
    exact ret_int (by unfold wtS; omega)
theorem laws_toCell (x0 : ByteArray) (x1 : ByteArray) (w : World) :
  Calls Tryz.prog 21 #[.agg #[.string x0, .string x1]] w fun e w' => e = .returned (.agg #[.string x0, .string x1]) ∧ Below w.heap.size w w' := by
 go_enter Tryz.func21, Tryz.ntmps21
 go_wp2
 refine bodyPost_ret (by simp [results, Tryz.results21, go_sem]; rfl) rfl ?_
 exact ⟨rfl, (by repeat (first | with_reducible exact Below.refl _ _ | with_reducible apply Below.ofAlloc))⟩
theorem laws_eqCell (x0 : ByteArray) (x1 : ByteArray) (w : World) :
  Calls Tryz.prog 25 #[.agg #[.string x0, .string x1], .agg #[.string x0, .string x1]] w fun e w' => e = .returned (.bool true) ∧ Below w.heap.size w w' := by
 go_enter Tryz.func25, Tryz.ntmps25
 go_wp2
 go_ret
 exact ⟨rfl, (by repeat (first | with_reducible exact Below.refl _ _ | with_reducible apply Below.ofAlloc))⟩
theorem laws_toCellS (v : Value) (ds : List CellD) (w : World) {e : TypeId} (hs : (vSlice vCell e).rd w [v] ds) (hl : ds.length ≤ 1048576) :
  Calls Tryz.prog 7 #[v] w (Made (vSlice vCell 53) w ds) := by
 obtain ⟨ao, cap, rfl, hc1, hc2, hnil, hcell⟩ := vSlice.shape hs
 have HX := Lib.hid hcell
 have HOK : Hid (∀ d ∈ ds, CellD.ok d) := fun d hd => by
  obtain ⟨i, hi, rfl⟩ := List.getElem_of_mem hd
  obtain ⟨_, _, _, _, _, h, _⟩ := hcell i hi
  exact h.2
 clear hcell hs hnil
 unfold maxLen at hc2
 obtain ⟨cs0, hsz0, hmk⟩ := Elem.make Tryz.elemCellS ds.length (by omega) (by omega)
 go_enter Tryz.func7, Tryz.ntmps7
 go_wp2
 go_loopw [4] (fun k wr => ∃ (n : Nat) (cs : Array Value) (X : Ext), k = .int .i64 n ∧ n ≤ ds.length ∧ wr = (w.alloc (.cells cs 53)).ext X ∧ cs.size = ds.length * 2 ∧ cs.toList.take (n * 2) = (ds.take n).flatMap CellD.row) (fun k _ => ds.length - (intOf k).toNat)
 case atStart => exact ⟨0, cs0, ⟨#[], _⟩, rfl, by omega, (World.ext_nil _ _ rfl).symm, hsz0, by simp⟩
 case round =>
  obtain ⟨n, cs, X, rfl, hn, rfl, hsz, htk⟩ := hrel
  have HT := Lib.hid htk
  have HSZ := Lib.hid hsz
  clear htk hmk hsz0 hsz
  by_cases hlt : (n : Int) < ds.length
  ·have hk : n < ds.length := by omega
   obtain ⟨b, off, cs', rfl, hbl, hrd, hcell⟩ := HX.out n hk
   have hfs : (ds.take (n + 1)).flatMap CellD.row = (ds.take n).flatMap CellD.row ++ CellD.row ds[n] := by
    simp only [List.take_succ_eq_append_getElem hk, List.flatMap_append, List.flatMap_cons, List.flatMap_nil, List.append_nil]
   generalize ds[n] = d at hrd hfs
   have HF := Lib.hid hfs
   clear hfs
   obtain ⟨rfl, hok⟩ := hrd
   obtain ⟨x0, x1⟩ := d
   have c0 := hcell 0 _ rfl
   have c1 := hcell 1 _ rfl
   clear hcell
   simp only [show vCell.k = 2 from rfl, Nat.add_zero] at c0 c1
   have hsz2 : n * 2 + 2 ≤ cs.size := by rw [HSZ.out]; omega
   have o0 : cs[n * 2]? = some cs[n * 2] := Array.getElem?_eq_getElem (by omega)
   have o1 : cs[n * 2 + 1]? = some cs[n * 2 + 1] := Array.getElem?_eq_getElem (by omega)
   generalize cs[n * 2] = y0 at o0
   generalize cs[n * 2 + 1] = y1 at o1
   go_wp2_with fail
   (go_at_call 21; refine (laws_toCell x0 x1 _).mono ?_; rintro e w' ⟨rfl, hb⟩; obtain ⟨X, rfl⟩ := hb.ext; clear hb)
   go_wp2
   go_roundw
   case rel =>
    have h0 := take_set1' (v := .string x0) HT.out rfl rfl (by omega)
    have h1 := take_set1' (p := (n + 1) * 2) (v := .string x1) h0 rfl (by omega) (by simp; omega)
    exact ⟨n + 1, _, _, by go_num, by omega, rfl, by simpa using HSZ.out, by rw [HF.out]; simpa [CellD.row] using h1⟩
   case measure => simp [intOf]; omega
  ·go_wp2
   go_ret
   have e : n = ds.length := by omega
   subst e
   have ht := HT.out
   rw [List.take_length] at ht
   exact ⟨_, _, rfl, vSlice.freshRow rfl (by omega) HSZ.out ht HOK.out, (by repeat (first | with_reducible exact Below.refl _ _ | with_reducible apply Below.ofExt | with_reducible apply Below.ofAlloc))⟩
theorem laws_eqCellS (v v' : Value) (ds : List CellD) (w : World) {e e' : TypeId} (hs : (vSlice vCell e).rd w [v] ds) (hs' : (vSlice vCell e').rd w [v'] ds) :
  Calls Tryz.prog 10 #[v, v'] w fun e w' => e = .returned (.bool true) ∧ Below w.heap.size w w' := by
 obtain ⟨ao, cap, rfl, hc1, hc2, hnil, hcell⟩ := vSlice.shape hs
 obtain ⟨ao', cap', rfl, hc1', hc2', hnil', hcell'⟩ := vSlice.shape hs'
 have HX := Lib.hid hcell
 have HX' := Lib.hid hcell'
 clear hcell hs hnil hcell' hs' hnil'
 unfold maxLen at hc2 hc2'
 go_enter Tryz.func10, Tryz.ntmps10
 go_wp2
 go_loopw [5] (fun k wr => ∃ (n : Nat) (X : Ext), k = .int .i64 n ∧ n ≤ ds.length ∧ wr = w.ext X) (fun k _ => ds.length - (intOf k).toNat)
 case atStart => exact ⟨0, ⟨#[], _⟩, rfl, by omega, (World.ext_nil _ _ rfl).symm⟩
 case round =>
  obtain ⟨n, X, rfl, hn, rfl⟩ := hrel
  by_cases hlt : (n : Int) < ds.length
  ·have hk : n < ds.length := by omega
   obtain ⟨b, off, cs, rfl, hbl, hrd, hcell⟩ := HX.out n hk
   obtain ⟨b', off', cs', rfl, hbl', hrd', hcell'⟩ := HX'.out n hk
   generalize ds[n] = d at hrd hrd'
   obtain ⟨rfl, hok⟩ := hrd
   obtain ⟨rfl, hok'⟩ := hrd'
   obtain ⟨x0, x1⟩ := d
   have c0 := hcell 0 _ rfl
   have c1 := hcell 1 _ rfl
   have e0 := hcell' 0 _ rfl
   have e1 := hcell' 1 _ rfl
   clear hcell hcell'
   simp only [show vCell.k = 2 from rfl, Nat.add_zero] at c0 c1 e0 e1
   go_wp2
   refine wp_region_ord [(0,true),(1,true),(2,true),(3,true),(4,true),(5,true),(6,true),(7,true),(8,false),(9,true)] 10 (by kernel_rfl) (by kernel_rfl) ?_
   repeat (refine wpOrd_quiet rfl (fun K hK => ?_); go_simp; (try simp (disch := omega) only [IntWalk.i64_in]); refine hK _ ?_; clear hK K)
   refine wpOrd_grow rfl (fun K hK => ?_); go_simp; go_at_call 25; refine (laws_eqCell x0 x1 _).mono ?_; rintro e w' ⟨rfl, hb⟩; obtain ⟨X, rfl⟩ := hb.ext; clear hb; try go_simp; refine hK _ _ (by show Sx _ _; repeat (first | with_reducible exact Sx.same _ _ _ _ | with_reducible apply Sx.more)) ?_; clear hK K
   repeat (refine wpOrd_quiet rfl (fun K hK => ?_); go_simp; (try simp (disch := omega) only [IntWalk.i64_in]); refine hK _ ?_; clear hK K)
   refine wpOrd_nil ?_
   go_wp2
   go_roundw
   case rel => exact ⟨n + 1, _, by go_num, by omega, rfl⟩
   case measure => simp [intOf]; omega
  ·go_wp2
   go_ret
   exact ⟨rfl, (by repeat (first | with_reducible exact Below.refl _ _ | with_reducible apply Below.ofExt))⟩
theorem laws_markCellS (v : Value) (fp : List Nat) (ds : List CellD) (k : Int) (w : World) (hs : (vSlice vCell 53).own w fp [v] ds) (h0 : 0 ≤ k) (h1 : k + (2 * ds.length : Nat) ≤ 4294960000) :
  Calls Tryz.prog 13 #[v, .int .i64 k] w fun e w' => e = .returned (.int .i64 (k + (2 * ds.length : Nat))) ∧ (vSlice vCell 53).own w' fp [v] (marks mkCell 2 k ds.length) ∧ Upon fp w w' := by
 rcases hs with ⟨hv, rfl, rfl⟩ | ⟨b, cap, blk, css, fps, hv, hb, hn, hm, hsz, ht, rfl, hcl, hfl, hel⟩
 ·simp only [List.cons.injEq, and_true] at hv
  subst hv
  go_enter Tryz.func13, Tryz.ntmps13
  go_wp2
  go_loopw [1, 5] (fun kk i wr => kk = .int .i64 k ∧ i = .int .i64 0 ∧ wr = w) (fun _ _ _ => 0)
  case atStart => exact ⟨rfl, rfl, rfl⟩
  case round =>
   obtain ⟨rfl, rfl, rfl⟩ := hrel
   go_wp2
   go_ret
   exact ⟨by simp, .inl ⟨rfl, rfl, rfl⟩, Upon.refl _ _⟩
 ·simp only [List.cons.injEq, and_true] at hv
  subst hv
  have hfe : fps.flatten = [] := by
   rw [List.flatten_eq_nil_iff]
   intro l hl
   obtain ⟨i, hi, rfl⟩ := List.getElem_of_mem hl
   exact (hel i (by omega) (by omega) hi).1
  rw [hfe]
  have hbl := World.lt_of_get hb
  have hsz' : blk.size = cap * 2 := hsz
  clear hel ht hfe hcl hfl hsz
  generalize hnn : ds.length = N at hn h1
  clear hnn
  unfold maxLen at hm
  refine World.at_block hb ?_
  clear hb
  go_enter Tryz.func13, Tryz.ntmps13
  go_wp2
  go_loopw [1, 5] (fun kk i wr => ∃ (n : Nat) (cs : Array Value) (X : Ext) (m : Int), kk = .int .i64 m ∧ m = k + (2 * n : Nat) ∧ i = .int .i64 n ∧ n ≤ N ∧ wr = (w.setB b (.cells cs 53)).ext X ∧ cs.size = cap * 2 ∧ cs.toList.take (n * 2) = (marks mkCell 2 k n).flatMap CellD.row) (fun _ i _ => N - (intOf i).toNat)
  case atStart => exact ⟨0, blk, ⟨#[], _⟩, k, rfl, by simp, rfl, by omega, (World.ext_nil _ _ rfl).symm, hsz', by simp [marks]⟩
  case round =>
   obtain ⟨n, cs, X, m, rfl, hmk, rfl, hn2, rfl, hcs, htk⟩ := hrel
   have HT := Lib.hid htk
   have HSZ := Lib.hid hcs
   have HM := Lib.hid hmk
   clear htk hcs hsz'
   have hm0 : 0 ≤ m := by omega
   have hm1 : m ≤ 4294960000 := by omega
   by_cases hlt : (n : Int) < N
   ·have hk : n < N := by omega
    have hm2 : m + 2 ≤ 4294960000 := by omega
    clear hmk
    have hsz2 : n * 2 + 2 ≤ cs.size := by rw [HSZ.out]; omega
    have l0 : n * 2 < cs.size := by omega
    have l1 : n * 2 + 1 < cs.size := by omega
    go_wp2_with fail
    (go_at_call 28; refine (laws_markText _ _ (by omega) (by omega)).mono ?_; rintro e w' ⟨rfl, hb⟩; obtain ⟨X, rfl⟩ := hb.ext; clear hb)
    go_wp2_with fail
    (go_at_call 28; refine (laws_markText _ _ (by omega) (by omega)).mono ?_; rintro e w' ⟨rfl, hb⟩; obtain ⟨X, rfl⟩ := hb.ext; clear hb)
    go_wp2
    go_roundw
    case rel =>
     refine ⟨n + 1, _, _, _, rfl, ?_, by go_num, by omega, rfl, ?_, ?_⟩
     ·have := HM.out
      omega
     ·simpa using HSZ.out
     ·skip
      have h0 := take_set1' (v := .string (mtext m)) HT.out rfl rfl (by omega)
      have h1 := take_set1' (p := (n + 1) * 2) (v := .string (mtext (m + 1))) h0 rfl (by omega) (by simp; omega)
      rw [marks_succ, List.flatMap_append, ← HM.out]
      simpa [mkCell, CellD.row] using h1
    case measure => simp [intOf]; omega
   ·clear hmk
    go_wp2
    go_ret
    have e : n = N := by omega
    subst e
    exact ⟨ret_int HM.out, View.ownExt (vSlice.ownRow (World.setB_at _ _ _ hbl) (marks_len _ _ _ _).symm hn (by unfold maxLen; exact hm) HSZ.out HT.out (marks_ok_Cell (by omega))) X, Upon.setBExt _ _ _ (by simp)⟩
theorem bytesLess_irrefl : ∀ l : List UInt8, Op.bytesLess l l = false
 | [] => rfl
 | x :: l => by
  simp only [Op.bytesLess, bytesLess_irrefl l, Bool.and_false, Bool.or_false]
  exact decide_eq_false (UInt8.lt_irrefl x)
theorem bytesLess_total : ∀ (a b : List UInt8), (Op.bytesLess a b || a == b) = !Op.bytesLess b a
 | [], [] => rfl
 | [], _ :: _ => rfl
 | _ :: _, [] => rfl
 | x :: a, y :: b => by
  have ih := bytesLess_total a b
  simp only [Op.bytesLess]
  by_cases h : x = y
  ·subst h
   have hn : ¬ x < x := UInt8.lt_irrefl x
   have e : (x :: a == x :: b) = (a == b) := by simp [List.cons_beq_cons]
   rw [e, decide_eq_false hn]
   simpa using ih
  ·have e : (x :: a == y :: b) = false := by simp [h]
   have e2 : (x == y) = false := by simp [h]
   have e3 : (y == x) = false := by simp [Ne.symm h]
   rw [e, e2, e3]
   have : ¬ x.toNat = y.toNat := fun q => h (UInt8.toNat_inj.1 q)
   by_cases hl : x < y
   ·have hn : ¬ y < x := by rw [UInt8.lt_iff_toNat_lt] at hl ⊢; omega
    simp [hl, hn]
   ·have hn : y < x := by rw [UInt8.lt_iff_toNat_lt] at hl ⊢; omega
    simp [hl, hn]
def isKey (key : ByteArray) (c : CellD) : Bool := c.key.toList == key.toList
def gtKey (key : ByteArray) (c : CellD) : Bool := Op.bytesLess key.toList c.key.toList
theorem gtKey_not {key : ByteArray} {c : CellD} (h : gtKey key c = true) : isKey key c = false := by
 cases hk : isKey key c with
 | false => rfl
 | true =>
  unfold isKey at hk
  unfold gtKey at h
  rw [eq_of_beq hk, bytesLess_irrefl] at h
  cases h
theorem less_gt {key : ByteArray} {c : CellD} (h : gtKey key c = true) : Op.bytesLess c.key.toList key.toList = false := by
 have := bytesLess_total c.key.toList key.toList
 unfold gtKey at h
 rw [h, Bool.not_true, Bool.or_eq_false_iff] at this
 exact this.1
theorem less_same {key : ByteArray} {c : CellD} (h : isKey key c = true) : Op.bytesLess c.key.toList key.toList = false := by
 unfold isKey at h
 rw [eq_of_beq h]
 exact bytesLess_irrefl _
theorem less_other {key : ByteArray} {c : CellD} (h : gtKey key c = false) (hk : isKey key c = false) : Op.bytesLess c.key.toList key.toList = true := by
 have := bytesLess_total c.key.toList key.toList
 unfold gtKey at h
 unfold isKey at hk
 rwa [h, hk, Bool.or_false, Bool.not_false] at this
def without (key : ByteArray) (xs : List CellD) : List CellD := xs.filter fun c => !isKey key c
def insC (key val : ByteArray) (ys : List CellD) : List CellD := (ys.takeWhile fun c => !gtKey key c) ++ ⟨key, val⟩ :: (ys.dropWhile fun c => !gtKey key c)
def putC (key val : ByteArray) (xs : List CellD) : List CellD :=
 if keyOk key = false ∨ 60 < val.size then xs else if val.size = 0 then without key xs else insC key val (without key xs)
def putUp (key val : ByteArray) (zs : List CellD) : List CellD := if zs.any (gtKey key) then insC key val (without key zs) else without key zs
theorem without_snoc (key : ByteArray) (zs : List CellD) (c : CellD) : without key (zs ++ [c]) = without key zs ++ (if isKey key c then [] else [c]) := by
 unfold without
 rw [List.filter_append]
 congr 1
 cases hk : isKey key c <;> simp [hk]
theorem without_any (key : ByteArray) (zs : List CellD) : (without key zs).any (gtKey key) = zs.any (gtKey key) := by
 unfold without
 rw [List.any_filter]
 induction zs with
 | nil => rfl
 | cons c zs ih =>
  rw [List.any_cons, List.any_cons, ih]
  congr 1
  cases hg : gtKey key c with
  | false => exact Bool.and_false _
  | true => rw [gtKey_not hg]; rfl
theorem takeWhile_none {α : Type} (p : α → Bool) : ∀ l : List α, l.any p = false → (l.takeWhile fun c => !p c) = l ∧ (l.dropWhile fun c => !p c) = []
 | [], _ => ⟨rfl, rfl⟩
 | x :: l, h => by
  rw [List.any_cons, Bool.or_eq_false_iff] at h
  obtain ⟨h1, h2⟩ := takeWhile_none p l h.2
  simp [List.takeWhile_cons, List.dropWhile_cons, h.1, h1, h2]
theorem takeWhile_some {α : Type} (p : α → Bool) (c : α) : ∀ l : List α, l.any p = true → ((l ++ [c]).takeWhile fun c => !p c) = (l.takeWhile fun c => !p c) ∧ ((l ++ [c]).dropWhile fun c => !p c) = (l.dropWhile fun c => !p c) ++ [c]
 | [], h => by cases h
 | x :: l, h => by
  cases hp : p x with
  | true =>
   simp [List.takeWhile_cons, List.dropWhile_cons, hp]
  | false =>
   rw [List.any_cons, hp, Bool.false_or] at h
   obtain ⟨h1, h2⟩ := takeWhile_some p c l h
   simp [List.takeWhile_cons, List.dropWhile_cons, hp, h1, h2]
theorem insC_none {key val : ByteArray} {ys : List CellD} (h : ys.any (gtKey key) = false) : insC key val ys = ys ++ [⟨key, val⟩] := by
 unfold insC
 obtain ⟨h1, h2⟩ := takeWhile_none (gtKey key) ys h
 rw [h1, h2]
theorem insC_snoc {key val : ByteArray} {ys : List CellD} (c : CellD) (h : ys.any (gtKey key) = true) : insC key val (ys ++ [c]) = insC key val ys ++ [c] := by
 unfold insC
 obtain ⟨h1, h2⟩ := takeWhile_some (gtKey key) c ys h
 rw [h1, h2, List.append_assoc, List.cons_append]
theorem putUp_first {key val : ByteArray} {zs : List CellD} {c : CellD} (h : zs.any (gtKey key) = false) (hg : gtKey key c = true) : putUp key val (zs ++ [c]) = (putUp key val zs ++ [⟨key, val⟩]) ++ [c] := by
 unfold putUp
 rw [List.any_append, h, if_pos (by simp [hg]), if_neg (by simp), without_snoc, gtKey_not hg, if_neg (by simp)]
 have h' : (without key zs).any (gtKey key) = false := by rw [without_any]; exact h
 unfold insC
 obtain ⟨h1, h2⟩ := takeWhile_none (gtKey key) _ h'
 rw [List.takeWhile_append_of_pos, List.dropWhile_append_of_pos]
 ·simp [List.takeWhile_cons, List.dropWhile_cons, hg]
 ·intro x hx
  rw [List.any_eq_false] at h'
  simpa using h' x hx
 ·intro x hx
  rw [List.any_eq_false] at h'
  simpa using h' x hx
theorem putUp_same {key val : ByteArray} {zs : List CellD} {c : CellD} (hk : isKey key c = true) : putUp key val (zs ++ [c]) = putUp key val zs := by
 have hg : gtKey key c = false := by
  cases hg : gtKey key c with
  | false => rfl
  | true => rw [gtKey_not hg] at hk; cases hk
 unfold putUp
 rw [List.any_append, without_snoc, hk, if_pos rfl, List.append_nil]
 simp [hg]
theorem putUp_other {key val : ByteArray} {zs : List CellD} {c : CellD} (hk : isKey key c = false) (h : zs.any (gtKey key) = true ∨ gtKey key c = false) : putUp key val (zs ++ [c]) = putUp key val zs ++ [c] := by
 have e : without key (zs ++ [c]) = without key zs ++ [c] := by rw [without_snoc, hk]; rfl
 have ea : (zs ++ [c]).any (gtKey key) = (zs.any (gtKey key) || gtKey key c) := by simp [List.any_append]
 unfold putUp
 rw [e, ea]
 cases hz : zs.any (gtKey key) with
 | true =>
  rw [if_pos (by simp), if_pos rfl]
  exact insC_snoc c (by rw [without_any]; exact hz)
 | false =>
  rcases h with h | h
  ·rw [hz] at h; cases h
  ·rw [h]
   rfl
theorem putUp_end {key val : ByteArray} {zs : List CellD} : (if zs.any (gtKey key) then putUp key val zs else putUp key val zs ++ [⟨key, val⟩]) = insC key val (without key zs) := by
 unfold putUp
 cases hz : zs.any (gtKey key) with
 | true => simp
 | false =>
  simp only [Bool.false_eq_true, if_false]
  exact (insC_none (by rw [without_any]; exact hz)).symm
theorem without_len (key : ByteArray) (xs : List CellD) : (without key xs).length ≤ xs.length := List.length_filter_le _ _
theorem insC_len (key val : ByteArray) (ys : List CellD) : (insC key val ys).length = ys.length + 1 := by
 unfold insC
 have := congrArg List.length (List.takeWhile_append_dropWhile (p := fun c => !gtKey key c) (l := ys))
 rw [List.length_append] at this ⊢
 rw [List.length_cons]
 omega
theorem putUp_len (key val : ByteArray) (zs : List CellD) : (putUp key val zs).length ≤ zs.length + 1 := by
 unfold putUp
 have := without_len key zs
 split
 ·rw [insC_len]; omega
 ·omega
theorem vCell_one : ∀ d : CellD, ∀ u ∈ CellD.row d, u.oneCell' = true := fun d u hu => by simp [CellD.row] at hu; rcases hu with rfl | rfl <;> rfl
def rCell : RowOf CellD := ⟨CellD.row, 2, fun _ => rfl, vCell_one⟩
theorem rdl_of_own {α : Type} {row : α → List Value} {k : Nat} {ok : α → Prop} {hk : ∀ d, (row d).length = k} {h1 : ∀ d, ∀ u ∈ row d, u.oneCell' = true} {R : RowOf α} (hr : R.row = row) {e : TypeId} {w : World} {fp : List Nat} {v : Value} {ds : List α}
  (h : (vSlice (vRow row k ok hk h1) e).own w fp [v] ds) : RdL R w v ds := by
 subst hr
 rcases h with ⟨hv, rfl, _⟩ | ⟨b, cap, blk, css, fps, hv, hb, h2, h3, h4, h5, h6, h7, h8, h9⟩
 ·cases hv
  exact RdL.nil _ _
 ·cases hv
  refine .inr ⟨b, 0, cap, rfl, h2, h3, fun j u hj => ?_⟩
  have e : css = ds.map R.row := List.ext_getElem (by simp [h7]) (fun i a c => by
   have := (h9 i (by omega) a (by omega)).2.1
   simpa using this)
  rw [e, ← List.flatMap_def] at h5
  rw [← h5, List.getElem?_take] at hj
  split at hj
  ·rw [World.cell?_of_get hb, Nat.zero_add]
   simpa using hj
  ·cases hj
theorem own_of_OwnR {α : Type} {row : α → List Value} {k : Nat} {ok : α → Prop} {hk : ∀ d, (row d).length = k} {h1 : ∀ d, ∀ u ∈ row d, u.oneCell' = true} {R : RowOf α} (hr : R.row = row) (hkk : R.k = k) {e : TypeId} {w : World} {B : Nat} {v : Value} {xs : List α} (h : OwnL R e w B v xs) (hok : ∀ d ∈ xs, ok d) :
  ∃ fp : List Nat, (vSlice (vRow row k ok hk h1) e).own w fp [v] xs ∧ fp.Nodup ∧ ∀ b ∈ fp, B ≤ b := by
 subst hr hkk
 rcases h.2 with ⟨rfl, h0⟩ | ⟨g, cap, cur, rfl, hg, hh, hn, hm, hsz, ht⟩
 ·have : xs = [] := List.eq_nil_of_length_eq_zero h0
  subst this
  exact ⟨[], .inl ⟨rfl, rfl, rfl⟩, List.nodup_nil, by simp⟩
 ·exact ⟨[g], vSlice.ownRow hh rfl hn hm hsz ht hok, by simp, by simpa using hg⟩
theorem own_of_cells {w : World} {B : Nat} {v : Value} {xs : List CellD} {e : TypeId} (h : OwnL rCell e w B v xs) (hok : ∀ d ∈ xs, d.ok) : ∃ fp : List Nat, (vSlice vCell e).own w fp [v] xs ∧ fp.Nodup ∧ ∀ b ∈ fp, B ≤ b :=
 own_of_OwnR (R := rCell) (row := CellD.row) (k := 2) rfl rfl (ok := CellD.ok) (hk := fun _ => rfl) (h1 := vCell_one) h hok
theorem impl_CloneCells (v : Value) (xs : List CellD) (w : World) (hs : RdL rCell w v xs) (hl : xs.length ≤ 1048576) :
  Calls Tryz.prog 33 #[v] w fun e w' => ∃ v', e = .returned v' ∧ OwnL rCell 53 w' w.heap.size v' xs ∧ Below w.heap.size w w' := by
 obtain ⟨ao, cap, rfl, hc1, hc2, hnil, hne⟩ := hs.shape
 have HS := Lib.hid hs
 clear hs hne
 have qT : ∀ (w : World) (a : Option Addr) (n c n' c' : Nat), (binOp .eql 26 (.slice a n c) (.slice none n' c')).run Tryz.prog w = .ok (.bool a.isNone) w := fun w a n c n' c' => Lib.run_eql_slice_nil w _ _ a n c n' c' Tryz.underlying26
 cases ao with
 | none =>
  obtain ⟨rfl, rfl⟩ := hnil rfl
  go_enter Tryz.func33, Tryz.ntmps33
  go_wp2
  go_ret
  exact ⟨_, rfl, OwnL.nil rCell _ _ _, (by repeat (first | with_reducible exact Below.refl _ _ | with_reducible apply Below.ofExt | with_reducible apply Below.ofAlloc | with_reducible apply Below.drew | with_reducible apply Below.ofDrewN | with_reducible assumption | (with_reducible refine Below.setCell ?_ (by first | exact Nat.le_refl _ | (simp [go_sem]; done) | (simp [go_sem]; omega)) _)))⟩
 | some a =>
  clear hnil
  go_enter Tryz.func33, Tryz.ntmps33
  go_wp2_with (at_builtin; refine Stop.here ?_)
  refine wpList_appL rfl _ _ _ rfl (R := rCell) (e := 53) Tryz.elemCellS (B := w.heap.size) (OwnL.empty rCell _ w) rfl (HS.out.alloc _) rfl (by simp only [List.length_nil]; omega) (by simp only [List.length_nil]; unfold maxLen; omega) (by simp) ?_
  intro v4 w4 hown4 hgr4 _
  have hb4 : Below w.heap.size w w4 := Below.appL (a := w) (R := rCell) (e := 53) (by repeat (first | with_reducible exact Below.refl _ _ | with_reducible apply Below.ofAlloc)) hgr4 (OwnL.empty rCell _ w)
  go_wp2
  go_ret
  exact ⟨_, rfl, hown4, hb4⟩
theorem any_take_step {α : Type} (p : α → Bool) (xs : List α) (n : Nat) (h : n < xs.length) : (xs.take (n + 1)).any p = ((xs.take n).any p || p xs[n]) := by
 simp only [List.take_succ_eq_append_getElem h, List.any_append, List.any_cons, List.any_nil, Bool.or_false]
theorem any_take_true {α : Type} (p : α → Bool) (xs : List α) (n : Nat) (h : (xs.take n).any p = true) : xs.any p = true := by
 rw [List.any_eq_true] at h ⊢
 obtain ⟨x, hx, hp⟩ := h
 exact ⟨x, List.mem_of_mem_take hx, hp⟩
def firstIdx {α : Type} (p : α → Bool) (ds : List α) : Int := if ds.any p then ds.findIdx p else -1
theorem firstIdx_none {α : Type} (p : α → Bool) (ds : List α) (h : ds.any p = false) : firstIdx p ds = -1 := by unfold firstIdx; rw [h]; rfl
theorem firstIdx_found {α : Type} (p : α → Bool) (ds : List α) (n : Nat) (hn : n < ds.length) (h : (ds.take n).any p = false) (h2 : p ds[n] = true) : firstIdx p ds = n := by
 have ha : ds.any p = true := any_take_true p ds (n + 1) (by rw [any_take_step p ds n hn, h2, Bool.or_true])
 unfold firstIdx
 rw [if_pos ha]
 congr 1
 rw [List.findIdx_eq hn]
 refine ⟨h2, fun j hj => ?_⟩
 cases hp : p ds[j] with
 | false => rfl
 | true =>
  rw [List.any_eq_false] at h
  exact absurd hp (h _ (by rw [List.mem_take_iff_getElem]; exact ⟨j, by omega, rfl⟩))
theorem impl_put1 (c : CellD) (key : ByteArray) (b : Nat) (w : World) (hb : b < w.heap.size) (hc : w.cell? ⟨b, 0, none⟩ = some (.string key)) :
  Calls Tryz.prog 170 #[.agg #[.string c.key, .string c.val], .pointer (some ⟨b, 0, none⟩)] w fun e w' => e = .returned (.bool (isKey key c)) ∧ Below w.heap.size w w' := by
 have h : isKey key c = (c.key.toList == key.toList) := rfl
 rw [h]
 clear h
 go_enter Tryz.func170, Tryz.ntmps170
 go_wp2
 go_ret
 exact ⟨rfl, (by repeat (first | with_reducible exact Below.refl _ _ | with_reducible apply Below.ofAlloc))⟩
theorem impl_put2 (c : CellD) (key : ByteArray) (b : Nat) (w : World) (hb : b < w.heap.size) (hc : w.cell? ⟨b, 0, none⟩ = some (.string key)) :
  Calls Tryz.prog 172 #[.agg #[.string c.key, .string c.val], .pointer (some ⟨b, 0, none⟩)] w fun e w' => e = .returned (.bool (gtKey key c)) ∧ Below w.heap.size w w' := by
 cases hg : gtKey key c with
 | true =>
  have hik := gtKey_not hg
  have hle := less_gt hg
  have hke : (c.key.toList == key.toList) = false := hik
  have hge : Op.bytesLess key.toList c.key.toList = true := hg
  go_enter Tryz.func172, Tryz.ntmps172
  go_wp2
  go_ret
  exact ⟨rfl, (by repeat (first | with_reducible exact Below.refl _ _ | with_reducible apply Below.ofExt | with_reducible apply Below.ofAlloc | with_reducible apply Below.drew | with_reducible apply Below.ofDrewN | with_reducible assumption | (with_reducible refine Below.setCell ?_ (by first | exact Nat.le_refl _ | (simp [go_sem]; done) | (simp [go_sem]; omega)) _)))⟩
 | false =>
  have hge : Op.bytesLess key.toList c.key.toList = false := hg
  cases hik : isKey key c with
  | true =>
   have hle := less_same hik
   have hke : (c.key.toList == key.toList) = true := hik
   go_enter Tryz.func172, Tryz.ntmps172
   go_wp2
   go_ret
   exact ⟨rfl, (by repeat (first | with_reducible exact Below.refl _ _ | with_reducible apply Below.ofExt | with_reducible apply Below.ofAlloc | with_reducible apply Below.drew | with_reducible apply Below.ofDrewN | with_reducible assumption | (with_reducible refine Below.setCell ?_ (by first | exact Nat.le_refl _ | (simp [go_sem]; done) | (simp [go_sem]; omega)) _)))⟩
  | false =>
   have hle := less_other hg hik
   have hke : (c.key.toList == key.toList) = false := hik
   go_enter Tryz.func172, Tryz.ntmps172
   go_wp2
   go_ret
   exact ⟨rfl, (by repeat (first | with_reducible exact Below.refl _ _ | with_reducible apply Below.ofAlloc))⟩
theorem cells_IndexFunc1 (v : Value) (ds : List CellD) (key : ByteArray) (b0 : Nat) (w : World) (hs : RdL rCell w v ds) (hb0 : b0 < w.heap.size) (hc0 : w.cell? ⟨b0, 0, none⟩ = some (.string key)) :
  Calls Tryz.prog 171 #[v, .func (Fn.func 170) #[] #[.pointer (some ⟨b0, 0, none⟩)]] w fun e w' => e = .returned (.int .i64 (firstIdx (isKey key) ds)) ∧ Below w.heap.size w w' := by
 obtain ⟨ao, cap, rfl, hc1, hc2, hnil, hne⟩ := hs.shape
 have HX := Lib.hid hne
 have HC := Lib.hid hc0
 clear hs hne hnil hc0
 unfold maxLen at hc2
 go_enter Tryz.func171, Tryz.ntmps171
 go_wp2
 go_loopw [8] (fun k wr => ∃ (n : Nat), k = .int .i64 n ∧ n ≤ ds.length ∧ Below w.heap.size w wr ∧ (ds.take n).any (isKey key) = false) (fun k _ => ds.length - (intOf k).toNat)
 case atStart => exact ⟨0, rfl, by omega, (by repeat (with_reducible exact Below.refl _ _)), rfl⟩
 case round =>
  obtain ⟨n, rfl, hn, hbel, hany⟩ := hrel
  obtain ⟨X, rfl⟩ := hbel.ext
  have HA := Lib.hid hany
  clear hany
  by_cases hlt : (n : Int) < ds.length
  ·have hk : n < ds.length := by omega
   obtain ⟨b, off, rfl, hbl, hcell⟩ := HX.out (by intro e; simp [e] at hk)
   have hc := hcell n hk
   have hst := any_take_step (isKey key) ds n hk
   have hff : (ds.take n).any (isKey key) = false → isKey key ds[n] = true → firstIdx (isKey key) ds = n := fun h h2 => firstIdx_found (isKey key) ds n hk h h2
   generalize ds[n] = d at hc hst hff
   have y0 : w.cell? ⟨b, off + n * 2, none⟩ = some (.string d.key) := hc 0 _ rfl
   have y1 : w.cell? ⟨b, off + n * 2 + 1, none⟩ = some (.string d.val) := hc 1 _ rfl
   clear hc hcell
   have hbl := hbl (by decide)
   have HT := Lib.hid hst
   have HF := Lib.hid hff
   clear hst hff
   cases hm : isKey key d with
   | true =>
    have HM := Lib.hid hm
    clear hm
    go_wp2_with fail
    (go_at_call 170; refine (impl_put1 d key b0 _ (by simp [go_sem]; try omega) (by repeat (first | exact HC.out | refine Grew.cell (Grew.ext _ _) ?_))).mono ?_; rintro e w' ⟨rfl, hb⟩; obtain ⟨X, rfl⟩ := hb.ext; clear hb)
    rw [HM.out]
    go_wp2
    go_ret
    exact ⟨by rw [HF.out HA.out HM.out]; rfl, (by repeat (first | with_reducible exact Below.refl _ _ | with_reducible apply Below.ofExt | with_reducible apply Below.ofAlloc | with_reducible apply Below.drew | with_reducible apply Below.ofDrewN | with_reducible assumption | (with_reducible refine Below.setCell ?_ (by first | exact Nat.le_refl _ | (simp [go_sem]; done) | (simp [go_sem]; omega)) _)))⟩
   | false =>
    have HM := Lib.hid hm
    clear hm
    go_wp2_with fail
    (go_at_call 170; refine (impl_put1 d key b0 _ (by simp [go_sem]; try omega) (by repeat (first | exact HC.out | refine Grew.cell (Grew.ext _ _) ?_))).mono ?_; rintro e w' ⟨rfl, hb⟩; obtain ⟨X, rfl⟩ := hb.ext; clear hb)
    rw [HM.out]
    go_wp2
    go_roundw
    case rel => exact ⟨n + 1, by go_num, by omega, (by repeat (first | with_reducible exact Below.refl _ _ | with_reducible apply Below.ofExt)), by rw [HT.out, HA.out, HM.out]; rfl⟩
    case measure => simp [intOf]; omega
  ·go_wp2
   go_ret
   have e : n = ds.length := by omega
   subst e
   have ha := HA.out
   rw [List.take_length] at ha
   exact ⟨by rw [firstIdx_none (isKey key) ds ha]; rfl, (by repeat (first | with_reducible exact Below.refl _ _ | with_reducible apply Below.ofExt))⟩
theorem cells_IndexFunc2 (v : Value) (ds : List CellD) (key : ByteArray) (b0 : Nat) (w : World) (hs : RdL rCell w v ds) (hb0 : b0 < w.heap.size) (hc0 : w.cell? ⟨b0, 0, none⟩ = some (.string key)) :
  Calls Tryz.prog 171 #[v, .func (Fn.func 172) #[] #[.pointer (some ⟨b0, 0, none⟩)]] w fun e w' => e = .returned (.int .i64 (firstIdx (gtKey key) ds)) ∧ Below w.heap.size w w' := by
 obtain ⟨ao, cap, rfl, hc1, hc2, hnil, hne⟩ := hs.shape
 have HX := Lib.hid hne
 have HC := Lib.hid hc0
 clear hs hne hnil hc0
 unfold maxLen at hc2
 go_enter Tryz.func171, Tryz.ntmps171
 go_wp2
 go_loopw [8] (fun k wr => ∃ (n : Nat), k = .int .i64 n ∧ n ≤ ds.length ∧ Below w.heap.size w wr ∧ (ds.take n).any (gtKey key) = false) (fun k _ => ds.length - (intOf k).toNat)
 case atStart => exact ⟨0, rfl, by omega, (by repeat (with_reducible exact Below.refl _ _)), rfl⟩
 case round =>
  obtain ⟨n, rfl, hn, hbel, hany⟩ := hrel
  obtain ⟨X, rfl⟩ := hbel.ext
  have HA := Lib.hid hany
  clear hany
  by_cases hlt : (n : Int) < ds.length
  ·have hk : n < ds.length := by omega
   obtain ⟨b, off, rfl, hbl, hcell⟩ := HX.out (by intro e; simp [e] at hk)
   have hc := hcell n hk
   have hst := any_take_step (gtKey key) ds n hk
   have hff : (ds.take n).any (gtKey key) = false → gtKey key ds[n] = true → firstIdx (gtKey key) ds = n := fun h h2 => firstIdx_found (gtKey key) ds n hk h h2
   generalize ds[n] = d at hc hst hff
   have y0 : w.cell? ⟨b, off + n * 2, none⟩ = some (.string d.key) := hc 0 _ rfl
   have y1 : w.cell? ⟨b, off + n * 2 + 1, none⟩ = some (.string d.val) := hc 1 _ rfl
   clear hc hcell
   have hbl := hbl (by decide)
   have HT := Lib.hid hst
   have HF := Lib.hid hff
   clear hst hff
   cases hm : gtKey key d with
   | true =>
    have HM := Lib.hid hm
    clear hm
    go_wp2_with fail
    (go_at_call 172; refine (impl_put2 d key b0 _ (by simp [go_sem]; try omega) (by repeat (first | exact HC.out | refine Grew.cell (Grew.ext _ _) ?_))).mono ?_; rintro e w' ⟨rfl, hb⟩; obtain ⟨X, rfl⟩ := hb.ext; clear hb)
    rw [HM.out]
    go_wp2
    go_ret
    exact ⟨by rw [HF.out HA.out HM.out]; rfl, (by repeat (first | with_reducible exact Below.refl _ _ | with_reducible apply Below.ofExt | with_reducible apply Below.ofAlloc | with_reducible apply Below.drew | with_reducible apply Below.ofDrewN | with_reducible assumption | (with_reducible refine Below.setCell ?_ (by first | exact Nat.le_refl _ | (simp [go_sem]; done) | (simp [go_sem]; omega)) _)))⟩
   | false =>
    have HM := Lib.hid hm
    clear hm
    go_wp2_with fail
    (go_at_call 172; refine (impl_put2 d key b0 _ (by simp [go_sem]; try omega) (by repeat (first | exact HC.out | refine Grew.cell (Grew.ext _ _) ?_))).mono ?_; rintro e w' ⟨rfl, hb⟩; obtain ⟨X, rfl⟩ := hb.ext; clear hb)
    rw [HM.out]
    go_wp2
    go_roundw
    case rel => exact ⟨n + 1, by go_num, by omega, (by repeat (first | with_reducible exact Below.refl _ _ | with_reducible apply Below.ofExt)), by rw [HT.out, HA.out, HM.out]; rfl⟩
    case measure => simp [intOf]; omega
  ·go_wp2
   go_ret
   have e : n = ds.length := by omega
   subst e
   have ha := HA.out
   rw [List.take_length] at ha
   exact ⟨by rw [firstIdx_none (gtKey key) ds ha]; rfl, (by repeat (first | with_reducible exact Below.refl _ _ | with_reducible apply Below.ofExt))⟩
theorem any_first' {α : Type} (p : α → Bool) : ∀ xs : List α, xs.any p = true → ∃ n, ∃ h : n < xs.length, (xs.take n).any p = false ∧ p xs[n] = true
 | [], h => by cases h
 | x :: xs, h => by
  cases hp : p x with
  | true => exact ⟨0, by simp, rfl, hp⟩
  | false =>
   rw [List.any_cons, hp, Bool.false_or] at h
   obtain ⟨n, hn, h1, h2⟩ := any_first' p xs h
   exact ⟨n + 1, by simpa using hn, by rw [List.take_succ_cons, List.any_cons, hp, h1]; rfl, by simpa using h2⟩
def getC (key : ByteArray) (xs : List CellD) : ByteArray := match xs.find? (isKey key) with
 | some c => c.val
 | none => ⟨#[]⟩
theorem getC_none (key : ByteArray) (xs : List CellD) (h : xs.any (isKey key) = false) : getC key xs = ⟨#[]⟩ := by
 unfold getC
 rw [List.find?_eq_none.2 (fun x hx => by rw [List.any_eq_false] at h; exact h x hx)]
theorem getC_at (key : ByteArray) (xs : List CellD) (n : Nat) (hn : n < xs.length) (h : (xs.take n).any (isKey key) = false) (h2 : isKey key xs[n] = true) : getC key xs = xs[n].val := by
 unfold getC
 have e : xs = xs.take n ++ xs[n] :: xs.drop (n + 1) := by rw [← List.drop_eq_getElem_cons hn, List.take_append_drop]
 have hf : xs.find? (isKey key) = some xs[n] := by
  conv => lhs; rw [e]
  rw [List.find?_append, List.find?_eq_none.2 (fun x hx => by rw [List.any_eq_false] at h; exact h x hx), List.find?_cons_of_pos h2]
  rfl
 rw [hf]
theorem impl_cellAt1 (c : CellD) (key : ByteArray) (b : Nat) (w : World) (hb : b < w.heap.size) (hc : w.cell? ⟨b, 0, none⟩ = some (.string key)) :
  Calls Tryz.prog 193 #[.agg #[.string c.key, .string c.val], .pointer (some ⟨b, 0, none⟩)] w fun e w' => e = .returned (.bool (isKey key c)) ∧ Below w.heap.size w w' := by
 have h : isKey key c = (c.key.toList == key.toList) := rfl
 rw [h]
 clear h
 go_enter Tryz.func193, Tryz.ntmps193
 go_wp2
 go_ret
 exact ⟨rfl, (by repeat (first | with_reducible exact Below.refl _ _ | with_reducible apply Below.ofAlloc))⟩
theorem cells_IndexFunc3 (v : Value) (ds : List CellD) (key : ByteArray) (b0 : Nat) (w : World) (hs : RdL rCell w v ds) (hb0 : b0 < w.heap.size) (hc0 : w.cell? ⟨b0, 0, none⟩ = some (.string key)) :
  Calls Tryz.prog 171 #[v, .func (Fn.func 193) #[] #[.pointer (some ⟨b0, 0, none⟩)]] w fun e w' => e = .returned (.int .i64 (firstIdx (isKey key) ds)) ∧ Below w.heap.size w w' := by
 obtain ⟨ao, cap, rfl, hc1, hc2, hnil, hne⟩ := hs.shape
 have HX := Lib.hid hne
 have HC := Lib.hid hc0
 clear hs hne hnil hc0
 unfold maxLen at hc2
 go_enter Tryz.func171, Tryz.ntmps171
 go_wp2
 go_loopw [8] (fun k wr => ∃ (n : Nat), k = .int .i64 n ∧ n ≤ ds.length ∧ Below w.heap.size w wr ∧ (ds.take n).any (isKey key) = false) (fun k _ => ds.length - (intOf k).toNat)
 case atStart => exact ⟨0, rfl, by omega, (by repeat (with_reducible exact Below.refl _ _)), rfl⟩
 case round =>
  obtain ⟨n, rfl, hn, hbel, hany⟩ := hrel
  obtain ⟨X, rfl⟩ := hbel.ext
  have HA := Lib.hid hany
  clear hany
  by_cases hlt : (n : Int) < ds.length
  ·have hk : n < ds.length := by omega
   obtain ⟨b, off, rfl, hbl, hcell⟩ := HX.out (by intro e; simp [e] at hk)
   have hc := hcell n hk
   have hst := any_take_step (isKey key) ds n hk
   have hff : (ds.take n).any (isKey key) = false → isKey key ds[n] = true → firstIdx (isKey key) ds = n := fun h h2 => firstIdx_found (isKey key) ds n hk h h2
   generalize ds[n] = d at hc hst hff
   have y0 : w.cell? ⟨b, off + n * 2, none⟩ = some (.string d.key) := hc 0 _ rfl
   have y1 : w.cell? ⟨b, off + n * 2 + 1, none⟩ = some (.string d.val) := hc 1 _ rfl
   clear hc hcell
   have hbl := hbl (by decide)
   have HT := Lib.hid hst
   have HF := Lib.hid hff
   clear hst hff
   cases hm : isKey key d with
   | true =>
    have HM := Lib.hid hm
    clear hm
    go_wp2_with fail
    (go_at_call 193; refine (impl_cellAt1 d key b0 _ (by simp [go_sem]; try omega) (by repeat (first | exact HC.out | refine Grew.cell (Grew.ext _ _) ?_))).mono ?_; rintro e w' ⟨rfl, hb⟩; obtain ⟨X, rfl⟩ := hb.ext; clear hb)
    rw [HM.out]
    go_wp2
    go_ret
    exact ⟨by rw [HF.out HA.out HM.out]; rfl, (by repeat (first | with_reducible exact Below.refl _ _ | with_reducible apply Below.ofExt | with_reducible apply Below.ofAlloc | with_reducible apply Below.drew | with_reducible apply Below.ofDrewN | with_reducible assumption | (with_reducible refine Below.setCell ?_ (by first | exact Nat.le_refl _ | (simp [go_sem]; done) | (simp [go_sem]; omega)) _)))⟩
   | false =>
    have HM := Lib.hid hm
    clear hm
    go_wp2_with fail
    (go_at_call 193; refine (impl_cellAt1 d key b0 _ (by simp [go_sem]; try omega) (by repeat (first | exact HC.out | refine Grew.cell (Grew.ext _ _) ?_))).mono ?_; rintro e w' ⟨rfl, hb⟩; obtain ⟨X, rfl⟩ := hb.ext; clear hb)
    rw [HM.out]
    go_wp2
    go_roundw
    case rel => exact ⟨n + 1, by go_num, by omega, (by repeat (first | with_reducible exact Below.refl _ _ | with_reducible apply Below.ofExt)), by rw [HT.out, HA.out, HM.out]; rfl⟩
    case measure => simp [intOf]; omega
  ·go_wp2
   go_ret
   have e : n = ds.length := by omega
   subst e
   have ha := HA.out
   rw [List.take_length] at ha
   exact ⟨by rw [firstIdx_none (isKey key) ds ha]; rfl, (by repeat (first | with_reducible exact Below.refl _ _ | with_reducible apply Below.ofExt))⟩
theorem impl_cellAt (v : Value) (ds : List CellD) (key : ByteArray) (w : World) (hs : RdL rCell w v ds) :
  Calls Tryz.prog 178 #[v, .string key] w fun e w' => e = .returned (.int .i64 (firstIdx (isKey key) ds)) ∧ Below w.heap.size w w' := by
 obtain ⟨ao, cap, rfl⟩ := hs.form
 have HS := Lib.hid hs
 clear hs
 go_enter Tryz.func178, Tryz.ntmps178
 go_wp2_with fail
 (go_at_call 171; refine (cells_IndexFunc3 _ ds key w.heap.size _ (HS.out.alloc _) (by simp) (by simp [go_sem])).mono ?_; rintro e w' ⟨rfl, hb⟩; obtain ⟨X, rfl⟩ := hb.ext; clear hb)
 go_wp2
 go_ret
 exact ⟨rfl, (by repeat (first | with_reducible exact Below.refl _ _ | with_reducible apply Below.ofExt | with_reducible apply Below.ofAlloc))⟩
theorem impl_GetKey (v : Value) (ds : List CellD) (key : ByteArray) (w : World) (hs : RdL rCell w v ds) :
  Calls Tryz.prog 150 #[v, .string key] w fun e w' => e = .returned (.string (getC key ds)) ∧ Below w.heap.size w w' := by
 obtain ⟨ao, cap, rfl, hc1, hc2, hnil, hne⟩ := hs.shape
 have HS := Lib.hid hs
 have HX := Lib.hid hne
 unfold maxLen at hc2
 clear hs hne hnil
 cases hany : ds.any (isKey key) with
 | false =>
  have HI : Hid (firstIdx (isKey key) ds = -1) := firstIdx_none _ _ hany
  have HG : Hid (getC key ds = ⟨#[]⟩) := getC_none key ds hany
  clear hany
  go_enter Tryz.func150, Tryz.ntmps150
  go_wp2_with fail
  (go_at_call 178; refine (impl_cellAt _ ds key _ HS.out).mono ?_; rintro e w' ⟨rfl, hb⟩; obtain ⟨X, rfl⟩ := hb.ext; clear hb)
  rw [HI.out]
  go_wp2
  go_ret
  exact ⟨by rw [HG.out]; rfl, (by repeat (first | with_reducible exact Below.refl _ _ | with_reducible apply Below.ofExt | with_reducible apply Below.ofAlloc | with_reducible apply Below.drew | with_reducible apply Below.ofDrewN | with_reducible assumption | (with_reducible refine Below.setCell ?_ (by first | exact Nat.le_refl _ | (simp [go_sem]; done) | (simp [go_sem]; omega)) _)))⟩
 | true =>
  obtain ⟨n, hn, hbef, hat⟩ := any_first' _ _ hany
  have HI : Hid (firstIdx (isKey key) ds = n) := firstIdx_found _ _ n hn hbef hat
  have hg := getC_at key ds n hn hbef hat
  obtain ⟨b, off, rfl, hbl, hcell⟩ := HX.out (by intro e; simp [e] at hn)
  have hc := hcell n hn
  clear hany hbef hat hcell
  generalize ds[n] = d at hc hg
  have HG := Lib.hid hg
  have y1 : w.cell? ⟨b, off + n * 2 + 1, none⟩ = some (.string d.val) := hc 1 _ rfl
  have hbl := hbl (by decide)
  clear hg hc
  go_enter Tryz.func150, Tryz.ntmps150
  go_wp2_with fail
  (go_at_call 178; refine (impl_cellAt _ ds key _ HS.out).mono ?_; rintro e w' ⟨rfl, hb⟩; obtain ⟨X, rfl⟩ := hb.ext; clear hb)
  rw [HI.out]
  go_wp2
  go_ret
  exact ⟨by rw [HG.out]; rfl, (by repeat (first | with_reducible exact Below.refl _ _ | with_reducible apply Below.ofExt))⟩
theorem spec_GetKey (v : Value) (ds : List CellD) (key : ByteArray) (w : World) (hs : RdL rCell w v ds) :
  Calls Tryz.prog 161 #[v, .string key] w fun e w' => e = .returned (.string (getC key ds)) ∧ Below w.heap.size w w' := by
 obtain ⟨ao, cap, rfl, hc1, hc2, hnil, hne⟩ := hs.shape
 have HX := Lib.hid hne
 unfold maxLen at hc2
 clear hs hne hnil
 go_enter Tryz.func161, Tryz.ntmps161
 go_wp2
 go_loopw [5] (fun k wr => ∃ (n : Nat), k = .int .i64 n ∧ n ≤ ds.length ∧ Below w.heap.size w wr ∧ (ds.take n).any (isKey key) = false) (fun k _ => ds.length - (intOf k).toNat)
 case atStart => exact ⟨0, rfl, by omega, (by repeat (with_reducible exact Below.refl _ _)), rfl⟩
 case round =>
  obtain ⟨n, rfl, hn, hbel, hany⟩ := hrel
  obtain ⟨X, rfl⟩ := hbel.ext
  by_cases hlt : (n : Int) < ds.length
  case pos =>
   have hk : n < ds.length := by omega
   have hst := any_take_step (isKey key) ds n hk
   have hgt := fun h => getC_at key ds n hk hany h
   obtain ⟨b, off, rfl, hbl, hcell⟩ := HX.out (by intro e; simp [e] at hk)
   have hc := hcell n hk
   clear hcell
   generalize ds[n] = d at hc hst hgt
   have HA := Lib.hid hany
   have HT := Lib.hid hst
   have HG := Lib.hid hgt
   have y0 : w.cell? ⟨b, off + n * 2, none⟩ = some (.string d.key) := hc 0 _ rfl
   have y1 : w.cell? ⟨b, off + n * 2 + 1, none⟩ = some (.string d.val) := hc 1 _ rfl
   have hbl := hbl (by decide)
   clear hst hgt hany hc
   cases hik : isKey key d with
   | true =>
    have hke : (d.key.toList == key.toList) = true := hik
    go_wp2
    go_ret
    exact ⟨by rw [HG.out hik]; rfl, (by repeat (first | with_reducible exact Below.refl _ _ | with_reducible apply Below.ofExt | with_reducible apply Below.ofAlloc | with_reducible apply Below.drew | with_reducible apply Below.ofDrewN | with_reducible assumption | (with_reducible refine Below.setCell ?_ (by first | exact Nat.le_refl _ | (simp [go_sem]; done) | (simp [go_sem]; omega)) _)))⟩
   | false =>
    have hke : (d.key.toList == key.toList) = false := hik
    go_wp2
    go_roundw
    case rel => exact ⟨n + 1, by go_num, by omega, (by repeat (first | with_reducible exact Below.refl _ _ | with_reducible apply Below.ofExt)), by rw [HT.out, HA.out, hik]; rfl⟩
    case measure => simp [intOf]; omega
  case neg =>
   have e : n = ds.length := by omega
   rw [e, List.take_length] at hany
   have HG : Hid (getC key ds = ⟨#[]⟩) := getC_none key ds hany
   clear hany
   go_wp2
   go_ret
   exact ⟨by rw [HG.out]; rfl, (by repeat (first | with_reducible exact Below.refl _ _ | with_reducible apply Below.ofExt))⟩
def ltS (a b : ByteArray) : Bool := Op.bytesLess a.toList b.toList
def putAt (xs : List ByteArray) (x : ByteArray) : Nat := (xs.takeWhile (ltS · x)).length
def putS (xs : List ByteArray) (x : ByteArray) : List ByteArray := if xs[putAt xs x]? = some x then xs else xs.take (putAt xs x) ++ x :: xs.drop (putAt xs x)
theorem Tryz.elemStrs : Elem Tryz.prog 48 9 1 16 := Elem.of (.string ⟨#[]⟩) Tryz.underlying48 (by kernel_rfl) rfl (by decide)
theorem takeWhile_le {α : Type} (p : α → Bool) (l : List α) : (l.takeWhile p).length ≤ l.length := by
 induction l with
 | nil => simp
 | cons a l ih => simp only [List.takeWhile_cons]; split <;> simp <;> omega
theorem putAt_lt {xs : List ByteArray} {x : ByteArray} {k : Nat} (hk : k < putAt xs x) (h : k < xs.length) : ltS xs[k] x = true := by
 have h1 : (xs.takeWhile (ltS · x))[k]'hk = xs[k] := by
  have := List.takeWhile_prefix (ltS · x) (l := xs)
  exact List.IsPrefix.getElem this hk
 have h2 : ∀ (l : List ByteArray) (k : Nat) (h : k < (l.takeWhile (ltS · x)).length), ltS (l.takeWhile (ltS · x))[k] x = true := by
  intro l
  induction l with
  | nil => intro k h; simp at h
  | cons a l ih =>
   intro k h
   simp only [List.takeWhile_cons] at h ⊢
   split at h
   ·rename_i ha
    simp only [ha, if_true]
    cases k with
    | zero => exact ha
    | succ k => exact ih k (by simpa using h)
   ·simp at h
 have h3 := h2 xs k hk
 rw [h1] at h3
 exact h3
theorem putAt_ge {xs : List ByteArray} {x : ByteArray} (h : putAt xs x < xs.length) : ltS xs[putAt xs x] x = false := by
 have h2 : ∀ (l : List ByteArray) (h : (l.takeWhile (ltS · x)).length < l.length), ltS l[(l.takeWhile (ltS · x)).length] x = false := by
  intro l
  induction l with
  | nil => intro h; simp at h
  | cons a l ih =>
   intro h
   by_cases ha : ltS a x = true
   ·simp only [List.takeWhile_cons, ha, if_true, List.length_cons] at h ⊢
    simpa using ih (by simpa using h)
   ·have ha' : ltS a x = false := by simpa using ha
    simp only [List.takeWhile_cons, ha', Bool.false_eq_true, if_false, List.length_nil]
    exact ha'
 exact h2 xs h
theorem rd_cast {α : Type} {R : RowOf α} {w : World} {v : Value} {xs ys : List α} (h : RdL R w v xs) (e : ys = xs) : RdL R w v ys := by rw [e]; exact h
theorem spec_l02Put (v : Value) (xs : List ByteArray) (x : ByteArray) (w : World) (hs : RdL rStr w v xs) (hl : xs.length ≤ 1099511627776) :
  Calls Tryz.prog 83 #[v, .string x] w fun e w' => ∃ v', e = .returned v' ∧ RdL rStr w' v' (putS xs x) ∧ Below w.heap.size w w' := by
 obtain ⟨ao, cap, rfl, hc1, hc2, hnil, hcell⟩ := hs.shapeS
 have HN := Lib.hid hnil
 have HC := Lib.hid hcell
 have HS := Lib.hid hs
 clear hnil hcell hs
 have HM : Hid (cap ≤ maxLen) := hc2
 unfold maxLen at hc2
 have hp : putAt xs x ≤ xs.length := takeWhile_le (ltS · x) xs
 have hp0 : xs = [] → putAt xs x = 0 := fun e => by have h := hp; rw [e] at h; simpa [e] using h
 have HP0 := Lib.hid hp0
 clear hp0
 go_enter Tryz.func83, Tryz.ntmps83
 go_wp2
 go_loop [5] (fun i => ∃ k : Nat, k ≤ putAt xs x ∧ i = .int .i64 k) (fun i => xs.length - (intOf i).toNat)
 case atStart => exact ⟨0, Nat.zero_le _, rfl⟩
 case round =>
  obtain ⟨k, hk, rfl⟩ := hrel
  by_cases hlt : k < putAt xs x
  ·obtain ⟨b, off, rfl, hbl, hcell⟩ := HC.out (fun e => by have h1 := HP0.out e; omega)
   have hkl : k < xs.length := by omega
   have hcc := hcell k hkl
   have hless : Op.bytesLess xs[k].toList x.toList = true := putAt_lt hlt hkl
   clear hcell
   go_wp2
   go_round
   case rel => exact ⟨k + 1, by omega, by go_num⟩
   case measure => simp [intOf]; omega
  ·obtain rfl : k = putAt xs x := by omega
   by_cases hin : putAt xs x < xs.length
   ·obtain ⟨b, off, rfl, hbl, hcell⟩ := HC.out (by intro e; simp [e] at hin)
    have hcc := hcell _ hin
    have hless : Op.bytesLess xs[putAt xs x].toList x.toList = false := putAt_ge hin
    by_cases heq : xs[putAt xs x] = x
    ·have heq' : (xs[putAt xs x].toList == x.toList) = true := by rw [heq]; simp
     have H : Hid (putS xs x = xs) := by show putS xs x = xs; simp [putS, heq, hin]
     clear heq hcell
     go_wp2
     go_ret
     exact ⟨_, rfl, rd_cast HS.out H.out, Below.refl _ _⟩
    ·have heq' : (xs[putAt xs x].toList == x.toList) = false := by rw [beq_str]; simpa using heq
     have H : Hid (putS xs x = xs.take (putAt xs x) ++ x :: xs.drop (putAt xs x)) := by show putS xs x = _; simp [putS, heq, hin]
     clear heq hcell
     have S1 := RdL.upto HS.out (putAt xs x) cap hp (by omega) HM.out
     have S3 := RdL.cut1 rfl HS.out (putAt xs x) xs.length (cap - putAt xs x) (Nat.le_refl _) (by omega) (by have := HM.out; omega)
     have hlk : (xs.take (putAt xs x)).length = putAt xs x := by simp; omega
     have hld : ((xs.drop (putAt xs x)).take (xs.length - putAt xs x)).length = xs.length - putAt xs x := by simp
     have HP := Lib.hid hlk
     have HQ := Lib.hid hld
     clear hlk hld
     generalize putAt xs x = k at *
     go_wp2_with (at_builtin; refine Stop.here ?_)
     refine wpList_appL rfl _ _ _ rfl Tryz.elemStrs (OwnL.empty rStr _ w) rfl (S1.alloc _) rfl (by rw [HP.out]; simp; omega) (by rw [HP.out]; unfold maxLen; simp; omega) (by simp) ?_
     intro v1 w1 hown1 hg1 _
     have hb1 : Below w.heap.size w w1 := Below.appL (by repeat (first | with_reducible exact Below.refl _ _ | with_reducible apply Below.ofAlloc)) hg1 (OwnL.empty rStr _ w)
     go_wp2_with (at_builtin; refine Stop.here ?_)
     refine wpList_appL rfl _ _ _ rfl Tryz.elemStrs (hown1.alloc _) rfl (RdL.one rStr w1 x _ rfl _) rfl (by simp only [List.nil_append, HP.out, List.length_singleton]; omega) (by simp only [List.nil_append, HP.out, List.length_singleton]; unfold maxLen; omega) (by have := hb1.size; simp; omega) ?_
     intro v2 w2 hown2 hg2 _
     have hb2 : Below w.heap.size w w2 := Below.appL (Below.ofAlloc hb1 _) hg2 (hown1.alloc _)
     clear hg1 hg2
     by_cases hcap : cap = k
     ·omega
     go_wp2_with (at_builtin; refine Stop.here ?_)
     refine wpList_appL rfl _ _ _ rfl Tryz.elemStrs hown2 rfl (S3.below hb2) rfl (by simp only [List.nil_append, List.length_append, HP.out, HQ.out, List.length_singleton]; omega) (by simp only [List.nil_append, List.length_append, HP.out, HQ.out, List.length_singleton]; unfold maxLen; omega) hb2.size ?_
     intro v3 w3 hown3 hg3 _
     have hb3 : Below w.heap.size w w3 := Below.appL hb2 hg3 hown2
     go_wp2
     go_ret
     refine ⟨v3, rfl, rd_cast hown3.rd ?_, hb3⟩
     rw [H.out]
     simp [List.take_of_length_le]
   ·have he : putAt xs x = xs.length := by omega
    have H : Hid (putS xs x = xs ++ [x]) := by show putS xs x = _; simp [putS, he]
    have hge : xs.length ≤ putAt xs x := by omega
    clear hin hk hlt
    have HE := Lib.hid he
    clear he
    rcases HS.out.cases with ⟨rfl, rfl, hl0, hx0⟩ | ⟨b, off, rfl, _, _, _⟩
    ·subst hx0
     have hk0 : putAt [] x = 0 := rfl
     generalize putAt [] x = k at *
     subst hk0
     go_wp2_with (at_builtin; refine Stop.here ?_)
     refine wpList_appL rfl _ _ _ rfl Tryz.elemStrs (OwnL.empty rStr _ w) rfl (RdL.nil rStr _) rfl (by simp) (by simp) (by simp) ?_
     intro v1 w1 hown1 hg1 _
     have hb1 : Below w.heap.size w w1 := Below.appL (by repeat (first | with_reducible exact Below.refl _ _ | with_reducible apply Below.ofAlloc)) hg1 (OwnL.empty rStr _ w)
     go_wp2_with (at_builtin; refine Stop.here ?_)
     refine wpList_appL rfl _ _ _ rfl Tryz.elemStrs (hown1.alloc _) rfl (RdL.one rStr w1 x _ rfl _) rfl (by simp) (by simp; decide) (by have := hb1.size; simp; omega) ?_
     intro v2 w2 hown2 hg2 _
     have hb2 : Below w.heap.size w w2 := Below.appL (Below.ofAlloc hb1 _) hg2 (hown1.alloc _)
     clear hg1 hg2
     go_wp2_with (at_builtin; refine Stop.here ?_)
     refine wpList_appL rfl _ _ _ rfl Tryz.elemStrs hown2 rfl (RdL.nil rStr _) rfl (by simp) (by simp; decide) hb2.size ?_
     intro v3 w3 hown3 hg3 _
     have hb3 : Below w.heap.size w w3 := Below.appL hb2 hg3 hown2
     go_wp2
     go_ret
     refine ⟨v3, rfl, rd_cast hown3.rd ?_, hb3⟩
     rw [H.out]
     simp
    ·have S1 := RdL.upto HS.out (putAt xs x) cap hp (by omega) HM.out
     have hlk : (xs.take (putAt xs x)).length = putAt xs x := by simp; omega
     have HP := Lib.hid hlk
     clear hlk
     generalize putAt xs x = k at *
     have hkc : k ≤ cap := by have := HE.out; omega
     go_wp2_with (at_builtin; refine Stop.here ?_)
     refine wpList_appL rfl _ _ _ rfl Tryz.elemStrs (OwnL.empty rStr _ w) rfl (S1.alloc _) rfl (by rw [HP.out]; simp; omega) (by rw [HP.out]; unfold maxLen; simp; omega) (by simp) ?_
     intro v1 w1 hown1 hg1 _
     have hb1 : Below w.heap.size w w1 := Below.appL (by repeat (first | with_reducible exact Below.refl _ _ | with_reducible apply Below.ofAlloc)) hg1 (OwnL.empty rStr _ w)
     go_wp2_with (at_builtin; refine Stop.here ?_)
     refine wpList_appL rfl _ _ _ rfl Tryz.elemStrs (hown1.alloc _) rfl (RdL.one rStr w1 x _ rfl _) rfl (by simp only [List.nil_append, HP.out, List.length_singleton]; omega) (by simp only [List.nil_append, HP.out, List.length_singleton]; unfold maxLen; omega) (by have := hb1.size; simp; omega) ?_
     intro v2 w2 hown2 hg2 _
     have hb2 : Below w.heap.size w w2 := Below.appL (Below.ofAlloc hb1 _) hg2 (hown1.alloc _)
     clear hg1 hg2
     go_wp2_with (at_builtin; refine Stop.here ?_)
     all_goals
      refine wpList_appL rfl _ _ _ rfl Tryz.elemStrs hown2 rfl (RdL.zero rStr w2 _ _ _ (by have := HM.out; omega)) rfl (by simp only [List.nil_append, List.length_append, HP.out, List.length_singleton, List.length_nil]; omega) (by simp only [List.nil_append, List.length_append, HP.out, List.length_singleton, List.length_nil]; unfold maxLen; omega) hb2.size ?_
      intro v3 w3 hown3 hg3 _
      have hb3 : Below w.heap.size w w3 := Below.appL hb2 hg3 hown2
      go_wp2
      go_ret
      refine ⟨v3, rfl, rd_cast hown3.rd ?_, hb3⟩
      rw [H.out, HE.out]
      simp
end Go.Proofs.YtieenbnmfaekiaaGreatDoor
