/- Texts of this claim, merged: the walks and what they stand on. Each condition stands in its theorem. -/
import Derived.Test.YtieenbnmfaekiaaGreatDoorSS10
set_option linter.unusedVariables false
set_option linter.unusedSimpArgs false
set_option maxRecDepth 100000
set_option maxHeartbeats 8000000
namespace Go.Proofs.YtieenbnmfaekiaaGreatDoor
open Go.ChangeShapes Go.WideShapes Go.ChangeAt Go.RowKit
structure StepD where
 proc : Int
 call : CallD
def StepD.row (d : StepD) : List Value := [.int .i64 d.proc, .int .i64 d.call.kind, .string d.call.name, .string d.call.to, .int .i64 d.call.a, .int .i64 d.call.b, .string d.call.text]
def StepD.ok (d : StepD) : Prop := d.call.name.size ≤ 9223372036854775807 ∧ d.call.to.size ≤ 9223372036854775807 ∧ d.call.text.size ≤ 9223372036854775807
def StepD.wt (d : StepD) : Nat := d.call.wt
def vStep : View StepD := vRow StepD.row 7 StepD.ok (fun _ => rfl) (fun d u hu => by simp [StepD.row] at hu; rcases hu with rfl | rfl | rfl | rfl | rfl | rfl | rfl <;> rfl)
def mkStep (k : Int) : StepD := ⟨k, ⟨k + 1, mtext (k + 1 + 1), mtext (k + 1 + 1 + 1), k + 1 + 1 + 1 + 1, k + 1 + 1 + 1 + 1 + 1, mtext (k + 1 + 1 + 1 + 1 + 1 + 1)⟩⟩
theorem mkStep_ok (k : Int) (h : k ≤ 4294967280) : (mkStep k).ok := ⟨mtext_size _ (by omega), mtext_size _ (by omega), mtext_size _ (by omega)⟩
theorem marks_ok_Step {k : Int} {n : Nat} (h : k + (7 * n : Nat) ≤ 4294967280) : ∀ d ∈ marks mkStep 7 k n, d.ok := by
 intro d hd
 obtain ⟨i, hi, rfl⟩ := marks_mem hd
 exact mkStep_ok _ (by omega)
theorem Tryz.elemStepS : Elem Tryz.prog 31 57 7 80 := Elem.of (.agg #[.int .i64 0, .int .i64 0, .string ⟨#[]⟩, .string ⟨#[]⟩, .int .i64 0, .int .i64 0, .string ⟨#[]⟩]) Tryz.underlying31 (by kernel_rfl) rfl (by decide)
theorem laws_szStep (d : StepD) (left : Int) (w : World) (hok : d.ok) (h0 : 0 ≤ left) (h1 : left ≤ 4294967296) :
  Calls Tryz.prog 19 #[.agg d.row.toArray, .int .i64 left] w fun e w' => e = .returned (.int .i64 (leftOf left d.wt)) ∧ Below w.heap.size w w' := by
 obtain ⟨f0, ⟨f1, f2, f3, f4, f5, f6⟩⟩ := d
 have hok2 : CallD.ok ⟨f1, f2, f3, f4, f5, f6⟩ := hok
 clear hok
 simp only [StepD.row, StepD.wt]
 have D := Lib.hid (fun w => laws_szCall ⟨f1, f2, f3, f4, f5, f6⟩ left w hok2 h0 h1)
 generalize CallD.wt ⟨f1, f2, f3, f4, f5, f6⟩ = wt at D ⊢
 by_cases hg : (wt : Int) ≤ left
 ·have hn : ¬ left - (wt : Int) < 0 := by omega
  have HG := Lib.hid (leftOf_pos hg)
  rw [leftOf_pos hg]
  go_enter Tryz.func19, Tryz.ntmps19
  (skip); repeat (first | go_skip | go_guarded | go_step | go_upon | go_back)
  (go_at_call 29; refine (D.out _).mono ?_; rintro e w' ⟨rfl, hb⟩; obtain ⟨X, rfl⟩ := hb.ext; clear hb)
  rw [HG.out]
  go_wp2
  go_ret
  exact ⟨rfl, (by repeat (first | with_reducible exact Below.refl _ _ | with_reducible apply Below.ofExt | with_reducible apply Below.ofAlloc))⟩
 ·have HG := Lib.hid (leftOf_none hg)
  rw [leftOf_none hg]
  go_enter Tryz.func19, Tryz.ntmps19
  (skip); repeat (first | go_skip | go_guarded | go_step | go_upon | go_back)
  (go_at_call 29; refine (D.out _).mono ?_; rintro e w' ⟨rfl, hb⟩; obtain ⟨X, rfl⟩ := hb.ext; clear hb)
  rw [HG.out]
  go_wp2
  go_ret
  exact ⟨rfl, (by repeat (first | with_reducible exact Below.refl _ _ | with_reducible apply Below.ofExt | with_reducible apply Below.ofAlloc))⟩
theorem laws_szStepS (v : Value) (ds : List StepD) (left : Int) (w : World) {e : TypeId} (hs : (vSlice vStep e).rd w [v] ds) (h0 : 0 ≤ left) (h1 : left ≤ 4294967296) :
  Calls Tryz.prog 5 #[v, .int .i64 left] w fun e w' => e = .returned (.int .i64 (leftOf left (wtS StepD.wt ds))) ∧ Below w.heap.size w w' := by
 obtain ⟨ao, cap, rfl, hc1, hc2, hnil, hcell⟩ := vSlice.shape hs
 have HX := Lib.hid hcell
 clear hcell hs hnil
 unfold maxLen at hc2
 have hsub : wrap64 (left - ds.length) = left - ds.length := IntWalk.wrap64_in _ (by omega)
 by_cases hl : left - ds.length < 0
 ·rw [leftOf_none (by unfold wtS; omega)]
  go_enter Tryz.func5, Tryz.ntmps5
  go_wp2
  go_ret
  exact ⟨rfl, (by repeat (with_reducible exact Below.refl _ _))⟩
 ·go_enter Tryz.func5, Tryz.ntmps5
  go_wp2
  go_loopw [1, 5] (fun l k wr => ∃ (n : Nat) (m : Int) (X : Ext), k = .int .i64 n ∧ n ≤ ds.length ∧ wr = w.ext X ∧ l = .int .i64 m ∧ m + ((ds.take n).map StepD.wt).sum = left - ds.length ∧ 0 ≤ m) (fun _ k _ => ds.length - (intOf k).toNat)
  case atStart => exact ⟨0, _, ⟨#[], _⟩, rfl, by omega, (World.ext_nil _ _ rfl).symm, rfl, by simp, by omega⟩
  case round =>
   obtain ⟨n, m, X, rfl, hn, rfl, rfl, hsum, hm⟩ := hrel
   have HS := Lib.hid hsum
   have hm2 : m ≤ left := by omega
   clear hsum
   by_cases hlt : (n : Int) < ds.length
   ·have hk : n < ds.length := by omega
    obtain ⟨b, off, cs, rfl, hbl, hrd, hcell⟩ := HX.out n hk
    have hstep := sum_take_step StepD.wt ds n hk
    have hle := sum_take_le StepD.wt ds (n + 1)
    generalize ds[n] = d at hrd hstep
    have HT := Lib.hid hstep
    have HL := Lib.hid hle
    clear hstep hle
    obtain ⟨rfl, hok⟩ := hrd
    obtain ⟨x0, ⟨x1, x2, x3, x4, x5, x6⟩⟩ := d
    have c0 := hcell 0 _ rfl
    have c1 := hcell 1 _ rfl
    have c2 := hcell 2 _ rfl
    have c3 := hcell 3 _ rfl
    have c4 := hcell 4 _ rfl
    have c5 := hcell 5 _ rfl
    have c6 := hcell 6 _ rfl
    clear hcell
    simp only [show vStep.k = 7 from rfl, Nat.add_zero] at c0 c1 c2 c3 c4 c5 c6
    go_wp2_with fail
    (go_at_call 19; refine (laws_szStep ⟨x0, ⟨x1, x2, x3, x4, x5, x6⟩⟩ m _ hok hm (by omega)).mono ?_; rintro e w' ⟨rfl, hb⟩; obtain ⟨X, rfl⟩ := hb.ext; clear hb)
    generalize StepD.wt ⟨x0, ⟨x1, x2, x3, x4, x5, x6⟩⟩ = wt at HT
    by_cases hg : (wt : Int) ≤ m
    ·rw [leftOf_pos hg]
     have hg2 : ¬ m - (wt : Int) < 0 := by omega
     go_wp2
     go_roundw
     case rel => exact ⟨n + 1, m - wt, _, by go_num, by omega, rfl, rfl, by rw [HT.out]; have := HS.out; omega, by omega⟩
     case measure => simp [intOf]; omega
    ·rw [leftOf_none hg]
     go_wp2
     go_ret
     refine ⟨?_, (by repeat (first | with_reducible exact Below.refl _ _ | with_reducible apply Below.ofExt))⟩
     have := HS.out
     have h2 := HT.out
     have h3 := HL.out
     rw [leftOf_none (by unfold wtS; omega)]
     rfl
   ·go_wp2
    go_ret
    refine ⟨?_, (by repeat (first | with_reducible exact Below.refl _ _ | with_reducible apply Below.ofExt))⟩
    have e : n = ds.length := by omega
    subst e
    have := HS.out
    rw [List.take_length] at this
    rw [leftOf_pos (by unfold wtS; omega)]
    exact ret_int (by unfold wtS; omega)
theorem laws_toStep (x0 : Int) (x1 : Int) (x2 : ByteArray) (x3 : ByteArray) (x4 : Int) (x5 : Int) (x6 : ByteArray) (w : World) :
  Calls Tryz.prog 22 #[.agg #[.int .i64 x0, .int .i64 x1, .string x2, .string x3, .int .i64 x4, .int .i64 x5, .string x6]] w fun e w' => e = .returned (.agg #[.int .i64 x0, .int .i64 x1, .string x2, .string x3, .int .i64 x4, .int .i64 x5, .string x6]) ∧ Below w.heap.size w w' := by
 go_enter Tryz.func22, Tryz.ntmps22
 go_wp2_with fail
 (go_at_call 32; refine (laws_toCall x1 x2 x3 x4 x5 x6 _).mono ?_; rintro e w' ⟨rfl, hb⟩; obtain ⟨X, rfl⟩ := hb.ext; clear hb)
 go_wp2
 refine bodyPost_ret (by simp [results, Tryz.results22, go_sem]; rfl) rfl ?_
 exact ⟨rfl, (by repeat (first | with_reducible exact Below.refl _ _ | with_reducible apply Below.ofExt | with_reducible apply Below.ofAlloc))⟩
theorem laws_eqStep (x0 : Int) (x1 : Int) (x2 : ByteArray) (x3 : ByteArray) (x4 : Int) (x5 : Int) (x6 : ByteArray) (w : World) :
  Calls Tryz.prog 27 #[.agg #[.int .i64 x0, .int .i64 x1, .string x2, .string x3, .int .i64 x4, .int .i64 x5, .string x6], .agg #[.int .i64 x0, .int .i64 x1, .string x2, .string x3, .int .i64 x4, .int .i64 x5, .string x6]] w fun e w' => e = .returned (.bool true) ∧ Below w.heap.size w w' := by
 go_enter Tryz.func27, Tryz.ntmps27
 go_wp2_with fail
 (go_at_call 35; refine (laws_eqCall x1 x2 x3 x4 x5 x6 _).mono ?_; rintro e w' ⟨rfl, hb⟩; obtain ⟨X, rfl⟩ := hb.ext; clear hb)
 go_wp2
 go_ret
 exact ⟨rfl, (by repeat (first | with_reducible exact Below.refl _ _ | with_reducible apply Below.ofExt | with_reducible apply Below.ofAlloc))⟩
theorem laws_toStepS (v : Value) (ds : List StepD) (w : World) {e : TypeId} (hs : (vSlice vStep e).rd w [v] ds) (hl : ds.length ≤ 1048576) :
  Calls Tryz.prog 8 #[v] w (Made (vSlice vStep 57) w ds) := by
 obtain ⟨ao, cap, rfl, hc1, hc2, hnil, hcell⟩ := vSlice.shape hs
 have HX := Lib.hid hcell
 have HOK : Hid (∀ d ∈ ds, StepD.ok d) := fun d hd => by
  obtain ⟨i, hi, rfl⟩ := List.getElem_of_mem hd
  obtain ⟨_, _, _, _, _, h, _⟩ := hcell i hi
  exact h.2
 clear hcell hs hnil
 unfold maxLen at hc2
 obtain ⟨cs0, hsz0, hmk⟩ := Elem.make Tryz.elemStepS ds.length (by omega) (by omega)
 go_enter Tryz.func8, Tryz.ntmps8
 go_wp2
 go_loopw [4] (fun k wr => ∃ (n : Nat) (cs : Array Value) (X : Ext), k = .int .i64 n ∧ n ≤ ds.length ∧ wr = (w.alloc (.cells cs 57)).ext X ∧ cs.size = ds.length * 7 ∧ cs.toList.take (n * 7) = (ds.take n).flatMap StepD.row) (fun k _ => ds.length - (intOf k).toNat)
 case atStart => exact ⟨0, cs0, ⟨#[], _⟩, rfl, by omega, (World.ext_nil _ _ rfl).symm, hsz0, by simp⟩
 case round =>
  obtain ⟨n, cs, X, rfl, hn, rfl, hsz, htk⟩ := hrel
  have HT := Lib.hid htk
  have HSZ := Lib.hid hsz
  clear htk hmk hsz0 hsz
  by_cases hlt : (n : Int) < ds.length
  ·have hk : n < ds.length := by omega
   obtain ⟨b, off, cs', rfl, hbl, hrd, hcell⟩ := HX.out n hk
   have hfs : (ds.take (n + 1)).flatMap StepD.row = (ds.take n).flatMap StepD.row ++ StepD.row ds[n] := by
    simp only [List.take_succ_eq_append_getElem hk, List.flatMap_append, List.flatMap_cons, List.flatMap_nil, List.append_nil]
   generalize ds[n] = d at hrd hfs
   have HF := Lib.hid hfs
   clear hfs
   obtain ⟨rfl, hok⟩ := hrd
   obtain ⟨x0, ⟨x1, x2, x3, x4, x5, x6⟩⟩ := d
   have c0 := hcell 0 _ rfl
   have c1 := hcell 1 _ rfl
   have c2 := hcell 2 _ rfl
   have c3 := hcell 3 _ rfl
   have c4 := hcell 4 _ rfl
   have c5 := hcell 5 _ rfl
   have c6 := hcell 6 _ rfl
   clear hcell
   simp only [show vStep.k = 7 from rfl, Nat.add_zero] at c0 c1 c2 c3 c4 c5 c6
   have hsz2 : n * 7 + 7 ≤ cs.size := by rw [HSZ.out]; omega
   have o0 : cs[n * 7]? = some cs[n * 7] := Array.getElem?_eq_getElem (by omega)
   have o1 : cs[n * 7 + 1]? = some cs[n * 7 + 1] := Array.getElem?_eq_getElem (by omega)
   have o2 : cs[n * 7 + 2]? = some cs[n * 7 + 2] := Array.getElem?_eq_getElem (by omega)
   have o3 : cs[n * 7 + 3]? = some cs[n * 7 + 3] := Array.getElem?_eq_getElem (by omega)
   have o4 : cs[n * 7 + 4]? = some cs[n * 7 + 4] := Array.getElem?_eq_getElem (by omega)
   have o5 : cs[n * 7 + 5]? = some cs[n * 7 + 5] := Array.getElem?_eq_getElem (by omega)
   have o6 : cs[n * 7 + 6]? = some cs[n * 7 + 6] := Array.getElem?_eq_getElem (by omega)
   generalize cs[n * 7] = y0 at o0
   generalize cs[n * 7 + 1] = y1 at o1
   generalize cs[n * 7 + 2] = y2 at o2
   generalize cs[n * 7 + 3] = y3 at o3
   generalize cs[n * 7 + 4] = y4 at o4
   generalize cs[n * 7 + 5] = y5 at o5
   generalize cs[n * 7 + 6] = y6 at o6
   go_wp2_with fail
   (go_at_call 22; refine (laws_toStep x0 x1 x2 x3 x4 x5 x6 _).mono ?_; rintro e w' ⟨rfl, hb⟩; obtain ⟨X, rfl⟩ := hb.ext; clear hb)
   go_wp2
   go_roundw
   case rel =>
    have h0 := take_set1' (v := .int .i64 x0) HT.out rfl rfl (by omega)
    have h1 := take_set1' (v := .int .i64 x1) h0 rfl rfl (by simp; omega)
    have h2 := take_set1' (v := .string x2) h1 rfl rfl (by simp; omega)
    have h3 := take_set1' (v := .string x3) h2 rfl rfl (by simp; omega)
    have h4 := take_set1' (v := .int .i64 x4) h3 rfl rfl (by simp; omega)
    have h5 := take_set1' (v := .int .i64 x5) h4 rfl rfl (by simp; omega)
    have h6 := take_set1' (p := (n + 1) * 7) (v := .string x6) h5 rfl (by omega) (by simp; omega)
    exact ⟨n + 1, _, _, by go_num, by omega, rfl, by simpa using HSZ.out, by rw [HF.out]; simpa [StepD.row] using h6⟩
   case measure => simp [intOf]; omega
  ·go_wp2
   go_ret
   have e : n = ds.length := by omega
   subst e
   have ht := HT.out
   rw [List.take_length] at ht
   exact ⟨_, _, rfl, vSlice.freshRow rfl (by omega) HSZ.out ht HOK.out, (by repeat (first | with_reducible exact Below.refl _ _ | with_reducible apply Below.ofExt | with_reducible apply Below.ofAlloc))⟩
theorem laws_eqStepS (v v' : Value) (ds : List StepD) (w : World) {e e' : TypeId} (hs : (vSlice vStep e).rd w [v] ds) (hs' : (vSlice vStep e').rd w [v'] ds) :
  Calls Tryz.prog 12 #[v, v'] w fun e w' => e = .returned (.bool true) ∧ Below w.heap.size w w' := by
 obtain ⟨ao, cap, rfl, hc1, hc2, hnil, hcell⟩ := vSlice.shape hs
 obtain ⟨ao', cap', rfl, hc1', hc2', hnil', hcell'⟩ := vSlice.shape hs'
 have HX := Lib.hid hcell
 have HX' := Lib.hid hcell'
 clear hcell hs hnil hcell' hs' hnil'
 unfold maxLen at hc2 hc2'
 go_enter Tryz.func12, Tryz.ntmps12
 go_wp2
 go_loopw [5] (fun k wr => ∃ (n : Nat) (X : Ext), k = .int .i64 n ∧ n ≤ ds.length ∧ wr = w.ext X) (fun k _ => ds.length - (intOf k).toNat)
 case atStart => exact ⟨0, ⟨#[], _⟩, rfl, by omega, (World.ext_nil _ _ rfl).symm⟩
 case round =>
  obtain ⟨n, X, rfl, hn, rfl⟩ := hrel
  by_cases hlt : (n : Int) < ds.length
  ·have hk : n < ds.length := by omega
   obtain ⟨b, off, cs, rfl, hbl, hrd, hcell⟩ := HX.out n hk
   obtain ⟨b', off', cs', rfl, hbl', hrd', hcell'⟩ := HX'.out n hk
   generalize ds[n] = d at hrd hrd'
   obtain ⟨rfl, hok⟩ := hrd
   obtain ⟨rfl, hok'⟩ := hrd'
   obtain ⟨x0, ⟨x1, x2, x3, x4, x5, x6⟩⟩ := d
   have c0 := hcell 0 _ rfl
   have c1 := hcell 1 _ rfl
   have c2 := hcell 2 _ rfl
   have c3 := hcell 3 _ rfl
   have c4 := hcell 4 _ rfl
   have c5 := hcell 5 _ rfl
   have c6 := hcell 6 _ rfl
   have e0 := hcell' 0 _ rfl
   have e1 := hcell' 1 _ rfl
   have e2 := hcell' 2 _ rfl
   have e3 := hcell' 3 _ rfl
   have e4 := hcell' 4 _ rfl
   have e5 := hcell' 5 _ rfl
   have e6 := hcell' 6 _ rfl
   clear hcell hcell'
   simp only [show vStep.k = 7 from rfl, Nat.add_zero] at c0 c1 c2 c3 c4 c5 c6 e0 e1 e2 e3 e4 e5 e6
   go_wp2
   refine wp_region_ord [(0,true),(1,true),(2,true),(3,true),(4,true),(5,true),(6,true),(7,true),(8,false),(9,true)] 10 (by kernel_rfl) (by kernel_rfl) ?_
   repeat (refine wpOrd_quiet rfl (fun K hK => ?_); go_simp; (try simp (disch := omega) only [IntWalk.i64_in]); refine hK _ ?_; clear hK K)
   refine wpOrd_grow rfl (fun K hK => ?_); go_simp; go_at_call 27; refine (laws_eqStep x0 x1 x2 x3 x4 x5 x6 _).mono ?_; rintro e w' ⟨rfl, hb⟩; obtain ⟨X, rfl⟩ := hb.ext; clear hb; try go_simp; refine hK _ _ (by show Sx _ _; repeat (first | with_reducible exact Sx.same _ _ _ _ | with_reducible apply Sx.more)) ?_; clear hK K
   repeat (refine wpOrd_quiet rfl (fun K hK => ?_); go_simp; (try simp (disch := omega) only [IntWalk.i64_in]); refine hK _ ?_; clear hK K)
   refine wpOrd_nil ?_
   go_wp2
   go_roundw
   case rel => exact ⟨n + 1, _, by go_num, by omega, rfl⟩
   case measure => simp [intOf]; omega
  ·go_wp2
   go_ret
   exact ⟨rfl, (by repeat (first | with_reducible exact Below.refl _ _ | with_reducible apply Below.ofExt))⟩
theorem laws_markStepS (v : Value) (fp : List Nat) (ds : List StepD) (k : Int) (w : World) (hs : (vSlice vStep 57).own w fp [v] ds) (h0 : 0 ≤ k) (h1 : k + (7 * ds.length : Nat) ≤ 4294960000) :
  Calls Tryz.prog 14 #[v, .int .i64 k] w fun e w' => e = .returned (.int .i64 (k + (7 * ds.length : Nat))) ∧ (vSlice vStep 57).own w' fp [v] (marks mkStep 7 k ds.length) ∧ Upon fp w w' := by
 rcases hs with ⟨hv, rfl, rfl⟩ | ⟨b, cap, blk, css, fps, hv, hb, hn, hm, hsz, ht, rfl, hcl, hfl, hel⟩
 ·simp only [List.cons.injEq, and_true] at hv
  subst hv
  go_enter Tryz.func14, Tryz.ntmps14
  go_wp2
  go_loopw [1, 5] (fun kk i wr => kk = .int .i64 k ∧ i = .int .i64 0 ∧ wr = w) (fun _ _ _ => 0)
  case atStart => exact ⟨rfl, rfl, rfl⟩
  case round =>
   obtain ⟨rfl, rfl, rfl⟩ := hrel
   go_wp2
   go_ret
   exact ⟨by simp, .inl ⟨rfl, rfl, rfl⟩, Upon.refl _ _⟩
 ·simp only [List.cons.injEq, and_true] at hv
  subst hv
  have hfe : fps.flatten = [] := by
   rw [List.flatten_eq_nil_iff]
   intro l hl
   obtain ⟨i, hi, rfl⟩ := List.getElem_of_mem hl
   exact (hel i (by omega) (by omega) hi).1
  rw [hfe]
  have hbl := World.lt_of_get hb
  have hsz' : blk.size = cap * 7 := hsz
  clear hel ht hfe hcl hfl hsz
  generalize hnn : ds.length = N at hn h1
  clear hnn
  unfold maxLen at hm
  refine World.at_block hb ?_
  clear hb
  go_enter Tryz.func14, Tryz.ntmps14
  go_wp2
  go_loopw [1, 5] (fun kk i wr => ∃ (n : Nat) (cs : Array Value) (X : Ext) (m : Int), kk = .int .i64 m ∧ m = k + (7 * n : Nat) ∧ i = .int .i64 n ∧ n ≤ N ∧ wr = (w.setB b (.cells cs 57)).ext X ∧ cs.size = cap * 7 ∧ cs.toList.take (n * 7) = (marks mkStep 7 k n).flatMap StepD.row) (fun _ i _ => N - (intOf i).toNat)
  case atStart => exact ⟨0, blk, ⟨#[], _⟩, k, rfl, by simp, rfl, by omega, (World.ext_nil _ _ rfl).symm, hsz', by simp [marks]⟩
  case round =>
   obtain ⟨n, cs, X, m, rfl, hmk, rfl, hn2, rfl, hcs, htk⟩ := hrel
   have HT := Lib.hid htk
   have HSZ := Lib.hid hcs
   have HM := Lib.hid hmk
   clear htk hcs hsz'
   have hm0 : 0 ≤ m := by omega
   have hm1 : m ≤ 4294960000 := by omega
   by_cases hlt : (n : Int) < N
   ·have hk : n < N := by omega
    have hm2 : m + 7 ≤ 4294960000 := by omega
    clear hmk
    have hsz2 : n * 7 + 7 ≤ cs.size := by rw [HSZ.out]; omega
    have l0 : n * 7 < cs.size := by omega
    have l1 : n * 7 + 1 < cs.size := by omega
    have l2 : n * 7 + 2 < cs.size := by omega
    have l3 : n * 7 + 3 < cs.size := by omega
    have l4 : n * 7 + 4 < cs.size := by omega
    have l5 : n * 7 + 5 < cs.size := by omega
    have l6 : n * 7 + 6 < cs.size := by omega
    go_wp2_with fail
    (go_at_call 28; refine (laws_markText _ _ (by omega) (by omega)).mono ?_; rintro e w' ⟨rfl, hb⟩; obtain ⟨X, rfl⟩ := hb.ext; clear hb)
    go_wp2_with fail
    (go_at_call 28; refine (laws_markText _ _ (by omega) (by omega)).mono ?_; rintro e w' ⟨rfl, hb⟩; obtain ⟨X, rfl⟩ := hb.ext; clear hb)
    go_wp2_with fail
    (go_at_call 28; refine (laws_markText _ _ (by omega) (by omega)).mono ?_; rintro e w' ⟨rfl, hb⟩; obtain ⟨X, rfl⟩ := hb.ext; clear hb)
    go_wp2
    go_roundw
    case rel =>
     refine ⟨n + 1, _, _, _, rfl, ?_, by go_num, by omega, rfl, ?_, ?_⟩
     ·have := HM.out
      omega
     ·simpa using HSZ.out
     ·skip
      have h0 := take_set1' (v := .int .i64 m) HT.out rfl rfl (by omega)
      have h1 := take_set1' (v := .int .i64 (m + 1)) h0 rfl rfl (by simp; omega)
      have h2 := take_set1' (v := .string (mtext (m + 1 + 1))) h1 rfl rfl (by simp; omega)
      have h3 := take_set1' (v := .string (mtext (m + 1 + 1 + 1))) h2 rfl rfl (by simp; omega)
      have h4 := take_set1' (v := .int .i64 (m + 1 + 1 + 1 + 1)) h3 rfl rfl (by simp; omega)
      have h5 := take_set1' (v := .int .i64 (m + 1 + 1 + 1 + 1 + 1)) h4 rfl rfl (by simp; omega)
      have h6 := take_set1' (p := (n + 1) * 7) (v := .string (mtext (m + 1 + 1 + 1 + 1 + 1 + 1))) h5 rfl (by omega) (by simp; omega)
      rw [marks_succ, List.flatMap_append, ← HM.out]
      simpa [mkStep, StepD.row] using h6
    case measure => simp [intOf]; omega
   ·clear hmk
    go_wp2
    go_ret
    have e : n = N := by omega
    subst e
    exact ⟨ret_int HM.out, View.ownExt (vSlice.ownRow (World.setB_at _ _ _ hbl) (marks_len _ _ _ _).symm hn (by unfold maxLen; exact hm) HSZ.out HT.out (marks_ok_Step (by omega))) X, Upon.setBExt _ _ _ (by simp)⟩
open Mp
namespace K
def runSteps (out : List AnswerD) (s : StepD) : Mp (List AnswerD) := do return out ++ [← doCall s.proc s.call]
def runAll (l : List StepD) : Mp (List AnswerD) := fold runSteps [] l
end K
theorem spec_l06UnlinkName (name : ByteArray) (namez : name.size ≤ 1048576) : SC 68 (fun x => #[x, .string name]) (K.unlinkName name) (fun v' n => .tuple #[v', .int .i64 n]) := by
 refine SCgo (fun w m a0 c0 a1 c1 a2 c2 res mres H0 H1 H2 HL => ?_)
 unfold K.unlinkName at HL
 have hc : ¬ 9223372036854775807 < 2 + name.size := by omega
 rcases name_cases name with ⟨hn, hz⟩ | hn
 all_goals (
  rw [hn] at HL
  have HN := Lib.hid hn; clear hn)
 all_goals ((repeat' ((rcases HL.out.ite with ⟨hg, HL2⟩ | ⟨hg, HL2⟩ <;> (clear HL; have HL := Lib.hid HL2; clear HL2; try exact absurd hg (by decide))))))
 all_goals (go_enter Tryz.func68, Tryz.ntmps68; ((repeat (first | ((with_reducible refine opqM2 w (.cells #[.slice a0 m.cells.length c0, .slice a1 m.rd.length c1, .slice a2 m.wr.length c2] 60) (.cells #[.slice none 0 0, .slice none 0 0, .slice none 0 0] 60) ?_ ?_); (· with_reducible exact box_first w (.cells #[.slice a0 m.cells.length c0, .slice a1 m.rd.length c1, .slice a2 m.wr.length c2] 60) (.cells #[.slice none 0 0, .slice none 0 0, .slice none 0 0] 60) (by repeat (first | with_reducible exact Below.refl _ _ | with_reducible apply Below.ofAlloc)))) | go_skip | go_guarded | go_step | go_upon | go_back)); (rintro w1 ⟨B, P, R⟩; have Z := World.lt_of_get R; have e1 := setB_two P R; rw [← e1]; have HW0 := Lib.hid (fun o r => H0.out.below (S_of B o r)); have HW1 := Lib.hid (fun o r => H1.out.below (S_of B o r)); have HW2 := Lib.hid (fun o r => H2.out.below (S_of B o r)); have Zp := Nat.lt_of_succ_lt Z; clear e1 P R H0 H1 H2; ((repeat' ((rcases HL.out.ite with ⟨hg, HL2⟩ | ⟨hg, HL2⟩ <;> (clear HL; have HL := Lib.hid HL2; clear HL2))))))); all_goals ((repeat' (first | go_skip | go_guarded | go_step | go_upon | go_back | ((first | ((first | (go_at_call 114; refine (SC.use (spec_l06FileOf _ (by omega)) (fun a => 0 ≤ a ∧ a ≤ 999) (fun m _ => fileOf_bd _ m) (by first | exact HL.out | exact HL.out.last) (⟨_, _, _, rfl, HW0.out _ _, HW1.out _ _, HW2.out _ _⟩ : MRd _ _ _)).mono ?_) | (go_at_call 118; refine (SC.use (spec_l04Lay _ _) (fun _ => True) (fun _ _ => trivial) (by first | exact HL.out | exact HL.out.last) (⟨_, _, _, rfl, HW0.out _ _, HW1.out _ _, HW2.out _ _⟩ : MRd _ _ _)).mono ?_)); (rintro e w2 ⟨v2, x, m2, rfl, hx, hm, hb, HL2⟩); (obtain ⟨b0, d0, b1, d1, b2, d2, rfl, q0, q1, q2⟩ := hm.form; obtain ⟨B', P, R, Z', Zx⟩ := box_later B Z hb; clear Zx; clear hm hb; (clear HW0 HW1 HW2 B Z; have e1 := setB_two P R; rw [← e1]; clear e1; have HW0 := Lib.hid (fun o r => rdl_two (str_cells _) q0 P R o r); have HW1 := Lib.hid (fun o r => rdl_two (str_strs _) q1 P R o r); have HW2 := Lib.hid (fun o r => rdl_two (str_strs _) q2 P R o r); have B := B'; have Z := Z'; (try clear Zp); have Zp := Nat.lt_of_succ_lt Z; clear B' Z' P R q0 q1 q2; (try simp only [])); clear HL; have HL := Lib.hid HL2; clear HL2; (all_goals ((repeat' ((rcases HL.out.ite with ⟨hg, HL2⟩ | ⟨hg, HL2⟩ <;> (clear HL; have HL := Lib.hid HL2; clear HL2)))))))) | ((go_at_call 113; refine (spec_NameOk _ _ (by omega)).mono ?_); rintro e w2 ⟨rfl, rfl⟩; (try simp only []); (try rw [HN.out]); (try rw [HM.out])))) | ((first | refine wp_region_ordU (id := 7) [(0, true), (1, true), (2, false), (3, false), (4, true), (5, true), (6, true), (7, false), (8, false)] 4 (by kernel_rfl) (by kernel_rfl) ?_ | refine wp_region_ordU (id := 9) [(0, true), (1, true), (3, true), (4, true), (2, false), (5, false), (6, false), (7, false)] 6 (by kernel_rfl) (by kernel_rfl) ?_ | refine wp_region_ordU (id := 10) [(0, true), (1, true), (2, false), (3, false), (4, false), (5, false)] 4 (by kernel_rfl) (by kernel_rfl) ?_); (repeat (first | (refine wpOrd_quiet rfl (fun K hK => ?_); go_simp; (try simp (disch := omega) only [IntWalk.i64_in, Int.tmod_eq_emod_of_nonneg, Int.tdiv_eq_ediv_of_nonneg]); refine hK _ ?_; clear hK K) | (refine wpOrd_grow rfl (fun K hK => ?_); go_simp; (first | ((go_at_call 117; refine (spec_KeyNum _ _ _ _ (by first | omega | decide) (by first | omega | decide) (by omega) (by omega)).mono ?_); rintro e w' ⟨rfl, hb⟩; obtain ⟨X, rfl⟩ := hb.ext; clear hb) | ((first | (go_at_call 119; refine (SC.use (spec_l04Wipe _) (fun _ => True) (fun _ _ => trivial) (by first | exact HL.out | exact HL.out.last) (⟨_, _, _, rfl, by (refine ⟨?_, ?_, ?_⟩ <;> ((repeat (first | with_reducible exact HW0.out _ _ | with_reducible exact HW1.out _ _ | with_reducible exact HW2.out _ _ | with_reducible refine RdL.ext ?_ _))))⟩ : MRd _ _ _)).mono ?_) | (go_at_call 116; refine (SC.use (spec_l05SetNum _ _ (by omega) (by omega)) (fun _ => True) (fun _ _ => trivial) (by first | exact HL.out | exact HL.out.last) (⟨_, _, _, rfl, by (refine ⟨?_, ?_, ?_⟩ <;> ((repeat (first | with_reducible exact HW0.out _ _ | with_reducible exact HW1.out _ _ | with_reducible exact HW2.out _ _ | with_reducible refine RdL.ext ?_ _))))⟩ : MRd _ _ _)).mono ?_) | (go_at_call 110; refine (SC.use (spec_l05NumAt _) (fun a => 0 ≤ a ∧ a ≤ 999) (fun m _ => num_bd _ m) (by first | exact HL.out | exact HL.out.last) (⟨_, _, _, rfl, by (refine ⟨?_, ?_, ?_⟩ <;> ((repeat (first | with_reducible exact HW0.out _ _ | with_reducible exact HW1.out _ _ | with_reducible exact HW2.out _ _ | with_reducible refine RdL.ext ?_ _))))⟩ : MRd _ _ _)).mono ?_)); (rintro e w' ⟨v2, x, m2, rfl, hx, hm, hb, HL2⟩); clear HL; have HL := Lib.hid HL2; clear HL2; obtain ⟨f0, g0, f1, g1, f2, g2, rfl, q0, q1, q2⟩ := hm.form; obtain ⟨X, rfl⟩ := hb.ext; have Q0 := Lib.hid q0; have Q1 := Lib.hid q1; have Q2 := Lib.hid q2; clear hm q0 q1 q2 hb)); (try go_simp); refine hK _ _ (by show Sx _ _; repeat (first | with_reducible apply Sx.more | with_reducible apply Sx.ext | with_reducible exact Sx.refl _)) ?_; clear hK K) | (refine wpOrd_tail rfl rfl (fun K hK => ?_); go_simp; refine hK _ _ ?_; clear hK K))); have Q0' := Q0.out; have Q1' := Q1.out; have Q2' := Q2.out; clear Q0 Q1 Q2; (try simp only [World.ext_ext, World.drew_ext, Array.append_assoc] at Q0' Q1' Q2'); refine wpOrd_nilT w m2 f0 g0 f1 g1 f2 g2 ⟨(S_of B _ _).ofExt _, (two_ext Z _ _ _).1, (two_ext Z _ _ _).2, both_set (str_cells _) Z Q0' _ _, both_set (str_strs _) Z Q1' _ _, both_set (str_strs _) Z Q2' _ _, World.lt_of_get (two_ext Z _ _ _).2⟩ ?_; clear Q0' Q1' Q2'; rintro w3 ⟨B', P, R, q0, q1, q2, Z'⟩; (clear HW0 HW1 HW2 B Z; have e1 := setB_two P R; rw [← e1]; clear e1; have HW0 := Lib.hid (fun o r => rdl_two (str_cells _) q0 P R o r); have HW1 := Lib.hid (fun o r => rdl_two (str_strs _) q1 P R o r); have HW2 := Lib.hid (fun o r => rdl_two (str_strs _) q2 P R o r); have B := B'; have Z := Z'; (try clear Zp); have Zp := Nat.lt_of_succ_lt Z; clear B' Z' P R q0 q1 q2); (all_goals ((repeat' ((rcases HL.out.ite with ⟨hg, HL2⟩ | ⟨hg, HL2⟩ <;> (clear HL; have HL := Lib.hid HL2; clear HL2))))))) | (exfalso; (simp only [bne_eq_false_iff_eq, beq_eq_false_iff_ne, beq_iff_eq, bne_iff_ne] at *); omega)))))
 all_goals (obtain ⟨rfl, rfl⟩ := HL.out.end; refine bodyPost_ret (by simp [results, Tryz.results68, go_sem, Z]; rfl) rfl ?_; exact ⟨_, rfl, ⟨_, _, _, rfl, HW0.out _ _, HW1.out _ _, HW2.out _ _⟩, S_of B _ _⟩)
theorem spec_l06RenameName (a : ByteArray) (az : a.size ≤ 1048576) (b : ByteArray) (bz : b.size ≤ 1048576) : SC 69 (fun x => #[x, .string a, .string b]) (K.renameName a b) (fun v' n => .tuple #[v', .int .i64 n]) := by
 refine SCgo (fun w m a0 c0 a1 c1 a2 c2 res mres H0 H1 H2 HL => ?_)
 unfold K.renameName at HL
 have hc : ¬ 9223372036854775807 < 2 + a.size := by omega
 have hd : ¬ 9223372036854775807 < 2 + b.size := by omega
 rcases name_cases a with ⟨hn, hz⟩ | hn
 all_goals (
  rw [hn] at HL
  have HN := Lib.hid hn; clear hn)
 all_goals rcases name_cases b with ⟨hn, hy⟩ | hn
 all_goals (
  rw [hn] at HL
  have HM := Lib.hid hn; clear hn)
 all_goals ((repeat' ((rcases HL.out.ite with ⟨hg, HL2⟩ | ⟨hg, HL2⟩ <;> (clear HL; have HL := Lib.hid HL2; clear HL2; try exact absurd hg (by decide))))))
 all_goals (go_enter Tryz.func69, Tryz.ntmps69; ((repeat (first | ((with_reducible refine opqM2 w (.cells #[.slice a0 m.cells.length c0, .slice a1 m.rd.length c1, .slice a2 m.wr.length c2] 60) (.cells #[.slice none 0 0, .slice none 0 0, .slice none 0 0] 60) ?_ ?_); (· with_reducible exact box_first w (.cells #[.slice a0 m.cells.length c0, .slice a1 m.rd.length c1, .slice a2 m.wr.length c2] 60) (.cells #[.slice none 0 0, .slice none 0 0, .slice none 0 0] 60) (by repeat (first | with_reducible exact Below.refl _ _ | with_reducible apply Below.ofAlloc)))) | go_skip | go_guarded | go_step | go_upon | go_back)); (rintro w1 ⟨B, P, R⟩; have Z := World.lt_of_get R; have e1 := setB_two P R; rw [← e1]; have HW0 := Lib.hid (fun o r => H0.out.below (S_of B o r)); have HW1 := Lib.hid (fun o r => H1.out.below (S_of B o r)); have HW2 := Lib.hid (fun o r => H2.out.below (S_of B o r)); have Zp := Nat.lt_of_succ_lt Z; clear e1 P R H0 H1 H2; ((repeat' ((rcases HL.out.ite with ⟨hg, HL2⟩ | ⟨hg, HL2⟩ <;> (clear HL; have HL := Lib.hid HL2; clear HL2))))))); all_goals ((repeat' (first | go_skip | go_guarded | go_step | go_upon | go_back | ((first | ((first | (go_at_call 68; refine (SC.use (spec_l06UnlinkName _ (by omega)) (fun _ => True) (fun _ _ => trivial) (by first | exact HL.out | exact HL.out.last) (⟨_, _, _, rfl, HW0.out _ _, HW1.out _ _, HW2.out _ _⟩ : MRd _ _ _)).mono ?_) | (go_at_call 114; refine (SC.use (spec_l06FileOf _ (by omega)) (fun a => 0 ≤ a ∧ a ≤ 999) (fun m _ => fileOf_bd _ m) (by first | exact HL.out | exact HL.out.last) (⟨_, _, _, rfl, HW0.out _ _, HW1.out _ _, HW2.out _ _⟩ : MRd _ _ _)).mono ?_) | (go_at_call 116; refine (SC.use (spec_l05SetNum _ _ (by omega) (by omega)) (fun _ => True) (fun _ _ => trivial) (by first | exact HL.out | exact HL.out.last) (⟨_, _, _, rfl, HW0.out _ _, HW1.out _ _, HW2.out _ _⟩ : MRd _ _ _)).mono ?_) | (go_at_call 118; refine (SC.use (spec_l04Lay _ _) (fun _ => True) (fun _ _ => trivial) (by first | exact HL.out | exact HL.out.last) (⟨_, _, _, rfl, HW0.out _ _, HW1.out _ _, HW2.out _ _⟩ : MRd _ _ _)).mono ?_)); (rintro e w2 ⟨v2, x, m2, rfl, hx, hm, hb, HL2⟩); (obtain ⟨b0, d0, b1, d1, b2, d2, rfl, q0, q1, q2⟩ := hm.form; obtain ⟨B', P, R, Z', Zx⟩ := box_later B Z hb; clear Zx; clear hm hb; (clear HW0 HW1 HW2 B Z; have e1 := setB_two P R; rw [← e1]; clear e1; have HW0 := Lib.hid (fun o r => rdl_two (str_cells _) q0 P R o r); have HW1 := Lib.hid (fun o r => rdl_two (str_strs _) q1 P R o r); have HW2 := Lib.hid (fun o r => rdl_two (str_strs _) q2 P R o r); have B := B'; have Z := Z'; (try clear Zp); have Zp := Nat.lt_of_succ_lt Z; clear B' Z' P R q0 q1 q2; (try simp only [])); clear HL; have HL := Lib.hid HL2; clear HL2; (all_goals ((repeat' ((rcases HL.out.ite with ⟨hg, HL2⟩ | ⟨hg, HL2⟩ <;> (clear HL; have HL := Lib.hid HL2; clear HL2)))))))) | ((go_at_call 113; refine (spec_NameOk _ _ (by omega)).mono ?_); rintro e w2 ⟨rfl, rfl⟩; (try simp only []); (try rw [HN.out]); (try rw [HM.out])))) | (exfalso; (simp only [bne_eq_false_iff_eq, beq_eq_false_iff_ne, beq_iff_eq, bne_iff_ne] at *); omega)))))
 all_goals (obtain ⟨rfl, rfl⟩ := HL.out.end; refine bodyPost_ret (by simp [results, Tryz.results69, go_sem, Z]; rfl) rfl ?_; exact ⟨_, rfl, ⟨_, _, _, rfl, HW0.out _ _, HW1.out _ _, HW2.out _ _⟩, S_of B _ _⟩)
theorem spec_l06MakeName (name : ByteArray) (namez : name.size ≤ 1048576) : SC 66 (fun x => #[x, .string name]) (K.makeName name) (fun v' p => .tuple #[v', .int .i64 p.1, .int .i64 p.2]) := by
 refine SCgo (fun w m a0 c0 a1 c1 a2 c2 res mres H0 H1 H2 HL => ?_)
 unfold K.makeName at HL
 have hc : ¬ 9223372036854775807 < 2 + name.size := by omega
 rcases name_cases name with ⟨hn, hz⟩ | hn
 all_goals (
  rw [hn] at HL
  have HN := Lib.hid hn; clear hn)
 all_goals ((repeat' ((rcases HL.out.ite with ⟨hg, HL2⟩ | ⟨hg, HL2⟩ <;> (clear HL; have HL := Lib.hid HL2; clear HL2; try exact absurd hg (by decide))))))
 all_goals (go_enter Tryz.func66, Tryz.ntmps66; ((repeat (first | ((with_reducible refine opqM2 w (.cells #[.slice a0 m.cells.length c0, .slice a1 m.rd.length c1, .slice a2 m.wr.length c2] 60) (.cells #[.slice none 0 0, .slice none 0 0, .slice none 0 0] 60) ?_ ?_); (· with_reducible exact box_first w (.cells #[.slice a0 m.cells.length c0, .slice a1 m.rd.length c1, .slice a2 m.wr.length c2] 60) (.cells #[.slice none 0 0, .slice none 0 0, .slice none 0 0] 60) (by repeat (first | with_reducible exact Below.refl _ _ | with_reducible apply Below.ofAlloc)))) | go_skip | go_guarded | go_step | go_upon | go_back)); (rintro w1 ⟨B, P, R⟩; have Z := World.lt_of_get R; have e1 := setB_two P R; rw [← e1]; have HW0 := Lib.hid (fun o r => H0.out.below (S_of B o r)); have HW1 := Lib.hid (fun o r => H1.out.below (S_of B o r)); have HW2 := Lib.hid (fun o r => H2.out.below (S_of B o r)); have Zp := Nat.lt_of_succ_lt Z; clear e1 P R H0 H1 H2; ((repeat' ((rcases HL.out.ite with ⟨hg, HL2⟩ | ⟨hg, HL2⟩ <;> (clear HL; have HL := Lib.hid HL2; clear HL2))))))); all_goals ((repeat' (first | go_skip | go_guarded | go_step | go_upon | go_back | ((first | ((first | (go_at_call 114; refine (SC.use (spec_l06FileOf _ (by omega)) (fun a => 0 ≤ a ∧ a ≤ 999) (fun m _ => fileOf_bd _ m) (by first | exact HL.out | exact HL.out.last) (⟨_, _, _, rfl, HW0.out _ _, HW1.out _ _, HW2.out _ _⟩ : MRd _ _ _)).mono ?_) | (go_at_call 116; refine (SC.use (spec_l05SetNum _ _ (by omega) (by omega)) (fun _ => True) (fun _ _ => trivial) (by first | exact HL.out | exact HL.out.last) (⟨_, _, _, rfl, HW0.out _ _, HW1.out _ _, HW2.out _ _⟩ : MRd _ _ _)).mono ?_) | (go_at_call 115; refine (SC.use (spec_l05Bumped _) (fun a => 0 ≤ a ∧ a ≤ 999) (fun m _ => bump_bd _ m) (by first | exact HL.out | exact HL.out.last) (⟨_, _, _, rfl, HW0.out _ _, HW1.out _ _, HW2.out _ _⟩ : MRd _ _ _)).mono ?_) | (go_at_call 110; refine (SC.use (spec_l05NumAt _) (fun a => 0 ≤ a ∧ a ≤ 999) (fun m _ => num_bd _ m) (by first | exact HL.out | exact HL.out.last) (⟨_, _, _, rfl, HW0.out _ _, HW1.out _ _, HW2.out _ _⟩ : MRd _ _ _)).mono ?_)); (rintro e w2 ⟨v2, x, m2, rfl, hx, hm, hb, HL2⟩); (obtain ⟨b0, d0, b1, d1, b2, d2, rfl, q0, q1, q2⟩ := hm.form; obtain ⟨B', P, R, Z', Zx⟩ := box_later B Z hb; clear Zx; clear hm hb; (clear HW0 HW1 HW2 B Z; have e1 := setB_two P R; rw [← e1]; clear e1; have HW0 := Lib.hid (fun o r => rdl_two (str_cells _) q0 P R o r); have HW1 := Lib.hid (fun o r => rdl_two (str_strs _) q1 P R o r); have HW2 := Lib.hid (fun o r => rdl_two (str_strs _) q2 P R o r); have B := B'; have Z := Z'; (try clear Zp); have Zp := Nat.lt_of_succ_lt Z; clear B' Z' P R q0 q1 q2; (try simp only [])); clear HL; have HL := Lib.hid HL2; clear HL2; (all_goals ((repeat' ((rcases HL.out.ite with ⟨hg, HL2⟩ | ⟨hg, HL2⟩ <;> (clear HL; have HL := Lib.hid HL2; clear HL2)))))))) | ((go_at_call 113; refine (spec_NameOk _ _ (by omega)).mono ?_); rintro e w2 ⟨rfl, rfl⟩; (try simp only []); (try rw [HN.out]); (try rw [HM.out])))) | (refine wp_region_ordU (id := 11) [(0, true), (1, true), (4, true), (2, false), (3, false), (5, false), (6, false), (7, false)] 4 (by kernel_rfl) (by kernel_rfl) ?_; (repeat (first | (refine wpOrd_quiet rfl (fun K hK => ?_); go_simp; refine hK _ ?_; clear hK K) | (refine wpOrd_grow rfl (fun K hK => ?_); go_simp; (first | ((go_at_call 117; refine (spec_KeyNum _ _ _ _ (by first | omega | decide) (by first | omega | decide) (by omega) (by omega)).mono ?_); rintro e w' ⟨rfl, hb⟩; obtain ⟨X, rfl⟩ := hb.ext; clear hb) | (((go_at_call 116; refine (SC.use (spec_l05SetNum _ _ (by omega) (by omega)) (fun _ => True) (fun _ _ => trivial) (by first | exact HL.out | exact HL.out.last) (⟨_, _, _, rfl, by (refine ⟨?_, ?_, ?_⟩ <;> ((repeat (first | with_reducible exact HW0.out _ _ | with_reducible exact HW1.out _ _ | with_reducible exact HW2.out _ _ | with_reducible refine RdL.ext ?_ _))))⟩ : MRd _ _ _)).mono ?_)); (rintro e w' ⟨v2, x, m2, rfl, hx, hm, hb, HL2⟩); clear HL; have HL := Lib.hid HL2; clear HL2; obtain ⟨f0, g0, f1, g1, f2, g2, rfl, q0, q1, q2⟩ := hm.form; obtain ⟨X, rfl⟩ := hb.ext; have Q0 := Lib.hid q0; have Q1 := Lib.hid q1; have Q2 := Lib.hid q2; clear hm q0 q1 q2 hb)); (try go_simp); refine hK _ _ (by show Sx _ _; repeat (first | with_reducible apply Sx.more | with_reducible apply Sx.ext | with_reducible exact Sx.refl _)) ?_; clear hK K) | (refine wpOrd_tail rfl rfl (fun K hK => ?_); go_simp; refine hK _ _ ?_; clear hK K))); have Q0' := Q0.out; have Q1' := Q1.out; have Q2' := Q2.out; clear Q0 Q1 Q2; (try simp only [World.ext_ext, World.drew_ext, Array.append_assoc] at Q0' Q1' Q2'); refine wpOrd_nilT w m2 f0 g0 f1 g1 f2 g2 ⟨(S_of B _ _).ofExt _, (two_ext Z _ _ _).1, (two_ext Z _ _ _).2, both_set (str_cells _) Z Q0' _ _, both_set (str_strs _) Z Q1' _ _, both_set (str_strs _) Z Q2' _ _, World.lt_of_get (two_ext Z _ _ _).2⟩ ?_; clear Q0' Q1' Q2'; rintro w3 ⟨B', P, R, q0, q1, q2, Z'⟩; (clear HW0 HW1 HW2 B Z; have e1 := setB_two P R; rw [← e1]; clear e1; have HW0 := Lib.hid (fun o r => rdl_two (str_cells _) q0 P R o r); have HW1 := Lib.hid (fun o r => rdl_two (str_strs _) q1 P R o r); have HW2 := Lib.hid (fun o r => rdl_two (str_strs _) q2 P R o r); have B := B'; have Z := Z'; (try clear Zp); have Zp := Nat.lt_of_succ_lt Z; clear B' Z' P R q0 q1 q2); (all_goals ((repeat' ((rcases HL.out.ite with ⟨hg, HL2⟩ | ⟨hg, HL2⟩ <;> (clear HL; have HL := Lib.hid HL2; clear HL2))))))) | (exfalso; (simp only [bne_eq_false_iff_eq, beq_eq_false_iff_ne, beq_iff_eq, bne_iff_ne] at *); omega)))))
 all_goals (obtain ⟨rfl, rfl⟩ := HL.out.end; refine bodyPost_ret (by simp [results, Tryz.results66, go_sem, Z]; rfl) rfl ?_; exact ⟨_, rfl, ⟨_, _, _, rfl, HW0.out _ _, HW1.out _ _, HW2.out _ _⟩, S_of B _ _⟩)
theorem spec_l06LinkName (a : ByteArray) (az : a.size ≤ 1048576) (b : ByteArray) (bz : b.size ≤ 1048576) : SC 67 (fun x => #[x, .string a, .string b]) (K.linkName a b) (fun v' n => .tuple #[v', .int .i64 n]) := by
 refine SCgo (fun w m a0 c0 a1 c1 a2 c2 res mres H0 H1 H2 HL => ?_)
 unfold K.linkName at HL
 have hc : ¬ 9223372036854775807 < 2 + a.size := by omega
 have hd : ¬ 9223372036854775807 < 2 + b.size := by omega
 rcases name_cases a with ⟨hn, hz⟩ | hn
 all_goals (
  rw [hn] at HL
  have HN := Lib.hid hn; clear hn)
 all_goals rcases name_cases b with ⟨hn, hy⟩ | hn
 all_goals (
  rw [hn] at HL
  have HM := Lib.hid hn; clear hn)
 all_goals ((repeat' ((rcases HL.out.ite with ⟨hg, HL2⟩ | ⟨hg, HL2⟩ <;> (clear HL; have HL := Lib.hid HL2; clear HL2; try exact absurd hg (by decide))))))
 all_goals (go_enter Tryz.func67, Tryz.ntmps67; ((repeat (first | ((with_reducible refine opqM2 w (.cells #[.slice a0 m.cells.length c0, .slice a1 m.rd.length c1, .slice a2 m.wr.length c2] 60) (.cells #[.slice none 0 0, .slice none 0 0, .slice none 0 0] 60) ?_ ?_); (· with_reducible exact box_first w (.cells #[.slice a0 m.cells.length c0, .slice a1 m.rd.length c1, .slice a2 m.wr.length c2] 60) (.cells #[.slice none 0 0, .slice none 0 0, .slice none 0 0] 60) (by repeat (first | with_reducible exact Below.refl _ _ | with_reducible apply Below.ofAlloc)))) | go_skip | go_guarded | go_step | go_upon | go_back)); (rintro w1 ⟨B, P, R⟩; have Z := World.lt_of_get R; have e1 := setB_two P R; rw [← e1]; have HW0 := Lib.hid (fun o r => H0.out.below (S_of B o r)); have HW1 := Lib.hid (fun o r => H1.out.below (S_of B o r)); have HW2 := Lib.hid (fun o r => H2.out.below (S_of B o r)); have Zp := Nat.lt_of_succ_lt Z; clear e1 P R H0 H1 H2; ((repeat' ((rcases HL.out.ite with ⟨hg, HL2⟩ | ⟨hg, HL2⟩ <;> (clear HL; have HL := Lib.hid HL2; clear HL2))))))); all_goals ((repeat' (first | go_skip | go_guarded | go_step | go_upon | go_back | ((first | ((first | (go_at_call 114; refine (SC.use (spec_l06FileOf _ (by omega)) (fun a => 0 ≤ a ∧ a ≤ 999) (fun m _ => fileOf_bd _ m) (by first | exact HL.out | exact HL.out.last) (⟨_, _, _, rfl, HW0.out _ _, HW1.out _ _, HW2.out _ _⟩ : MRd _ _ _)).mono ?_) | (go_at_call 116; refine (SC.use (spec_l05SetNum _ _ (by omega) (by omega)) (fun _ => True) (fun _ _ => trivial) (by first | exact HL.out | exact HL.out.last) (⟨_, _, _, rfl, HW0.out _ _, HW1.out _ _, HW2.out _ _⟩ : MRd _ _ _)).mono ?_)); (rintro e w2 ⟨v2, x, m2, rfl, hx, hm, hb, HL2⟩); (obtain ⟨b0, d0, b1, d1, b2, d2, rfl, q0, q1, q2⟩ := hm.form; obtain ⟨B', P, R, Z', Zx⟩ := box_later B Z hb; clear Zx; clear hm hb; (clear HW0 HW1 HW2 B Z; have e1 := setB_two P R; rw [← e1]; clear e1; have HW0 := Lib.hid (fun o r => rdl_two (str_cells _) q0 P R o r); have HW1 := Lib.hid (fun o r => rdl_two (str_strs _) q1 P R o r); have HW2 := Lib.hid (fun o r => rdl_two (str_strs _) q2 P R o r); have B := B'; have Z := Z'; (try clear Zp); have Zp := Nat.lt_of_succ_lt Z; clear B' Z' P R q0 q1 q2; (try simp only [])); clear HL; have HL := Lib.hid HL2; clear HL2; (all_goals ((repeat' ((rcases HL.out.ite with ⟨hg, HL2⟩ | ⟨hg, HL2⟩ <;> (clear HL; have HL := Lib.hid HL2; clear HL2)))))))) | ((go_at_call 113; refine (spec_NameOk _ _ (by omega)).mono ?_); rintro e w2 ⟨rfl, rfl⟩; (try simp only []); (try rw [HN.out]); (try rw [HM.out])))) | ((first | refine wp_region_ordU (id := 9) [(0, true), (1, true), (2, false), (3, false), (4, true), (5, true), (6, true), (7, false), (8, false)] 4 (by kernel_rfl) (by kernel_rfl) ?_ | refine wp_region_ordU (id := 13) [(0, true), (1, true), (3, true), (4, true), (2, false), (5, false), (6, false), (7, false)] 6 (by kernel_rfl) (by kernel_rfl) ?_); (repeat (first | (refine wpOrd_quiet rfl (fun K hK => ?_); go_simp; (try simp (disch := omega) only [IntWalk.i64_in, Int.tmod_eq_emod_of_nonneg, Int.tdiv_eq_ediv_of_nonneg]); refine hK _ ?_; clear hK K) | (refine wpOrd_grow rfl (fun K hK => ?_); go_simp; (first | ((go_at_call 117; refine (spec_KeyNum _ _ _ _ (by first | omega | decide) (by first | omega | decide) (by omega) (by omega)).mono ?_); rintro e w' ⟨rfl, hb⟩; obtain ⟨X, rfl⟩ := hb.ext; clear hb) | ((first | (go_at_call 116; refine (SC.use (spec_l05SetNum _ _ (by omega) (by omega)) (fun _ => True) (fun _ _ => trivial) (by first | exact HL.out | exact HL.out.last) (⟨_, _, _, rfl, by (refine ⟨?_, ?_, ?_⟩ <;> ((repeat (first | with_reducible exact HW0.out _ _ | with_reducible exact HW1.out _ _ | with_reducible exact HW2.out _ _ | with_reducible refine RdL.ext ?_ _))))⟩ : MRd _ _ _)).mono ?_) | (go_at_call 110; refine (SC.use (spec_l05NumAt _) (fun a => 0 ≤ a ∧ a ≤ 999) (fun m _ => num_bd _ m) (by first | exact HL.out | exact HL.out.last) (⟨_, _, _, rfl, by (refine ⟨?_, ?_, ?_⟩ <;> ((repeat (first | with_reducible exact HW0.out _ _ | with_reducible exact HW1.out _ _ | with_reducible exact HW2.out _ _ | with_reducible refine RdL.ext ?_ _))))⟩ : MRd _ _ _)).mono ?_)); (rintro e w' ⟨v2, x, m2, rfl, hx, hm, hb, HL2⟩); clear HL; have HL := Lib.hid HL2; clear HL2; obtain ⟨f0, g0, f1, g1, f2, g2, rfl, q0, q1, q2⟩ := hm.form; obtain ⟨X, rfl⟩ := hb.ext; have Q0 := Lib.hid q0; have Q1 := Lib.hid q1; have Q2 := Lib.hid q2; clear hm q0 q1 q2 hb)); (try go_simp); refine hK _ _ (by show Sx _ _; repeat (first | with_reducible apply Sx.more | with_reducible apply Sx.ext | with_reducible exact Sx.refl _)) ?_; clear hK K) | (refine wpOrd_tail rfl rfl (fun K hK => ?_); go_simp; refine hK _ _ ?_; clear hK K))); have Q0' := Q0.out; have Q1' := Q1.out; have Q2' := Q2.out; clear Q0 Q1 Q2; (try simp only [World.ext_ext, World.drew_ext, Array.append_assoc] at Q0' Q1' Q2'); refine wpOrd_nilT w m2 f0 g0 f1 g1 f2 g2 ⟨(S_of B _ _).ofExt _, (two_ext Z _ _ _).1, (two_ext Z _ _ _).2, both_set (str_cells _) Z Q0' _ _, both_set (str_strs _) Z Q1' _ _, both_set (str_strs _) Z Q2' _ _, World.lt_of_get (two_ext Z _ _ _).2⟩ ?_; clear Q0' Q1' Q2'; rintro w3 ⟨B', P, R, q0, q1, q2, Z'⟩; (clear HW0 HW1 HW2 B Z; have e1 := setB_two P R; rw [← e1]; clear e1; have HW0 := Lib.hid (fun o r => rdl_two (str_cells _) q0 P R o r); have HW1 := Lib.hid (fun o r => rdl_two (str_strs _) q1 P R o r); have HW2 := Lib.hid (fun o r => rdl_two (str_strs _) q2 P R o r); have B := B'; have Z := Z'; (try clear Zp); have Zp := Nat.lt_of_succ_lt Z; clear B' Z' P R q0 q1 q2); (all_goals ((repeat' ((rcases HL.out.ite with ⟨hg, HL2⟩ | ⟨hg, HL2⟩ <;> (clear HL; have HL := Lib.hid HL2; clear HL2))))))) | (exfalso; (simp only [bne_eq_false_iff_eq, beq_eq_false_iff_ne, beq_iff_eq, bne_iff_ne] at *); omega)))))
 all_goals (obtain ⟨rfl, rfl⟩ := HL.out.end; refine bodyPost_ret (by simp [results, Tryz.results67, go_sem, Z]; rfl) rfl ?_; exact ⟨_, rfl, ⟨_, _, _, rfl, HW0.out _ _, HW1.out _ _, HW2.out _ _⟩, S_of B _ _⟩)
theorem spec_l08MakePipe  : SC 72 (fun x => #[x]) K.makePipe (fun v' p => .tuple #[v', .int .i64 p.1, .int .i64 p.2]) := by
 refine SCgo (fun w m a0 c0 a1 c1 a2 c2 res mres H0 H1 H2 HL => ?_)
 unfold K.makePipe at HL
 ((repeat' ((rcases HL.out.ite with ⟨hg, HL2⟩ | ⟨hg, HL2⟩ <;> (clear HL; have HL := Lib.hid HL2; clear HL2)))))
 all_goals (go_enter Tryz.func72, Tryz.ntmps72; ((repeat (first | ((with_reducible refine opqM2 w (.cells #[.slice a0 m.cells.length c0, .slice a1 m.rd.length c1, .slice a2 m.wr.length c2] 60) (.cells #[.slice none 0 0, .slice none 0 0, .slice none 0 0] 60) ?_ ?_); (· with_reducible exact box_first w (.cells #[.slice a0 m.cells.length c0, .slice a1 m.rd.length c1, .slice a2 m.wr.length c2] 60) (.cells #[.slice none 0 0, .slice none 0 0, .slice none 0 0] 60) (by repeat (first | with_reducible exact Below.refl _ _ | with_reducible apply Below.ofAlloc)))) | go_skip | go_guarded | go_step | go_upon | go_back)); (rintro w1 ⟨B, P, R⟩; have Z := World.lt_of_get R; have e1 := setB_two P R; rw [← e1]; have HW0 := Lib.hid (fun o r => H0.out.below (S_of B o r)); have HW1 := Lib.hid (fun o r => H1.out.below (S_of B o r)); have HW2 := Lib.hid (fun o r => H2.out.below (S_of B o r)); have Zp := Nat.lt_of_succ_lt Z; clear e1 P R H0 H1 H2; ((repeat' ((rcases HL.out.ite with ⟨hg, HL2⟩ | ⟨hg, HL2⟩ <;> (clear HL; have HL := Lib.hid HL2; clear HL2))))))); all_goals ((repeat' (first | go_skip | go_guarded | go_step | go_upon | go_back | ((((first | (go_at_call 115; refine (SC.use (spec_l05Bumped _) (fun a => 0 ≤ a ∧ a ≤ 999) (fun m _ => bump_bd _ m) (by first | exact HL.out | exact HL.out.last) (⟨_, _, _, rfl, HW0.out _ _, HW1.out _ _, HW2.out _ _⟩ : MRd _ _ _)).mono ?_) | (go_at_call 110; refine (SC.use (spec_l05NumAt _) (fun a => 0 ≤ a ∧ a ≤ 999) (fun m _ => num_bd _ m) (by first | exact HL.out | exact HL.out.last) (⟨_, _, _, rfl, HW0.out _ _, HW1.out _ _, HW2.out _ _⟩ : MRd _ _ _)).mono ?_)); (rintro e w2 ⟨v2, x, m2, rfl, hx, hm, hb, HL2⟩); (obtain ⟨b0, d0, b1, d1, b2, d2, rfl, q0, q1, q2⟩ := hm.form; obtain ⟨B', P, R, Z', Zx⟩ := box_later B Z hb; clear Zx; clear hm hb; (clear HW0 HW1 HW2 B Z; have e1 := setB_two P R; rw [← e1]; clear e1; have HW0 := Lib.hid (fun o r => rdl_two (str_cells _) q0 P R o r); have HW1 := Lib.hid (fun o r => rdl_two (str_strs _) q1 P R o r); have HW2 := Lib.hid (fun o r => rdl_two (str_strs _) q2 P R o r); have B := B'; have Z := Z'; (try clear Zp); have Zp := Nat.lt_of_succ_lt Z; clear B' Z' P R q0 q1 q2; (try simp only [])); clear HL; have HL := Lib.hid HL2; clear HL2; (all_goals ((repeat' ((rcases HL.out.ite with ⟨hg, HL2⟩ | ⟨hg, HL2⟩ <;> (clear HL; have HL := Lib.hid HL2; clear HL2)))))))))) | (refine wp_region_ordU (id := 5) [(0, true), (1, true), (4, true), (2, false), (3, false), (5, false), (6, false), (7, false)] 4 (by kernel_rfl) (by kernel_rfl) ?_; (repeat (first | (refine wpOrd_quiet rfl (fun K hK => ?_); go_simp; refine hK _ ?_; clear hK K) | (refine wpOrd_grow rfl (fun K hK => ?_); go_simp; (first | ((go_at_call 124; refine (spec_l08Key _ _ _ (by decide) (by omega) (by omega)).mono ?_); rintro e w' ⟨rfl, hb⟩; obtain ⟨X, rfl⟩ := hb.ext; clear hb) | (((go_at_call 116; refine (SC.use (spec_l05SetNum _ _ (by omega) (by omega)) (fun _ => True) (fun _ _ => trivial) (by first | exact HL.out | exact HL.out.last) (⟨_, _, _, rfl, by (refine ⟨?_, ?_, ?_⟩ <;> ((repeat (first | with_reducible exact HW0.out _ _ | with_reducible exact HW1.out _ _ | with_reducible exact HW2.out _ _ | with_reducible refine RdL.ext ?_ _))))⟩ : MRd _ _ _)).mono ?_)); (rintro e w' ⟨v2, x, m2, rfl, hx, hm, hb, HL2⟩); clear HL; have HL := Lib.hid HL2; clear HL2; obtain ⟨f0, g0, f1, g1, f2, g2, rfl, q0, q1, q2⟩ := hm.form; obtain ⟨X, rfl⟩ := hb.ext; have Q0 := Lib.hid q0; have Q1 := Lib.hid q1; have Q2 := Lib.hid q2; clear hm q0 q1 q2 hb)); (try go_simp); refine hK _ _ (by show Sx _ _; repeat (first | with_reducible apply Sx.more | with_reducible apply Sx.ext | with_reducible exact Sx.refl _)) ?_; clear hK K) | (refine wpOrd_tail rfl rfl (fun K hK => ?_); go_simp; refine hK _ _ ?_; clear hK K))); have Q0' := Q0.out; have Q1' := Q1.out; have Q2' := Q2.out; clear Q0 Q1 Q2; (try simp only [World.ext_ext, World.drew_ext, Array.append_assoc] at Q0' Q1' Q2'); refine wpOrd_nilT w m2 f0 g0 f1 g1 f2 g2 ⟨(S_of B _ _).ofExt _, (two_ext Z _ _ _).1, (two_ext Z _ _ _).2, both_set (str_cells _) Z Q0' _ _, both_set (str_strs _) Z Q1' _ _, both_set (str_strs _) Z Q2' _ _, World.lt_of_get (two_ext Z _ _ _).2⟩ ?_; clear Q0' Q1' Q2'; rintro w3 ⟨B', P, R, q0, q1, q2, Z'⟩; (clear HW0 HW1 HW2 B Z; have e1 := setB_two P R; rw [← e1]; clear e1; have HW0 := Lib.hid (fun o r => rdl_two (str_cells _) q0 P R o r); have HW1 := Lib.hid (fun o r => rdl_two (str_strs _) q1 P R o r); have HW2 := Lib.hid (fun o r => rdl_two (str_strs _) q2 P R o r); have B := B'; have Z := Z'; (try clear Zp); have Zp := Nat.lt_of_succ_lt Z; clear B' Z' P R q0 q1 q2); (all_goals ((repeat' ((rcases HL.out.ite with ⟨hg, HL2⟩ | ⟨hg, HL2⟩ <;> (clear HL; have HL := Lib.hid HL2; clear HL2))))))) | (exfalso; (simp only [bne_eq_false_iff_eq, beq_eq_false_iff_ne, beq_iff_eq, bne_iff_ne] at *); omega)))))
 all_goals (obtain ⟨rfl, rfl⟩ := HL.out.end; refine bodyPost_ret (by simp [results, Tryz.results72, go_sem, Z]; rfl) rfl ?_; exact ⟨_, rfl, ⟨_, _, _, rfl, HW0.out _ _, HW1.out _ _, HW2.out _ _⟩, S_of B _ _⟩)
theorem spec_l08PutPipe (id : Int) (id0 : -9223372036854775808 ≤ id) (id1 : id ≤ 9223372036854775807) (text : ByteArray) (textz : text.size ≤ 1048576) : SC 73 (fun x => #[x, .int .i64 id, .string text]) (K.putPipe id text) (fun v' n => .tuple #[v', .int .i64 n]) := by
 refine SCgo (fun w m a0 c0 a1 c1 a2 c2 res mres H0 H1 H2 HL => ?_)
 unfold K.putPipe at HL
 have hh := hexT_size text
 have hc : ¬ 9223372036854775807 < 1 + (hexT text).size := by omega
 ((repeat' ((rcases HL.out.ite with ⟨hg, HL2⟩ | ⟨hg, HL2⟩ <;> (clear HL; have HL := Lib.hid HL2; clear HL2)))))
 all_goals (go_enter Tryz.func73, Tryz.ntmps73; ((repeat (first | ((with_reducible refine opqM2 w (.cells #[.slice a0 m.cells.length c0, .slice a1 m.rd.length c1, .slice a2 m.wr.length c2] 60) (.cells #[.slice none 0 0, .slice none 0 0, .slice none 0 0] 60) ?_ ?_); (· with_reducible exact box_first w (.cells #[.slice a0 m.cells.length c0, .slice a1 m.rd.length c1, .slice a2 m.wr.length c2] 60) (.cells #[.slice none 0 0, .slice none 0 0, .slice none 0 0] 60) (by repeat (first | with_reducible exact Below.refl _ _ | with_reducible apply Below.ofAlloc)))) | go_skip | go_guarded | go_step | go_upon | go_back)); (rintro w1 ⟨B, P, R⟩; have Z := World.lt_of_get R; have e1 := setB_two P R; rw [← e1]; have HW0 := Lib.hid (fun o r => H0.out.below (S_of B o r)); have HW1 := Lib.hid (fun o r => H1.out.below (S_of B o r)); have HW2 := Lib.hid (fun o r => H2.out.below (S_of B o r)); have Zp := Nat.lt_of_succ_lt Z; clear e1 P R H0 H1 H2; ((repeat' ((rcases HL.out.ite with ⟨hg, HL2⟩ | ⟨hg, HL2⟩ <;> (clear HL; have HL := Lib.hid HL2; clear HL2))))))); all_goals ((repeat' (first | go_skip | go_guarded | go_step | go_upon | go_back | ((first | (((go_at_call 125; refine (SC.use (spec_l08IsPipe _ (by omega) (by omega)) (fun _ => True) (fun _ _ => trivial) (by first | exact HL.out | exact HL.out.last) (⟨_, _, _, rfl, HW0.out _ _, HW1.out _ _, HW2.out _ _⟩ : MRd _ _ _)).mono ?_)); (rintro e w2 ⟨v2, x, m2, rfl, hx, hm, hb, HL2⟩); (obtain ⟨b0, d0, b1, d1, b2, d2, rfl, q0, q1, q2⟩ := hm.form; obtain ⟨B', P, R, Z', Zx⟩ := box_later B Z hb; clear Zx; clear hm hb; (clear HW0 HW1 HW2 B Z; have e1 := setB_two P R; rw [← e1]; clear e1; have HW0 := Lib.hid (fun o r => rdl_two (str_cells _) q0 P R o r); have HW1 := Lib.hid (fun o r => rdl_two (str_strs _) q1 P R o r); have HW2 := Lib.hid (fun o r => rdl_two (str_strs _) q2 P R o r); have B := B'; have Z := Z'; (try clear Zp); have Zp := Nat.lt_of_succ_lt Z; clear B' Z' P R q0 q1 q2; (try simp only [])); clear HL; have HL := Lib.hid HL2; clear HL2; (all_goals ((repeat' ((rcases HL.out.ite with ⟨hg, HL2⟩ | ⟨hg, HL2⟩ <;> (clear HL; have HL := Lib.hid HL2; clear HL2)))))))) | (((go_at_call 126; refine (spec_Hex _ _ (by omega)).mono ?_)); rintro e w2 ⟨rfl, hb⟩; (have q0 := (HW0.out _ _).below hb; have q1 := (HW1.out _ _).below hb; have q2 := (HW2.out _ _).below hb; obtain ⟨B', P, R, Z', Zx⟩ := box_later B Z hb; clear Zx; clear hb; (clear HW0 HW1 HW2 B Z; have e1 := setB_two P R; rw [← e1]; clear e1; have HW0 := Lib.hid (fun o r => rdl_two (str_cells _) q0 P R o r); have HW1 := Lib.hid (fun o r => rdl_two (str_strs _) q1 P R o r); have HW2 := Lib.hid (fun o r => rdl_two (str_strs _) q2 P R o r); have B := B'; have Z := Z'; (try clear Zp); have Zp := Nat.lt_of_succ_lt Z; clear B' Z' P R q0 q1 q2; (try simp only [])))))) | ((first | refine wp_region_ordU (id := 6) [(0, true), (1, true), (2, false), (3, false), (4, true), (5, true), (6, true), (7, false), (8, false)] 4 (by kernel_rfl) (by kernel_rfl) ?_ | refine wp_region_ordU (id := 7) [(0, true), (1, true), (2, false), (3, false), (4, true), (5, true), (6, true), (7, false), (8, false)] 4 (by kernel_rfl) (by kernel_rfl) ?_ | refine wp_region_ordU (id := 13) [(0, true), (1, true), (3, true), (4, true), (2, false), (5, false), (6, false)] 6 (by kernel_rfl) (by kernel_rfl) ?_ | refine wp_region_ordU (id := 14) [(0, true), (1, true), (2, true), (3, true), (5, true), (6, true), (4, false), (7, false), (8, false), (9, false)] 8 (by kernel_rfl) (by kernel_rfl) ?_); (repeat (first | (refine wpOrd_quiet rfl (fun K hK => ?_); go_simp; (try simp (disch := omega) only [IntWalk.i64_in, Int.tmod_eq_emod_of_nonneg, Int.tdiv_eq_ediv_of_nonneg]); refine hK _ ?_; clear hK K) | (refine wpOrd_grow rfl (fun K hK => ?_); go_simp; (first | ((first | (go_at_call 127; refine (spec_l08Message _ _ _ (by omega) (by omega) (by omega) (by omega)).mono ?_) | (go_at_call 124; refine (spec_l08Key _ _ _ (by decide) (by omega) (by omega)).mono ?_)); rintro e w' ⟨rfl, hb⟩; obtain ⟨X, rfl⟩ := hb.ext; clear hb) | ((first | (go_at_call 116; refine (SC.use (spec_l05SetNum _ _ (by omega) (by omega)) (fun _ => True) (fun _ _ => trivial) (by first | exact HL.out | exact HL.out.last) (⟨_, _, _, rfl, by (refine ⟨?_, ?_, ?_⟩ <;> ((repeat (first | with_reducible exact HW0.out _ _ | with_reducible exact HW1.out _ _ | with_reducible exact HW2.out _ _ | with_reducible refine RdL.ext ?_ _))))⟩ : MRd _ _ _)).mono ?_) | (go_at_call 110; refine (SC.use (spec_l05NumAt _) (fun a => 0 ≤ a ∧ a ≤ 999) (fun m _ => num_bd _ m) (by first | exact HL.out | exact HL.out.last) (⟨_, _, _, rfl, by (refine ⟨?_, ?_, ?_⟩ <;> ((repeat (first | with_reducible exact HW0.out _ _ | with_reducible exact HW1.out _ _ | with_reducible exact HW2.out _ _ | with_reducible refine RdL.ext ?_ _))))⟩ : MRd _ _ _)).mono ?_) | (go_at_call 118; refine (SC.use (spec_l04Lay _ _) (fun _ => True) (fun _ _ => trivial) (by first | exact HL.out | exact HL.out.last) (⟨_, _, _, rfl, by (refine ⟨?_, ?_, ?_⟩ <;> ((repeat (first | with_reducible exact HW0.out _ _ | with_reducible exact HW1.out _ _ | with_reducible exact HW2.out _ _ | with_reducible refine RdL.ext ?_ _))))⟩ : MRd _ _ _)).mono ?_)); (rintro e w' ⟨v2, x, m2, rfl, hx, hm, hb, HL2⟩); clear HL; have HL := Lib.hid HL2; clear HL2; obtain ⟨f0, g0, f1, g1, f2, g2, rfl, q0, q1, q2⟩ := hm.form; obtain ⟨X, rfl⟩ := hb.ext; have Q0 := Lib.hid q0; have Q1 := Lib.hid q1; have Q2 := Lib.hid q2; clear hm q0 q1 q2 hb)); (try go_simp); refine hK _ _ (by show Sx _ _; repeat (first | with_reducible apply Sx.more | with_reducible apply Sx.ext | with_reducible exact Sx.refl _)) ?_; clear hK K) | (refine wpOrd_tail rfl rfl (fun K hK => ?_); go_simp; refine hK _ _ ?_; clear hK K))); have Q0' := Q0.out; have Q1' := Q1.out; have Q2' := Q2.out; clear Q0 Q1 Q2; (try simp only [World.ext_ext, World.drew_ext, Array.append_assoc] at Q0' Q1' Q2'); refine wpOrd_nilT w m2 f0 g0 f1 g1 f2 g2 ⟨(S_of B _ _).ofExt _, (two_ext Z _ _ _).1, (two_ext Z _ _ _).2, both_set (str_cells _) Z Q0' _ _, both_set (str_strs _) Z Q1' _ _, both_set (str_strs _) Z Q2' _ _, World.lt_of_get (two_ext Z _ _ _).2⟩ ?_; clear Q0' Q1' Q2'; rintro w3 ⟨B', P, R, q0, q1, q2, Z'⟩; (clear HW0 HW1 HW2 B Z; have e1 := setB_two P R; rw [← e1]; clear e1; have HW0 := Lib.hid (fun o r => rdl_two (str_cells _) q0 P R o r); have HW1 := Lib.hid (fun o r => rdl_two (str_strs _) q1 P R o r); have HW2 := Lib.hid (fun o r => rdl_two (str_strs _) q2 P R o r); have B := B'; have Z := Z'; (try clear Zp); have Zp := Nat.lt_of_succ_lt Z; clear B' Z' P R q0 q1 q2); (all_goals ((repeat' ((rcases HL.out.ite with ⟨hg, HL2⟩ | ⟨hg, HL2⟩ <;> (clear HL; have HL := Lib.hid HL2; clear HL2))))))) | (exfalso; (simp only [bne_eq_false_iff_eq, beq_eq_false_iff_ne, beq_iff_eq, bne_iff_ne] at *); omega)))))
 all_goals (obtain ⟨rfl, rfl⟩ := HL.out.end; refine bodyPost_ret (by simp [results, Tryz.results73, go_sem, Z]; rfl) rfl ?_; exact ⟨_, rfl, ⟨_, _, _, rfl, HW0.out _ _, HW1.out _ _, HW2.out _ _⟩, S_of B _ _⟩)
end Go.Proofs.YtieenbnmfaekiaaGreatDoor
