/- The laws' measure, copy, comparison of slices of Tx. Each condition stands in its theorem. -/
import Derived.Test.YtefenfglkfdoaaaCTx
set_option linter.unusedVariables false
set_option linter.unusedSimpArgs false
namespace Go.Proofs.Ytefenfglkfdoaaa
open Go.ChangeShapes Go.WideShapes Go.ChangeAt Go.RowKit

set_option maxRecDepth 100000 in
theorem laws_szTxS (v : Value) (ds : List TxD) (left : Int) (w : World) {e : TypeId} (hs : (vSlice vTx e).rd w [v] ds) (h0 : 0 ≤ left) (h1 : left ≤ 4294967296) :
    Calls Try.prog 31 #[v, .int .i64 left] w fun e w' => e = .returned (.int .i64 (leftOf left (wtS TxD.wt ds))) ∧ Below w.heap.size w w' := by
  obtain ⟨ao, cap, rfl, hc1, hc2, hnil, hcell⟩ := vSlice.shape hs
  have HX := Lib.hid hcell
  clear hcell hs hnil
  unfold maxLen at hc2
  have hsub : wrap64 (left - ds.length) = left - ds.length := IntWalk.wrap64_in _ (by omega)
  by_cases hl : left - ds.length < 0
  · rw [leftOf_none (by unfold wtS; omega)]
    go_enter Try.func31, Try.ntmps31
    go_wp2
    go_ret
    exact ⟨rfl, (by repeat (first | with_reducible exact Below.refl _ _ | with_reducible apply Below.ofExt | with_reducible apply Below.ofAlloc | with_reducible apply Below.drew | with_reducible apply Below.ofDrewN | with_reducible assumption | (with_reducible refine Below.setCell ?_ (by first | exact Nat.le_refl _ | (simp [go_sem]; done) | (simp [go_sem]; omega)) _)))⟩
  · go_enter Try.func31, Try.ntmps31
    go_wp2
    go_loopw [1, 5] (fun l k wr => ∃ (n : Nat) (m : Int) (X : Ext), k = .int .i64 n ∧ n ≤ ds.length ∧ wr = w.ext X ∧ l = .int .i64 m ∧ m + ((ds.take n).map TxD.wt).sum = left - ds.length ∧ 0 ≤ m) (fun _ k _ => ds.length - (intOf k).toNat)
    case atStart => exact ⟨0, _, ⟨#[], _⟩, rfl, by omega, (World.ext_nil _ _ rfl).symm, rfl, by simp, by omega⟩
    case round =>
      obtain ⟨n, m, X, rfl, hn, rfl, rfl, hsum, hm⟩ := hrel
      have HS := Lib.hid hsum
      have hm2 : m ≤ left := by omega
      clear hsum
      by_cases hlt : (n : Int) < ds.length
      · have hk : n < ds.length := by omega
        obtain ⟨b, off, cs, rfl, hbl, hrd, hcell⟩ := HX.out n hk
        have hstep := sum_take_step TxD.wt ds n hk
        have hle := sum_take_le TxD.wt ds (n + 1)
        generalize ds[n] = d at hrd hstep
        have HT := Lib.hid hstep
        have HL := Lib.hid hle
        clear hstep hle
        obtain ⟨s0, s1, s2, s3, s4, rfl, h0, h1, h2, h3, h4⟩ := hrd
        obtain ⟨a0, c0, rfl⟩ := vSlice.form h0
        obtain ⟨a1, c1, rfl⟩ := vSlice.form h1
        obtain ⟨a2, c2, rfl⟩ := vSlice.form h2
        obtain ⟨a3, c3, rfl⟩ := vSlice.form h3
        obtain ⟨a4, c4, rfl⟩ := vSlice.form h4
        have H0 := Lib.hid h0
        have H1 := Lib.hid h1
        have H2 := Lib.hid h2
        have H3 := Lib.hid h3
        have H4 := Lib.hid h4
        clear h0 h1 h2 h3 h4
        have y0 := hcell 0 _ rfl
        have y1 := hcell 1 _ rfl
        have y2 := hcell 2 _ rfl
        have y3 := hcell 3 _ rfl
        have y4 := hcell 4 _ rfl
        have y5 := hcell 5 _ rfl
        have y6 := hcell 6 _ rfl
        have y7 := hcell 7 _ rfl
        have y8 := hcell 8 _ rfl
        have y9 := hcell 9 _ rfl
        clear hcell
        simp only [show vTx.k = 10 from rfl, Nat.add_zero] at y0 y1 y2 y3 y4 y5 y6 y7 y8 y9
        go_wp2_with fail
        (go_at_call 23; refine (laws_szTx _ d m _ ⟨_, _, _, _, _, rfl, (by repeat (first | with_reducible exact H0.out | with_reducible apply View.rdMerge | with_reducible apply View.rdExt | with_reducible apply View.rdAlloc | with_reducible apply View.rdDrew)), (by repeat (first | with_reducible exact H1.out | with_reducible apply View.rdMerge | with_reducible apply View.rdExt | with_reducible apply View.rdAlloc | with_reducible apply View.rdDrew)), (by repeat (first | with_reducible exact H2.out | with_reducible apply View.rdMerge | with_reducible apply View.rdExt | with_reducible apply View.rdAlloc | with_reducible apply View.rdDrew)), (by repeat (first | with_reducible exact H3.out | with_reducible apply View.rdMerge | with_reducible apply View.rdExt | with_reducible apply View.rdAlloc | with_reducible apply View.rdDrew)), (by repeat (first | with_reducible exact H4.out | with_reducible apply View.rdMerge | with_reducible apply View.rdExt | with_reducible apply View.rdAlloc | with_reducible apply View.rdDrew))⟩ hm (by omega)).mono ?_; rintro e w' ⟨rfl, hb⟩; obtain ⟨X, rfl⟩ := hb.ext; clear hb)
        have q : ∃ q : Nat, q = TxD.wt d := ⟨_, rfl⟩
        obtain ⟨wt, hwt⟩ := q
        rw [← hwt]
        rw [← hwt] at HT
        clear hwt
        by_cases hg : (wt : Int) ≤ m
        · rw [leftOf_pos hg]
          have hg2 : ¬ m - (wt : Int) < 0 := by omega
          go_wp2
          go_roundw
          case rel => exact ⟨n + 1, m - wt, _, by go_num, by omega, rfl, rfl, by rw [HT.out]; have := HS.out; omega, by omega⟩
          case measure => simp [intOf]; omega
        · rw [leftOf_none hg]
          go_wp2
          go_ret
          refine ⟨?_, (by repeat (first | with_reducible exact Below.refl _ _ | with_reducible apply Below.ofExt | with_reducible apply Below.ofAlloc | with_reducible apply Below.drew | with_reducible apply Below.ofDrewN | with_reducible assumption | (with_reducible refine Below.setCell ?_ (by first | exact Nat.le_refl _ | (simp [go_sem]; done) | (simp [go_sem]; omega)) _)))⟩
          have := HS.out
          have h2 := HT.out
          have h3 := HL.out
          rw [leftOf_none (by unfold wtS; omega)]
          rfl
      · go_wp2
        go_ret
        refine ⟨?_, (by repeat (first | with_reducible exact Below.refl _ _ | with_reducible apply Below.ofExt | with_reducible apply Below.ofAlloc | with_reducible apply Below.drew | with_reducible apply Below.ofDrewN | with_reducible assumption | (with_reducible refine Below.setCell ?_ (by first | exact Nat.le_refl _ | (simp [go_sem]; done) | (simp [go_sem]; omega)) _)))⟩
        have e : n = ds.length := by omega
        subst e
        have := HS.out
        rw [List.take_length] at this
        rw [leftOf_pos (by unfold wtS; omega)]
        exact ret_int (by unfold wtS; omega)
theorem Try.elemTxS : Elem Try.prog 48 29 10 160 := Elem.of (.agg #[.int .i64 0, .int .i64 0, .int .i64 0, .int .i64 0, .slice none 0 0, .slice none 0 0, .slice none 0 0, .slice none 0 0, .slice none 0 0, .int .i64 0]) Try.underlying48 (by kernel_rfl) rfl (by decide)
theorem TxS_wt {ds : List TxD} {N : Nat} (h : wtS TxD.wt ds ≤ N) : ds.length ≤ N ∧ ∀ d ∈ ds, d.wt ≤ N := by
  unfold wtS at h
  refine ⟨by omega, fun d hd => ?_⟩
  have : d.wt ≤ (ds.map TxD.wt).sum := by
    clear h
    induction ds with
    | nil => cases hd
    | cons x xs ih =>
      simp only [List.map_cons, List.sum_cons]
      rcases List.mem_cons.1 hd with rfl | hd
      · omega
      · have := ih hd
        omega
  omega
set_option maxRecDepth 100000 in
set_option maxHeartbeats 400000 in
theorem laws_toTxS (v : Value) (ds : List TxD) (w : World) {e : TypeId} (hs : (vSlice vTx e).rd w [v] ds) (hwt : wtS TxD.wt ds ≤ 1048576) :
    Calls Try.prog 33 #[v] w (Made (vSlice vTx 29) w ds) := by
  obtain ⟨ao, cap, rfl, hc1, hc2, hnil, hcell⟩ := vSlice.shape hs
  have HX := Lib.hid hcell
  obtain ⟨hl, hwts⟩ := TxS_wt hwt
  have HW := Lib.hid hwts
  clear hcell hs hnil hwt hwts
  unfold maxLen at hc2
  obtain ⟨cs0, hsz0, hmk⟩ := Elem.make Try.elemTxS ds.length (by omega) (by omega)
  go_enter Try.func33, Try.ntmps33
  go_wp2
  go_loopw [4] (fun k wr => ∃ (n : Nat) (cs : Array Value) (X : Ext) (css : List (List Value)) (fps : List (List Nat)), k = .int .i64 n ∧ n ≤ ds.length ∧ wr = (w.alloc (.cells cs 29)).ext X ∧ cs.size = ds.length * 10 ∧ cs.toList.take (n * 10) = css.flatten ∧
    RowsOwn vTx wr css fps (ds.take n) ∧ Sp (w.heap.size + 1) wr.heap.size fps.flatten) (fun k _ => ds.length - (intOf k).toNat)
  case atStart => exact ⟨0, cs0, ⟨#[], _⟩, [], [], rfl, by omega, (World.ext_nil _ _ rfl).symm, hsz0, by simp, RowsOwn.nil _ _, Sp.nil _ _⟩
  case round =>
    obtain ⟨n, cs, X, css, fps, rfl, hn, rfl, hsz, htk, hro, hsp⟩ := hrel
    have HT := Lib.hid htk
    have HSZ := Lib.hid hsz
    have HR := Lib.hid hro
    have HP := Lib.hid hsp
    clear htk hmk hsz0 hsz hro hsp
    by_cases hlt : (n : Int) < ds.length
    · have hk : n < ds.length := by omega
      obtain ⟨b, off, cs', rfl, hbl, hrd, hcell⟩ := HX.out n hk
      have hdw := HW.out _ (List.getElem_mem hk)
      have htake : ds.take (n + 1) = ds.take n ++ [ds[n]] := List.take_succ_eq_append_getElem hk
      generalize ds[n] = d at hrd hdw htake
      have HF := Lib.hid htake
      have HDW := Lib.hid hdw
      clear htake hdw
      obtain ⟨s0, s1, s2, s3, s4, rfl, h0, h1, h2, h3, h4⟩ := hrd
      obtain ⟨a0, c0, rfl⟩ := vSlice.form h0
      obtain ⟨a1, c1, rfl⟩ := vSlice.form h1
      obtain ⟨a2, c2, rfl⟩ := vSlice.form h2
      obtain ⟨a3, c3, rfl⟩ := vSlice.form h3
      obtain ⟨a4, c4, rfl⟩ := vSlice.form h4
      have H0 := Lib.hid h0
      have H1 := Lib.hid h1
      have H2 := Lib.hid h2
      have H3 := Lib.hid h3
      have H4 := Lib.hid h4
      clear h0 h1 h2 h3 h4
      have y0 := hcell 0 _ rfl
      have y1 := hcell 1 _ rfl
      have y2 := hcell 2 _ rfl
      have y3 := hcell 3 _ rfl
      have y4 := hcell 4 _ rfl
      have y5 := hcell 5 _ rfl
      have y6 := hcell 6 _ rfl
      have y7 := hcell 7 _ rfl
      have y8 := hcell 8 _ rfl
      have y9 := hcell 9 _ rfl
      clear hcell
      simp only [show vTx.k = 10 from rfl, Nat.add_zero] at y0 y1 y2 y3 y4 y5 y6 y7 y8 y9
      have hsz2 : n * 10 + 10 ≤ cs.size := by rw [HSZ.out]; omega
      have o0 : cs[n * 10]? = some cs[n * 10] := Array.getElem?_eq_getElem (by omega)
      have o1 : cs[n * 10 + 1]? = some cs[n * 10 + 1] := Array.getElem?_eq_getElem (by omega)
      have o2 : cs[n * 10 + 2]? = some cs[n * 10 + 2] := Array.getElem?_eq_getElem (by omega)
      have o3 : cs[n * 10 + 3]? = some cs[n * 10 + 3] := Array.getElem?_eq_getElem (by omega)
      have o4 : cs[n * 10 + 4]? = some cs[n * 10 + 4] := Array.getElem?_eq_getElem (by omega)
      have o5 : cs[n * 10 + 5]? = some cs[n * 10 + 5] := Array.getElem?_eq_getElem (by omega)
      have o6 : cs[n * 10 + 6]? = some cs[n * 10 + 6] := Array.getElem?_eq_getElem (by omega)
      have o7 : cs[n * 10 + 7]? = some cs[n * 10 + 7] := Array.getElem?_eq_getElem (by omega)
      have o8 : cs[n * 10 + 8]? = some cs[n * 10 + 8] := Array.getElem?_eq_getElem (by omega)
      have o9 : cs[n * 10 + 9]? = some cs[n * 10 + 9] := Array.getElem?_eq_getElem (by omega)
      generalize cs[n * 10] = x0 at o0
      generalize cs[n * 10 + 1] = x1 at o1
      generalize cs[n * 10 + 2] = x2 at o2
      generalize cs[n * 10 + 3] = x3 at o3
      generalize cs[n * 10 + 4] = x4 at o4
      generalize cs[n * 10 + 5] = x5 at o5
      generalize cs[n * 10 + 6] = x6 at o6
      generalize cs[n * 10 + 7] = x7 at o7
      generalize cs[n * 10 + 8] = x8 at o8
      generalize cs[n * 10 + 9] = x9 at o9
      go_wp2_with fail
      (go_at_call 25; refine (laws_toTx _ d _ ⟨_, _, _, _, _, rfl, (by repeat (first | with_reducible exact H0.out | with_reducible apply View.rdMerge | with_reducible apply View.rdExt | with_reducible apply View.rdAlloc | with_reducible apply View.rdDrew)), (by repeat (first | with_reducible exact H1.out | with_reducible apply View.rdMerge | with_reducible apply View.rdExt | with_reducible apply View.rdAlloc | with_reducible apply View.rdDrew)), (by repeat (first | with_reducible exact H2.out | with_reducible apply View.rdMerge | with_reducible apply View.rdExt | with_reducible apply View.rdAlloc | with_reducible apply View.rdDrew)), (by repeat (first | with_reducible exact H3.out | with_reducible apply View.rdMerge | with_reducible apply View.rdExt | with_reducible apply View.rdAlloc | with_reducible apply View.rdDrew)), (by repeat (first | with_reducible exact H4.out | with_reducible apply View.rdMerge | with_reducible apply View.rdExt | with_reducible apply View.rdAlloc | with_reducible apply View.rdDrew))⟩ HDW.out).mono ?_; rintro e w' ⟨cs1, fp1, rfl, hf1, hb1⟩; obtain ⟨Y, rfl⟩ := hb1.ext; clear hb1)
      have SS := Lib.hid hf1.sp
      have hoo := hf1.own
      obtain ⟨t0, t1, t2, t3, t4, p0, p1, p2, p3, p4, rfl, rfl, r0, r1, r2, r3, r4⟩ := hf1.own
      clear hf1
      obtain ⟨b0, g0, rfl⟩ := vSlice.form (View.toRd _ r0)
      obtain ⟨b1, g1, rfl⟩ := vSlice.form (View.toRd _ r1)
      obtain ⟨b2, g2, rfl⟩ := vSlice.form (View.toRd _ r2)
      obtain ⟨b3, g3, rfl⟩ := vSlice.form (View.toRd _ r3)
      obtain ⟨b4, g4, rfl⟩ := vSlice.form (View.toRd _ r4)
      clear r0 r1 r2 r3 r4
      (try simp only [World.ext_ext] at hoo)
      have HO := Lib.hid hoo
      clear hoo
      go_wp2
      go_roundw
      case rel =>
        have q0 := take_set1' (v := .int .i64 d.id) HT.out rfl rfl (by omega)
        have q1 := take_set1' (v := .int .i64 d.age) q0 rfl rfl (by simp; omega)
        have q2 := take_set1' (v := .int .i64 d.proc) q1 rfl rfl (by simp; omega)
        have q3 := take_set1' (v := .int .i64 d.began) q2 rfl rfl (by simp; omega)
        have q4 := take_set1' (v := .slice b0 d.calls.length g0) q3 rfl rfl (by simp; omega)
        have q5 := take_set1' (v := .slice b1 d.answers.length g1) q4 rfl rfl (by simp; omega)
        have q6 := take_set1' (v := .slice b2 d.touch.reads.length g2) q5 rfl rfl (by simp; omega)
        have q7 := take_set1' (v := .slice b3 d.touch.writes.length g3) q6 rfl rfl (by simp; omega)
        have q8 := take_set1' (v := .slice b4 d.marks.length g4) q7 rfl rfl (by simp; omega)
        have q9 := take_set1' (p := (n + 1) * 10) (v := .int .i64 d.state) q8 rfl (by omega) (by simp; omega)
        refine ⟨n + 1, _, _, css ++ [[.int .i64 d.id, .int .i64 d.age, .int .i64 d.proc, .int .i64 d.began, .slice b0 d.calls.length g0, .slice b1 d.answers.length g1, .slice b2 d.touch.reads.length g2, .slice b3 d.touch.writes.length g3, .slice b4 d.marks.length g4, .int .i64 d.state]], fps ++ [p0 ++ p1 ++ p2 ++ p3 ++ p4], by go_num, by omega, rfl, by simpa using HSZ.out, ?_, ?_, ?_⟩
        rotate_left
        · rw [HF.out]
          refine RowsOwn.snoc (RowsOwn.tail HR.out (fun k hk => by have := HP.out.lo k hk; simp; omega) (by simp) (by (try simp only [← Array.append_assoc]); repeat (first | with_reducible exact Pre.refl _ | with_reducible apply Pre.app))) (View.ownTail HO.out (fun k hk => by have := SS.out.lo k hk; simp [World.ext_size] at this ⊢; omega) (by simp) (by (try simp only [← Array.append_assoc]); repeat (first | with_reducible exact Pre.refl _ | with_reducible apply Pre.app)))
        · rw [List.flatten_append, List.flatten_cons, List.flatten_nil, List.append_nil]
          refine Sp.append (mid := ((w.alloc (.cells cs 29)).ext X).heap.size) (mid' := ((w.alloc (.cells cs 29)).ext X).heap.size) HP.out (SS.out.mono (Nat.le_refl _) ?_) ?_ ?_ ?_ <;> (try simp [World.ext_size]) <;> (try omega)
        · rw [List.flatten_append, List.flatten_cons, List.flatten_nil, List.append_nil]
          simpa using q9
      case measure => simp [intOf]; omega
    · go_wp2
      go_ret
      have e : n = ds.length := by omega
      subst e
      have hr := HR.out
      rw [List.take_length] at hr
      refine ⟨_, _, rfl, ⟨vSlice.ownRows (World.block_ext0 w _ X) rfl (Nat.le_refl _) (by unfold maxLen; omega) HSZ.out HT.out hr, ?_, ?_⟩, (by repeat (first | with_reducible exact Below.refl _ _ | with_reducible apply Below.ofExt | with_reducible apply Below.ofAlloc | with_reducible apply Below.drew | with_reducible apply Below.ofDrewN | with_reducible assumption | (with_reducible refine Below.setCell ?_ (by first | exact Nat.le_refl _ | (simp [go_sem]; done) | (simp [go_sem]; omega)) _)))⟩
      · exact List.nodup_cons.2 ⟨fun h => absurd (HP.out.lo _ h) (by omega), HP.out.nodup⟩
      · intro b hb
        rcases List.mem_cons.1 hb with rfl | hb
        · exact Nat.le_refl _
        · have := HP.out.lo b hb
          omega
set_option maxRecDepth 100000 in
theorem laws_eqTxS (v v' : Value) (ds : List TxD) (w : World) {e e' : TypeId} (hs : (vSlice vTx e).rd w [v] ds) (hs' : (vSlice vTx e').rd w [v'] ds) :
    Calls Try.prog 35 #[v, v'] w fun e w' => e = .returned (.bool true) ∧ Below w.heap.size w w' := by
  obtain ⟨ao, cap, rfl, hc1, hc2, hnil, hcell⟩ := vSlice.shape hs
  obtain ⟨ao', cap', rfl, hc1', hc2', hnil', hcell'⟩ := vSlice.shape hs'
  have HX := Lib.hid hcell
  have HX' := Lib.hid hcell'
  clear hcell hs hnil hcell' hs' hnil'
  unfold maxLen at hc2 hc2'
  go_enter Try.func35, Try.ntmps35
  go_wp2
  go_loopw [5] (fun k wr => ∃ (n : Nat) (X : Ext), k = .int .i64 n ∧ n ≤ ds.length ∧ wr = w.ext X) (fun k _ => ds.length - (intOf k).toNat)
  case atStart => exact ⟨0, ⟨#[], _⟩, rfl, by omega, (World.ext_nil _ _ rfl).symm⟩
  case round =>
    obtain ⟨n, X, rfl, hn, rfl⟩ := hrel
    by_cases hlt : (n : Int) < ds.length
    · have hk : n < ds.length := by omega
      obtain ⟨b, off, cs, rfl, hbl, hrd, hcell⟩ := HX.out n hk
      obtain ⟨b', off', cs', rfl, hbl', hrd', hcell'⟩ := HX'.out n hk
      generalize ds[n] = d at hrd hrd'
      obtain ⟨s0, s1, s2, s3, s4, rfl, h0, h1, h2, h3, h4⟩ := hrd
      obtain ⟨a0, c0, rfl⟩ := vSlice.form h0
      obtain ⟨a1, c1, rfl⟩ := vSlice.form h1
      obtain ⟨a2, c2, rfl⟩ := vSlice.form h2
      obtain ⟨a3, c3, rfl⟩ := vSlice.form h3
      obtain ⟨a4, c4, rfl⟩ := vSlice.form h4
      have H0 := Lib.hid h0
      have H1 := Lib.hid h1
      have H2 := Lib.hid h2
      have H3 := Lib.hid h3
      have H4 := Lib.hid h4
      clear h0 h1 h2 h3 h4
      obtain ⟨t0, t1, t2, t3, t4, rfl, k0, k1, k2, k3, k4⟩ := hrd'
      obtain ⟨b0, g0, rfl⟩ := vSlice.form k0
      obtain ⟨b1, g1, rfl⟩ := vSlice.form k1
      obtain ⟨b2, g2, rfl⟩ := vSlice.form k2
      obtain ⟨b3, g3, rfl⟩ := vSlice.form k3
      obtain ⟨b4, g4, rfl⟩ := vSlice.form k4
      have K0 := Lib.hid k0
      have K1 := Lib.hid k1
      have K2 := Lib.hid k2
      have K3 := Lib.hid k3
      have K4 := Lib.hid k4
      clear k0 k1 k2 k3 k4
      have y0 := hcell 0 _ rfl
      have y1 := hcell 1 _ rfl
      have y2 := hcell 2 _ rfl
      have y3 := hcell 3 _ rfl
      have y4 := hcell 4 _ rfl
      have y5 := hcell 5 _ rfl
      have y6 := hcell 6 _ rfl
      have y7 := hcell 7 _ rfl
      have y8 := hcell 8 _ rfl
      have y9 := hcell 9 _ rfl
      have e0 := hcell' 0 _ rfl
      have e1 := hcell' 1 _ rfl
      have e2 := hcell' 2 _ rfl
      have e3 := hcell' 3 _ rfl
      have e4 := hcell' 4 _ rfl
      have e5 := hcell' 5 _ rfl
      have e6 := hcell' 6 _ rfl
      have e7 := hcell' 7 _ rfl
      have e8 := hcell' 8 _ rfl
      have e9 := hcell' 9 _ rfl
      clear hcell hcell'
      simp only [show vTx.k = 10 from rfl, Nat.add_zero] at y0 y1 y2 y3 y4 y5 y6 y7 y8 y9 e0 e1 e2 e3 e4 e5 e6 e7 e8 e9
      go_wp2
      refine wp_region_ord [(0,true),(1,true),(2,true),(3,true),(4,true),(5,true),(6,true),(7,true),(8,false),(9,true)] 10 (by kernel_rfl) (by kernel_rfl) ?_
      repeat (refine wpOrd_quiet rfl (fun K hK => ?_); go_simp; (try simp (disch := omega) only [IntWalk.i64_in]); refine hK _ ?_; clear hK K)
      refine wpOrd_grow rfl (fun K hK => ?_); go_simp; go_at_call 20; refine (laws_eqTx _ _ d _ ⟨_, _, _, _, _, rfl, (by repeat (first | with_reducible exact H0.out | with_reducible apply View.rdMerge | with_reducible apply View.rdExt | with_reducible apply View.rdAlloc | with_reducible apply View.rdDrew)), (by repeat (first | with_reducible exact H1.out | with_reducible apply View.rdMerge | with_reducible apply View.rdExt | with_reducible apply View.rdAlloc | with_reducible apply View.rdDrew)), (by repeat (first | with_reducible exact H2.out | with_reducible apply View.rdMerge | with_reducible apply View.rdExt | with_reducible apply View.rdAlloc | with_reducible apply View.rdDrew)), (by repeat (first | with_reducible exact H3.out | with_reducible apply View.rdMerge | with_reducible apply View.rdExt | with_reducible apply View.rdAlloc | with_reducible apply View.rdDrew)), (by repeat (first | with_reducible exact H4.out | with_reducible apply View.rdMerge | with_reducible apply View.rdExt | with_reducible apply View.rdAlloc | with_reducible apply View.rdDrew))⟩ ⟨_, _, _, _, _, rfl, (by repeat (first | with_reducible exact K0.out | with_reducible apply View.rdMerge | with_reducible apply View.rdExt | with_reducible apply View.rdAlloc | with_reducible apply View.rdDrew)), (by repeat (first | with_reducible exact K1.out | with_reducible apply View.rdMerge | with_reducible apply View.rdExt | with_reducible apply View.rdAlloc | with_reducible apply View.rdDrew)), (by repeat (first | with_reducible exact K2.out | with_reducible apply View.rdMerge | with_reducible apply View.rdExt | with_reducible apply View.rdAlloc | with_reducible apply View.rdDrew)), (by repeat (first | with_reducible exact K3.out | with_reducible apply View.rdMerge | with_reducible apply View.rdExt | with_reducible apply View.rdAlloc | with_reducible apply View.rdDrew)), (by repeat (first | with_reducible exact K4.out | with_reducible apply View.rdMerge | with_reducible apply View.rdExt | with_reducible apply View.rdAlloc | with_reducible apply View.rdDrew))⟩).mono ?_; rintro e w' ⟨rfl, hb⟩; obtain ⟨X, rfl⟩ := hb.ext; clear hb; try go_simp; refine hK _ _ (by show Sx _ _; (try simp only [← Array.append_assoc]); repeat (first | with_reducible exact Sx.drew _ | with_reducible exact Sx.same _ _ _ _ | with_reducible exact ⟨_, rfl⟩ | with_reducible apply Sx.more | with_reducible apply Sx.ext | with_reducible apply Sx.alloc | with_reducible apply Sx.draw)) ?_; clear hK K
      repeat (refine wpOrd_quiet rfl (fun K hK => ?_); go_simp; (try simp (disch := omega) only [IntWalk.i64_in]); refine hK _ ?_; clear hK K)
      refine wpOrd_nil ?_
      go_wp2
      go_roundw
      case rel => exact ⟨n + 1, _, by go_num, by omega, rfl⟩
      case measure => simp [intOf]; omega
    · go_wp2
      go_ret
      exact ⟨rfl, (by repeat (first | with_reducible exact Below.refl _ _ | with_reducible apply Below.ofExt | with_reducible apply Below.ofAlloc | with_reducible apply Below.drew | with_reducible apply Below.ofDrewN | with_reducible assumption | (with_reducible refine Below.setCell ?_ (by first | exact Nat.le_refl _ | (simp [go_sem]; done) | (simp [go_sem]; omega)) _)))⟩
end Go.Proofs.Ytefenfglkfdoaaa
