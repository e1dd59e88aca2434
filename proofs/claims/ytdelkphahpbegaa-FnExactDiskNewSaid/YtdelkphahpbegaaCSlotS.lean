/- The laws' measure, copy, comparison of slices of Slot. Each condition stands in its theorem. -/
import Derived.Test.YtdelkphahpbegaaCSlot
set_option linter.unusedVariables false
set_option linter.unusedSimpArgs false
namespace Go.Proofs.Ytdelkphahpbegaa
open Go.ChangeShapes Go.WideShapes Go.ChangeAt Go.RowKit

set_option maxRecDepth 100000 in
theorem laws_szSlotS (v : Value) (ds : List SlotD) (left : Int) (w : World) {e : TypeId} (hs : (vSlice vSlot e).rd w [v] ds) (h0 : 0 ≤ left) (h1 : left ≤ 4294967296) :
    Calls Try.prog 24 #[v, .int .i64 left] w fun e w' => e = .returned (.int .i64 (leftOf left (wtS SlotD.wt ds))) ∧ Below w.heap.size w w' := by
  obtain ⟨ao, cap, rfl, hc1, hc2, hnil, hcell⟩ := vSlice.shape hs
  have HX := Lib.hid hcell
  clear hcell hs hnil
  unfold maxLen at hc2
  have hsub : wrap64 (left - ds.length) = left - ds.length := IntWalk.wrap64_in _ (by omega)
  by_cases hl : left - ds.length < 0
  · rw [leftOf_none (by unfold wtS; omega)]
    go_enter Try.func24, Try.ntmps24
    go_wp2
    go_ret
    exact ⟨rfl, (by repeat (first | with_reducible exact Below.refl _ _ | with_reducible apply Below.ofExt | with_reducible apply Below.ofAlloc | with_reducible apply Below.drew | with_reducible apply Below.ofDrewN | with_reducible assumption | (with_reducible refine Below.setCell ?_ (by first | exact Nat.le_refl _ | (simp [go_sem]; done) | (simp [go_sem]; omega)) _)))⟩
  · go_enter Try.func24, Try.ntmps24
    go_wp2
    go_loopw [1, 5] (fun l k wr => ∃ (n : Nat) (m : Int) (X : Ext), k = .int .i64 n ∧ n ≤ ds.length ∧ wr = w.ext X ∧ l = .int .i64 m ∧ m + ((ds.take n).map SlotD.wt).sum = left - ds.length ∧ 0 ≤ m) (fun _ k _ => ds.length - (intOf k).toNat)
    case atStart => exact ⟨0, _, ⟨#[], _⟩, rfl, by omega, (World.ext_nil _ _ rfl).symm, rfl, by simp, by omega⟩
    case round =>
      obtain ⟨n, m, X, rfl, hn, rfl, rfl, hsum, hm⟩ := hrel
      have HS := Lib.hid hsum
      have hm2 : m ≤ left := by omega
      clear hsum
      by_cases hlt : (n : Int) < ds.length
      · have hk : n < ds.length := by omega
        obtain ⟨b, off, cs, rfl, hbl, hrd, hcell⟩ := HX.out n hk
        have hstep := sum_take_step SlotD.wt ds n hk
        have hle := sum_take_le SlotD.wt ds (n + 1)
        generalize ds[n] = d at hrd hstep
        have HT := Lib.hid hstep
        have HL := Lib.hid hle
        clear hstep hle
        obtain ⟨s0, rfl, h0⟩ := hrd
        obtain ⟨a0, c0, rfl⟩ := vSlice.form h0
        have H0 := Lib.hid h0
        clear h0
        have y0 := hcell 0 _ rfl
        have y1 := hcell 1 _ rfl
        have y2 := hcell 2 _ rfl
        clear hcell
        simp only [show vSlot.k = 3 from rfl, Nat.add_zero] at y0 y1 y2
        go_wp2_with fail
        (go_at_call 47; refine (laws_szSlot _ d m _ ⟨_, rfl, (by repeat (first | with_reducible exact H0.out | with_reducible apply View.rdMerge | with_reducible apply View.rdExt | with_reducible apply View.rdAlloc | with_reducible apply View.rdDrew))⟩ hm (by omega)).mono ?_; rintro e w' ⟨rfl, hb⟩; obtain ⟨X, rfl⟩ := hb.ext; clear hb)
        have q : ∃ q : Nat, q = SlotD.wt d := ⟨_, rfl⟩
        obtain ⟨wt, hwt⟩ := q
        rw [← hwt]
        rw [← hwt] at HT
        clear hwt
        by_cases hg : (wt : Int) ≤ m
        · rw [leftOf_pos hg]
          have hg2 : ¬ m - (wt : Int) < 0 := by omega
          go_wp2
          go_roundw
          case rel => exact ⟨n + 1, m - wt, _, by go_num, by omega, rfl, rfl, by rw [HT.out]; have := HS.out; omega, by omega⟩
          case measure => simp [intOf]; omega
        · rw [leftOf_none hg]
          go_wp2
          go_ret
          refine ⟨?_, (by repeat (first | with_reducible exact Below.refl _ _ | with_reducible apply Below.ofExt | with_reducible apply Below.ofAlloc | with_reducible apply Below.drew | with_reducible apply Below.ofDrewN | with_reducible assumption | (with_reducible refine Below.setCell ?_ (by first | exact Nat.le_refl _ | (simp [go_sem]; done) | (simp [go_sem]; omega)) _)))⟩
          have := HS.out
          have h2 := HT.out
          have h3 := HL.out
          rw [leftOf_none (by unfold wtS; omega)]
          rfl
      · go_wp2
        go_ret
        refine ⟨?_, (by repeat (first | with_reducible exact Below.refl _ _ | with_reducible apply Below.ofExt | with_reducible apply Below.ofAlloc | with_reducible apply Below.drew | with_reducible apply Below.ofDrewN | with_reducible assumption | (with_reducible refine Below.setCell ?_ (by first | exact Nat.le_refl _ | (simp [go_sem]; done) | (simp [go_sem]; omega)) _)))⟩
        have e : n = ds.length := by omega
        subst e
        have := HS.out
        rw [List.take_length] at this
        rw [leftOf_pos (by unfold wtS; omega)]
        exact ret_int (by unfold wtS; omega)
theorem Try.elemSlotS : Elem Try.prog 29 50 3 40 := Elem.of (.agg #[.int .i64 0, .slice none 0 0, .bool false]) Try.underlying29 (by kernel_rfl) rfl (by decide)
theorem SlotS_wt {ds : List SlotD} {N : Nat} (h : wtS SlotD.wt ds ≤ N) : ds.length ≤ N ∧ ∀ d ∈ ds, d.wt ≤ N := by
  unfold wtS at h
  refine ⟨by omega, fun d hd => ?_⟩
  have : d.wt ≤ (ds.map SlotD.wt).sum := by
    clear h
    induction ds with
    | nil => cases hd
    | cons x xs ih =>
      simp only [List.map_cons, List.sum_cons]
      rcases List.mem_cons.1 hd with rfl | hd
      · omega
      · have := ih hd
        omega
  omega
set_option maxRecDepth 100000 in
set_option maxHeartbeats 400000 in
theorem laws_toSlotS (v : Value) (ds : List SlotD) (w : World) {e : TypeId} (hs : (vSlice vSlot e).rd w [v] ds) (hwt : wtS SlotD.wt ds ≤ 1048576) :
    Calls Try.prog 26 #[v] w (Made (vSlice vSlot 50) w ds) := by
  obtain ⟨ao, cap, rfl, hc1, hc2, hnil, hcell⟩ := vSlice.shape hs
  have HX := Lib.hid hcell
  obtain ⟨hl, hwts⟩ := SlotS_wt hwt
  have HW := Lib.hid hwts
  clear hcell hs hnil hwt hwts
  unfold maxLen at hc2
  obtain ⟨cs0, hsz0, hmk⟩ := Elem.make Try.elemSlotS ds.length (by omega) (by omega)
  go_enter Try.func26, Try.ntmps26
  go_wp2
  go_loopw [4] (fun k wr => ∃ (n : Nat) (cs : Array Value) (X : Ext) (css : List (List Value)) (fps : List (List Nat)), k = .int .i64 n ∧ n ≤ ds.length ∧ wr = (w.alloc (.cells cs 50)).ext X ∧ cs.size = ds.length * 3 ∧ cs.toList.take (n * 3) = css.flatten ∧
    RowsOwn vSlot wr css fps (ds.take n) ∧ Sp (w.heap.size + 1) wr.heap.size fps.flatten) (fun k _ => ds.length - (intOf k).toNat)
  case atStart => exact ⟨0, cs0, ⟨#[], _⟩, [], [], rfl, by omega, (World.ext_nil _ _ rfl).symm, hsz0, by simp, RowsOwn.nil _ _, Sp.nil _ _⟩
  case round =>
    obtain ⟨n, cs, X, css, fps, rfl, hn, rfl, hsz, htk, hro, hsp⟩ := hrel
    have HT := Lib.hid htk
    have HSZ := Lib.hid hsz
    have HR := Lib.hid hro
    have HP := Lib.hid hsp
    clear htk hmk hsz0 hsz hro hsp
    by_cases hlt : (n : Int) < ds.length
    · have hk : n < ds.length := by omega
      obtain ⟨b, off, cs', rfl, hbl, hrd, hcell⟩ := HX.out n hk
      have hdw := HW.out _ (List.getElem_mem hk)
      have htake : ds.take (n + 1) = ds.take n ++ [ds[n]] := List.take_succ_eq_append_getElem hk
      generalize ds[n] = d at hrd hdw htake
      have HF := Lib.hid htake
      have HDW := Lib.hid hdw
      clear htake hdw
      obtain ⟨s0, rfl, h0⟩ := hrd
      obtain ⟨a0, c0, rfl⟩ := vSlice.form h0
      have H0 := Lib.hid h0
      clear h0
      have y0 := hcell 0 _ rfl
      have y1 := hcell 1 _ rfl
      have y2 := hcell 2 _ rfl
      clear hcell
      simp only [show vSlot.k = 3 from rfl, Nat.add_zero] at y0 y1 y2
      have hsz2 : n * 3 + 3 ≤ cs.size := by rw [HSZ.out]; omega
      have o0 : cs[n * 3]? = some cs[n * 3] := Array.getElem?_eq_getElem (by omega)
      have o1 : cs[n * 3 + 1]? = some cs[n * 3 + 1] := Array.getElem?_eq_getElem (by omega)
      have o2 : cs[n * 3 + 2]? = some cs[n * 3 + 2] := Array.getElem?_eq_getElem (by omega)
      generalize cs[n * 3] = x0 at o0
      generalize cs[n * 3 + 1] = x1 at o1
      generalize cs[n * 3 + 2] = x2 at o2
      go_wp2_with fail
      (go_at_call 48; refine (laws_toSlot _ d _ ⟨_, rfl, (by repeat (first | with_reducible exact H0.out | with_reducible apply View.rdMerge | with_reducible apply View.rdExt | with_reducible apply View.rdAlloc | with_reducible apply View.rdDrew))⟩ HDW.out).mono ?_; rintro e w' ⟨cs1, fp1, rfl, hf1, hb1⟩; obtain ⟨Y, rfl⟩ := hb1.ext; clear hb1)
      have SS := Lib.hid hf1.sp
      have hoo := hf1.own
      obtain ⟨t0, p0, rfl, rfl, r0⟩ := hf1.own
      clear hf1
      obtain ⟨b0, g0, rfl⟩ := vSlice.form (View.toRd _ r0)
      clear r0
      (try simp only [World.ext_ext] at hoo)
      have HO := Lib.hid hoo
      clear hoo
      go_wp2
      go_roundw
      case rel =>
        have q0 := take_set1' (v := .int .i64 d.seq) HT.out rfl rfl (by omega)
        have q1 := take_set1' (v := .slice b0 d.cells.length g0) q0 rfl rfl (by simp; omega)
        have q2 := take_set1' (p := (n + 1) * 3) (v := .bool d.whole) q1 rfl (by omega) (by simp; omega)
        refine ⟨n + 1, _, _, css ++ [[.int .i64 d.seq, .slice b0 d.cells.length g0, .bool d.whole]], fps ++ [fp1], by go_num, by omega, rfl, by simpa using HSZ.out, ?_, ?_, ?_⟩
        rotate_left
        · rw [HF.out]
          refine RowsOwn.snoc (RowsOwn.tail HR.out (fun k hk => by have := HP.out.lo k hk; simp; omega) (by simp) (by (try simp only [← Array.append_assoc]); repeat (first | with_reducible exact Pre.refl _ | with_reducible apply Pre.app))) (View.ownTail HO.out (fun k hk => by have := SS.out.lo k hk; simp [World.ext_size] at this ⊢; omega) (by simp) (by (try simp only [← Array.append_assoc]); repeat (first | with_reducible exact Pre.refl _ | with_reducible apply Pre.app)))
        · rw [List.flatten_append, List.flatten_cons, List.flatten_nil, List.append_nil]
          refine Sp.append (mid := ((w.alloc (.cells cs 50)).ext X).heap.size) (mid' := ((w.alloc (.cells cs 50)).ext X).heap.size) HP.out (SS.out.mono (Nat.le_refl _) ?_) ?_ ?_ ?_ <;> (try simp [World.ext_size]) <;> (try omega)
        · rw [List.flatten_append, List.flatten_cons, List.flatten_nil, List.append_nil]
          simpa using q2
      case measure => simp [intOf]; omega
    · go_wp2
      go_ret
      have e : n = ds.length := by omega
      subst e
      have hr := HR.out
      rw [List.take_length] at hr
      refine ⟨_, _, rfl, ⟨vSlice.ownRows (World.block_ext0 w _ X) rfl (Nat.le_refl _) (by unfold maxLen; omega) HSZ.out HT.out hr, ?_, ?_⟩, (by repeat (first | with_reducible exact Below.refl _ _ | with_reducible apply Below.ofExt | with_reducible apply Below.ofAlloc | with_reducible apply Below.drew | with_reducible apply Below.ofDrewN | with_reducible assumption | (with_reducible refine Below.setCell ?_ (by first | exact Nat.le_refl _ | (simp [go_sem]; done) | (simp [go_sem]; omega)) _)))⟩
      · exact List.nodup_cons.2 ⟨fun h => absurd (HP.out.lo _ h) (by omega), HP.out.nodup⟩
      · intro b hb
        rcases List.mem_cons.1 hb with rfl | hb
        · exact Nat.le_refl _
        · have := HP.out.lo b hb
          omega
set_option maxRecDepth 100000 in
theorem laws_eqSlotS (v v' : Value) (ds : List SlotD) (w : World) {e e' : TypeId} (hs : (vSlice vSlot e).rd w [v] ds) (hs' : (vSlice vSlot e').rd w [v'] ds) :
    Calls Try.prog 28 #[v, v'] w fun e w' => e = .returned (.bool true) ∧ Below w.heap.size w w' := by
  obtain ⟨ao, cap, rfl, hc1, hc2, hnil, hcell⟩ := vSlice.shape hs
  obtain ⟨ao', cap', rfl, hc1', hc2', hnil', hcell'⟩ := vSlice.shape hs'
  have HX := Lib.hid hcell
  have HX' := Lib.hid hcell'
  clear hcell hs hnil hcell' hs' hnil'
  unfold maxLen at hc2 hc2'
  go_enter Try.func28, Try.ntmps28
  go_wp2
  go_loopw [5] (fun k wr => ∃ (n : Nat) (X : Ext), k = .int .i64 n ∧ n ≤ ds.length ∧ wr = w.ext X) (fun k _ => ds.length - (intOf k).toNat)
  case atStart => exact ⟨0, ⟨#[], _⟩, rfl, by omega, (World.ext_nil _ _ rfl).symm⟩
  case round =>
    obtain ⟨n, X, rfl, hn, rfl⟩ := hrel
    by_cases hlt : (n : Int) < ds.length
    · have hk : n < ds.length := by omega
      obtain ⟨b, off, cs, rfl, hbl, hrd, hcell⟩ := HX.out n hk
      obtain ⟨b', off', cs', rfl, hbl', hrd', hcell'⟩ := HX'.out n hk
      generalize ds[n] = d at hrd hrd'
      obtain ⟨s0, rfl, h0⟩ := hrd
      obtain ⟨a0, c0, rfl⟩ := vSlice.form h0
      have H0 := Lib.hid h0
      clear h0
      obtain ⟨t0, rfl, k0⟩ := hrd'
      obtain ⟨b0, g0, rfl⟩ := vSlice.form k0
      have K0 := Lib.hid k0
      clear k0
      have y0 := hcell 0 _ rfl
      have y1 := hcell 1 _ rfl
      have y2 := hcell 2 _ rfl
      have e0 := hcell' 0 _ rfl
      have e1 := hcell' 1 _ rfl
      have e2 := hcell' 2 _ rfl
      clear hcell hcell'
      simp only [show vSlot.k = 3 from rfl, Nat.add_zero] at y0 y1 y2 e0 e1 e2
      go_wp2
      refine wp_region_ord [(0,true),(1,true),(2,true),(3,true),(4,true),(5,true),(6,true),(7,true),(8,false),(9,true)] 10 (by kernel_rfl) (by kernel_rfl) ?_
      repeat (refine wpOrd_quiet rfl (fun K hK => ?_); go_simp; (try simp (disch := omega) only [IntWalk.i64_in]); refine hK _ ?_; clear hK K)
      refine wpOrd_grow rfl (fun K hK => ?_); go_simp; go_at_call 49; refine (laws_eqSlot _ _ d _ ⟨_, rfl, (by repeat (first | with_reducible exact H0.out | with_reducible apply View.rdMerge | with_reducible apply View.rdExt | with_reducible apply View.rdAlloc | with_reducible apply View.rdDrew))⟩ ⟨_, rfl, (by repeat (first | with_reducible exact K0.out | with_reducible apply View.rdMerge | with_reducible apply View.rdExt | with_reducible apply View.rdAlloc | with_reducible apply View.rdDrew))⟩).mono ?_; rintro e w' ⟨rfl, hb⟩; obtain ⟨X, rfl⟩ := hb.ext; clear hb; try go_simp; refine hK _ _ (by show Sx _ _; (try simp only [← Array.append_assoc]); repeat (first | with_reducible exact Sx.drew _ | with_reducible exact Sx.same _ _ _ _ | with_reducible exact ⟨_, rfl⟩ | with_reducible apply Sx.more | with_reducible apply Sx.ext | with_reducible apply Sx.alloc | with_reducible apply Sx.draw)) ?_; clear hK K
      repeat (refine wpOrd_quiet rfl (fun K hK => ?_); go_simp; (try simp (disch := omega) only [IntWalk.i64_in]); refine hK _ ?_; clear hK K)
      refine wpOrd_nil ?_
      go_wp2
      go_roundw
      case rel => exact ⟨n + 1, _, by go_num, by omega, rfl⟩
      case measure => simp [intOf]; omega
    · go_wp2
      go_ret
      exact ⟨rfl, (by repeat (first | with_reducible exact Below.refl _ _ | with_reducible apply Below.ofExt | with_reducible apply Below.ofAlloc | with_reducible apply Below.drew | with_reducible apply Below.ofDrewN | with_reducible assumption | (with_reducible refine Below.setCell ?_ (by first | exact Nat.le_refl _ | (simp [go_sem]; done) | (simp [go_sem]; omega)) _)))⟩
end Go.Proofs.Ytdelkphahpbegaa
