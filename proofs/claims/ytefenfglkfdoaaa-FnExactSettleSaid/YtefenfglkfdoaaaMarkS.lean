/- Marks of lists of transactions: the program's and the reference's. Each condition stands in its theorem. -/
import Derived.Test.YtefenfglkfdoaaaMarkT
import Derived.Test.YtefenfglkfdoaaaCTxS
set_option linter.unusedVariables false
set_option linter.unusedSimpArgs false
namespace Go.Proofs.Ytefenfglkfdoaaa
open Go.ChangeShapes Go.WideShapes Go.ChangeAt Go.RowKit

def cntTxS (ds : List TxD) : Nat := (ds.map fun d => cntTx d + 5).sum
theorem flat_disj {fps : List (List Nat)} (h : fps.flatten.Nodup) {i j : Nat} (hi : i < fps.length) (hj : j < fps.length) (hne : i < j) : ∀ x ∈ fps[j], x ∉ fps[i] := by
  have h2 := (List.pairwise_flatten.1 h).2
  rw [List.pairwise_iff_getElem] at h2
  intro x hx hx'
  exact h2 i j hi hj hne x hx' x hx rfl
theorem flat_nodup {fps : List (List Nat)} (h : fps.flatten.Nodup) {i : Nat} (hi : i < fps.length) : fps[i].Nodup := (List.pairwise_flatten.1 h).1 _ (List.getElem_mem hi)
/-- what is still to be marked, from n on -/
def Rest (ds : List TxD) (css : List (List Value)) (fps : List (List Nat)) (n : Nat) (w : World) : Prop := ∀ i (hi : i < ds.length) (hc : i < css.length) (hf : i < fps.length), n ≤ i → vTx.own w fps[i] css[i] ds[i]
theorem rest_upon {ds : List TxD} {css : List (List Value)} {fps : List (List Nat)} {n : Nat} {w w' : World} {g : List Nat} (h : Rest ds css fps n w) (hu : Upon g w w') (hd : ∀ i (hi : i < ds.length) (hc : i < css.length) (hf : i < fps.length), n ≤ i → ∀ x ∈ fps[i], x ∉ g) : Rest ds css fps n w' :=
  fun i hi hc hf hn => View.ownUpon (h i hi hc hf hn) hu (hd i hi hc hf hn)
/-- the cells that are still as they were, from n on -/
def Cells (css : List (List Value)) (n : Nat) (cs : Array Value) : Prop := ∀ i (hc : i < css.length), n ≤ i → ∀ j u, css[i][j]? = some u → j < 10 → cs[i * 10 + j]? = some u
theorem setB_upon (w : World) (b : Nat) (o o' : Obj) : Upon [b] (w.setB b o) (w.setB b o') := ⟨rfl, rfl, rfl, by rw [World.setB_size, World.setB_size]; exact Nat.le_refl _, fun k _ hn => by rw [World.setB_get _ _ _ _ (fun e => hn (by simp [e])), World.setB_get _ _ _ _ (fun e => hn (by simp [e]))]⟩
set_option maxRecDepth 100000 in
set_option maxHeartbeats 2000000 in
theorem laws_markTxS (v : Value) (fp : List Nat) (ds : List TxD) (k : Int) (w : World) (hs : (vSlice vTx 29).own w fp [v] ds) (hn : fp.Nodup) (h0 : 0 ≤ k) (h1 : k + (cntTxS ds : Nat) ≤ 4294960000) :
    Calls Try.prog 53 #[v, .int .i64 k] w fun e w' => e = .returned (.int .i64 (k + (cntTxS ds : Nat))) ∧ Upon fp w w' := by
  rcases hs with ⟨hv, rfl, rfl⟩ | ⟨b, cap, blk, css, fps, hv, hb, hnc, hm, hsz, ht, rfl, hcl, hfl, hel⟩
  · simp only [List.cons.injEq, and_true] at hv
    subst hv
    go_enter Try.func53, Try.ntmps53
    go_wp2
    go_loopw [1, 5] (fun kk i wr => kk = .int .i64 k ∧ i = .int .i64 0 ∧ wr = w) (fun _ _ _ => 0)
    case atStart => exact ⟨rfl, rfl, rfl⟩
    case round =>
      obtain ⟨rfl, rfl, rfl⟩ := hrel
      go_wp2
      go_ret
      exact ⟨by simp [cntTxS], Upon.refl _ _⟩
  · simp only [List.cons.injEq, and_true] at hv
    subst hv
    have hbl := World.lt_of_get hb
    have hsz' : blk.size = cap * 10 := hsz
    have hbn := (List.nodup_cons.1 hn).1
    have hfn := (List.nodup_cons.1 hn).2
    have HB := Lib.hid hbn
    have HFN := Lib.hid hfn
    have HCL := Lib.hid hcl
    have HFL := Lib.hid hfl
    have hrest : Rest ds css fps 0 w := fun i hi hc hf _ => hel i hi hc hf
    have hcells : Cells css 0 blk := by
      intro i hc _ j u hj hj10
      have hlen : ∀ q (hq : q < css.length), (css[q]).length = 10 := fun q hq => vTx.len (View.toRd _ (hel q (by omega) hq (by omega)))
      have hg := flatten_get hlen i hc j u hj
      have ht' : blk.toList.take (ds.length * 10) = css.flatten := ht
      rw [← ht', List.getElem?_take] at hg
      split at hg
      · simpa using hg
      · cases hg
    clear hel ht hsz hbn hfn hn hcl hfl
    have hbx : (w.setB b (.cells blk 29)) = w := World.setB_self hb
    have HUP : Hid (Upon (b :: fps.flatten) w (w.setB b (.cells blk 29))) := by rw [hbx]; exact Upon.refl _ _
    have HR0 : Hid (Rest ds css fps 0 (w.setB b (.cells blk 29))) := by rw [hbx]; exact hrest
    have HC0 := Lib.hid hcells
    clear hbx hrest hcells
    unfold maxLen at hm
    obtain ⟨N, hN⟩ : ∃ N : Nat, N = cntTxS ds := ⟨_, rfl⟩
    rw [← hN] at h1
    have HNN := Lib.hid hN
    clear hN
    refine World.at_block hb ?_
    clear hb
    go_enter Try.func53, Try.ntmps53
    go_wp2
    go_loopw [1, 5] (fun kk i wr => ∃ (n : Nat) (m : Int) (cs : Array Value) (w0 : World), kk = .int .i64 m ∧ i = .int .i64 n ∧ n ≤ ds.length ∧ m = k + (((ds.take n).map fun d => cntTx d + 5).sum : Nat) ∧ wr = w0.setB b (.cells cs 29) ∧ b < w0.heap.size ∧ cs.size = cap * 10 ∧
      Upon (b :: fps.flatten) w wr ∧ Rest ds css fps n wr ∧ Cells css n cs) (fun _ i _ => ds.length - (intOf i).toNat)
    case atStart => exact ⟨0, k, blk, w, rfl, rfl, by omega, by simp, rfl, hbl, hsz', HUP.out, HR0.out, HC0.out⟩
    case round =>
      obtain ⟨n, m, cs, w0, rfl, rfl, hnn, hmk, rfl, hq0, hcs, hup, hrest, hcel⟩ := hrel
      have HM := Lib.hid hmk
      have HSZ := Lib.hid hcs
      have U00 := Lib.hid hup
      have HR := Lib.hid hrest
      have HC := Lib.hid hcel
      have hsle := sum_take_le (fun d => cntTx d + 5) ds n
      have hm0 : 0 ≤ m := by omega
      clear hcs hup hrest hcel hsz'
      by_cases hlt : (n : Int) < ds.length
      case pos =>
        have hk : n < ds.length := by omega
        have hkc : n < css.length := by rw [HCL.out]; exact hk
        have hkf : n < fps.length := by rw [HFL.out]; exact hk
        have hst := sum_take_step (fun d => cntTx d + 5) ds n hk
        have hle := sum_take_le (fun d => cntTx d + 5) ds (n + 1)
        have hbound : m + ((cntTx ds[n] + 5 : Nat) : Int) ≤ 4294960000 := by
          have := HNN.out
          unfold cntTxS at this
          omega
        have hown := HR.out n hk hkc hkf (Nat.le_refl _)
        have hnod := flat_nodup HFN.out hkf
        have hin : ∀ x ∈ fps[n], x ∈ fps.flatten := fun x hx => List.mem_flatten.2 ⟨_, List.getElem_mem hkf, hx⟩
        have hdis : ∀ i (hi : i < ds.length) (hc : i < css.length) (hf : i < fps.length), n + 1 ≤ i → ∀ x ∈ fps[i], x ∉ fps[n] := fun i hi hc hf hin => flat_disj HFN.out hkf hf (by omega)
        have hcc := fun j u (h : css[n][j]? = some u) (hj : j < 10) => HC.out n hkc (Nat.le_refl _) j u h hj
        generalize css[n] = c at hown hcc
        generalize fps[n] = f at hown hnod hin hdis
        generalize ds[n] = d at hown hst hbound
        have HS := Lib.hid hst
        clear hst hle hsle hmk
        obtain ⟨s0, s1, s2, s3, s4, f0, f1, f2, f3, f4, rfl, rfl, o0, o1, o2, o3, o4⟩ := hown
        obtain ⟨a0, c0, rfl⟩ := vSlice.form (View.toRd _ o0)
        obtain ⟨a1, c1, rfl⟩ := vSlice.form (View.toRd _ o1)
        obtain ⟨a2, c2, rfl⟩ := vSlice.form (View.toRd _ o2)
        obtain ⟨a3, c3, rfl⟩ := vSlice.form (View.toRd _ o3)
        obtain ⟨a4, c4, rfl⟩ := vSlice.form (View.toRd _ o4)
        have n4 := nd2 hnod
        have n3 := nd2 n4.1
        have n2 := nd2 n3.1
        have n1 := nd2 n2.1
        have N4 := Lib.hid n4
        have N3 := Lib.hid n3
        have N2 := Lib.hid n2
        have N1 := Lib.hid n1
        have HIN := Lib.hid hin
        have HDIS := Lib.hid hdis
        have hnb : b ∉ f0 ++ f1 ++ f2 ++ f3 ++ f4 := fun h => HB.out (HIN.out _ h)
        have HNB := Lib.hid hnb
        clear hnod n1 n2 n3 n4 hin hdis hnb
        have hsz2 : n * 10 + 10 ≤ cs.size := by rw [HSZ.out]; omega
        have hcd : (cntTx d : Int) = 6 * d.calls.length + 3 * d.answers.length + (d.touch.reads.length + d.touch.writes.length) + d.marks.length := by unfold cntTx cntTouch; omega
        have hbd : m + 5 + 6 * d.calls.length + 3 * d.answers.length + d.touch.reads.length + d.touch.writes.length + d.marks.length ≤ 4294960000 := by omega
        have HCD := Lib.hid hcd
        clear hcd hbound
        have l0 : n * 10 < cs.size := by omega
        have l1 : n * 10 + 1 < cs.size := by omega
        have l2 : n * 10 + 2 < cs.size := by omega
        have l3 : n * 10 + 3 < cs.size := by omega
        have l9 : n * 10 + 9 < cs.size := by omega
        have r0 : ((((cs.setIfInBounds (n * 10) (.int .i64 (m))).setIfInBounds (n * 10 + 1) (.int .i64 (m + 1))).setIfInBounds (n * 10 + 2) (.int .i64 (m + 1 + 1))).setIfInBounds (n * 10 + 3) (.int .i64 (m + 1 + 1 + 1)))[n * 10 + 4]? = some (.slice a0 d.calls.length c0) := by
          (repeat rw [Array.getElem?_setIfInBounds_ne (by omega)])
          exact hcc 4 _ rfl (by omega)
        have r1 : ((((cs.setIfInBounds (n * 10) (.int .i64 (m))).setIfInBounds (n * 10 + 1) (.int .i64 (m + 1))).setIfInBounds (n * 10 + 2) (.int .i64 (m + 1 + 1))).setIfInBounds (n * 10 + 3) (.int .i64 (m + 1 + 1 + 1)))[n * 10 + 5]? = some (.slice a1 d.answers.length c1) := by
          (repeat rw [Array.getElem?_setIfInBounds_ne (by omega)])
          exact hcc 5 _ rfl (by omega)
        have r2 : ((((cs.setIfInBounds (n * 10) (.int .i64 (m))).setIfInBounds (n * 10 + 1) (.int .i64 (m + 1))).setIfInBounds (n * 10 + 2) (.int .i64 (m + 1 + 1))).setIfInBounds (n * 10 + 3) (.int .i64 (m + 1 + 1 + 1)))[n * 10 + 6]? = some (.slice a2 d.touch.reads.length c2) := by
          (repeat rw [Array.getElem?_setIfInBounds_ne (by omega)])
          exact hcc 6 _ rfl (by omega)
        have r3 : ((((cs.setIfInBounds (n * 10) (.int .i64 (m))).setIfInBounds (n * 10 + 1) (.int .i64 (m + 1))).setIfInBounds (n * 10 + 2) (.int .i64 (m + 1 + 1))).setIfInBounds (n * 10 + 3) (.int .i64 (m + 1 + 1 + 1)))[n * 10 + 7]? = some (.slice a3 d.touch.writes.length c3) := by
          (repeat rw [Array.getElem?_setIfInBounds_ne (by omega)])
          exact hcc 7 _ rfl (by omega)
        have r4 : ((((cs.setIfInBounds (n * 10) (.int .i64 (m))).setIfInBounds (n * 10 + 1) (.int .i64 (m + 1))).setIfInBounds (n * 10 + 2) (.int .i64 (m + 1 + 1))).setIfInBounds (n * 10 + 3) (.int .i64 (m + 1 + 1 + 1)))[n * 10 + 8]? = some (.slice a4 d.marks.length c4) := by
          (repeat rw [Array.getElem?_setIfInBounds_ne (by omega)])
          exact hcc 8 _ rfl (by omega)
        have r9 : ((((cs.setIfInBounds (n * 10) (.int .i64 (m))).setIfInBounds (n * 10 + 1) (.int .i64 (m + 1))).setIfInBounds (n * 10 + 2) (.int .i64 (m + 1 + 1))).setIfInBounds (n * 10 + 3) (.int .i64 (m + 1 + 1 + 1)))[n * 10 + 9]? = some (.int .i64 d.state) := by
          (repeat rw [Array.getElem?_setIfInBounds_ne (by omega)])
          exact hcc 9 _ rfl (by omega)
        clear hcc
        have hcells2 : ∀ (x : Value), Cells css (n + 1) ((((((cs.setIfInBounds (n * 10) (.int .i64 (m))).setIfInBounds (n * 10 + 1) (.int .i64 (m + 1))).setIfInBounds (n * 10 + 2) (.int .i64 (m + 1 + 1))).setIfInBounds (n * 10 + 3) (.int .i64 (m + 1 + 1 + 1)))).setIfInBounds (n * 10 + 9) x) := by
          intro x i hci hi j u hj hj10
          (repeat rw [Array.getElem?_setIfInBounds_ne (by omega)])
          exact HC.out i hci (by omega) j u hj hj10
        obtain ⟨cs4, hcs4⟩ : ∃ cs4 : Array Value, cs4 = ((((cs.setIfInBounds (n * 10) (.int .i64 (m))).setIfInBounds (n * 10 + 1) (.int .i64 (m + 1))).setIfInBounds (n * 10 + 2) (.int .i64 (m + 1 + 1))).setIfInBounds (n * 10 + 3) (.int .i64 (m + 1 + 1 + 1))) := ⟨_, rfl⟩
        have hsz4 : cs4.size = cap * 10 := by rw [hcs4]; simpa using HSZ.out
        have l94 : n * 10 + 9 < cs4.size := by rw [hsz4, ← HSZ.out]; omega
        rw [← hcs4] at hcells2 r1 r2 r3 r4 r9
        have hu0 := setB_upon w0 b (.cells cs 29) (.cells cs4 29)
        have hnbx : ∀ x, x ∈ f0 ++ f1 ++ f2 ++ f3 ++ f4 → x ∉ [b] := fun x hx h => HNB.out (by simp only [List.mem_singleton] at h; rw [← h]; exact hx)
        have O0 := Lib.hid (View.ownUpon o0 hu0 (fun x hx => hnbx x (by simp [hx])))
        have O1 := Lib.hid (View.ownUpon o1 hu0 (fun x hx => hnbx x (by simp [hx])))
        have O2 := Lib.hid (View.ownUpon o2 hu0 (fun x hx => hnbx x (by simp [hx])))
        have O3 := Lib.hid (View.ownUpon o3 hu0 (fun x hx => hnbx x (by simp [hx])))
        have O4 := Lib.hid (View.ownUpon o4 hu0 (fun x hx => hnbx x (by simp [hx])))
        have hr1 : Rest ds css fps (n + 1) (w0.setB b (.cells cs 29)) := fun i hi hc hf h => HR.out i hi hc hf (by omega)
        have hbr : ∀ i (hi : i < ds.length) (hc : i < css.length) (hf : i < fps.length), n + 1 ≤ i → ∀ x ∈ fps[i], x ∉ [b] := fun i hi hc hf _ x hx h => HB.out (by simp only [List.mem_singleton] at h; rw [← h]; exact List.mem_flatten.2 ⟨_, List.getElem_mem hf, hx⟩)
        have T0 := Lib.hid (rest_upon hr1 hu0 hbr)
        have HBR := Lib.hid hbr
        have U0 := Lib.hid (U00.out.trans (hu0.mono (fp' := b :: fps.flatten) (fun x hx => by simp only [List.mem_singleton] at hx; rw [hx]; simp)))
        have HC2 := Lib.hid hcells2
        have H4 := Lib.hid hcs4
        have HS4 := Lib.hid hsz4
        clear hcells2 hcs4 hsz4 o0 o1 o2 o3 o4 hr1 hbr hu0 hnbx l0 l1 l2 l3 l9 hsz2
        have l0 : n * 10 < cs.size := by rw [HSZ.out]; omega
        have l1 : n * 10 + 1 < cs.size := by rw [HSZ.out]; omega
        have l2 : n * 10 + 2 < cs.size := by rw [HSZ.out]; omega
        have l3 : n * 10 + 3 < cs.size := by rw [HSZ.out]; omega
        go_wp2_with fail
        rw [← H4.out]
        clear r0 l0 l1 l2 l3
        (go_at_call 49; refine (laws_markCallS _ f0 d.calls _ _ O0.out (by omega) (by omega)).mono ?_; rintro e w' ⟨rfl, _, hu⟩)
        have hU := U0.out.trans (hu.mono (fp' := b :: fps.flatten) (fun x hx => List.mem_cons_of_mem _ (HIN.out x (by simp [hx]))))
        have p1 := View.ownUpon O1.out hu (fun x hx h => N1.out.2.2 x hx (by simp [h]))
        have p2 := View.ownUpon O2.out hu (fun x hx h => N2.out.2.2 x hx (by simp [h]))
        have p3 := View.ownUpon O3.out hu (fun x hx h => N3.out.2.2 x hx (by simp [h]))
        have p4 := View.ownUpon O4.out hu (fun x hx h => N4.out.2.2 x hx (by simp [h]))
        have hR := rest_upon T0.out hu (fun i hi hc hf hin x hx h => HDIS.out i hi hc hf hin x hx (by simp [h]))
        obtain ⟨w1, rfl, hq1⟩ := rebox hu (World.setB_at _ _ _ hq0) (fun h => HB.out (HIN.out _ (by simp [h])))
        have U1 := Lib.hid hU
        have T1 := Lib.hid hR
        have Q1_1 := Lib.hid p1
        have Q1_2 := Lib.hid p2
        have Q1_3 := Lib.hid p3
        have Q1_4 := Lib.hid p4
        clear hu hU hR p1 p2 p3 p4 hq0
        go_wp2_with fail
        (go_at_call 72; refine (laws_markAnswerS _ f1 d.answers _ _ Q1_1.out (by omega) (by omega)).mono ?_; rintro e w' ⟨rfl, _, hu⟩)
        have hU := U1.out.trans (hu.mono (fp' := b :: fps.flatten) (fun x hx => List.mem_cons_of_mem _ (HIN.out x (by simp [hx]))))
        have p2 := View.ownUpon Q1_2.out hu (fun x hx h => N2.out.2.2 x hx (by simp [h]))
        have p3 := View.ownUpon Q1_3.out hu (fun x hx h => N3.out.2.2 x hx (by simp [h]))
        have p4 := View.ownUpon Q1_4.out hu (fun x hx h => N4.out.2.2 x hx (by simp [h]))
        have hR := rest_upon T1.out hu (fun i hi hc hf hin x hx h => HDIS.out i hi hc hf hin x hx (by simp [h]))
        obtain ⟨w2, rfl, hq2⟩ := rebox hu (World.setB_at _ _ _ hq1) (fun h => HB.out (HIN.out _ (by simp [h])))
        have U2 := Lib.hid hU
        have T2 := Lib.hid hR
        have Q2_2 := Lib.hid p2
        have Q2_3 := Lib.hid p3
        have Q2_4 := Lib.hid p4
        clear hu hU hR p2 p3 p4 hq1
        go_wp2_with fail
        (go_at_call 106; refine (laws_markStringS _ f2 d.touch.reads _ _ Q2_2.out (by omega) (by omega)).mono ?_; rintro e w' ⟨rfl, _, hu⟩)
        have hU := U2.out.trans (hu.mono (fp' := b :: fps.flatten) (fun x hx => List.mem_cons_of_mem _ (HIN.out x (by simp [hx]))))
        have p3 := View.ownUpon Q2_3.out hu (fun x hx h => N3.out.2.2 x hx (by simp [h]))
        have p4 := View.ownUpon Q2_4.out hu (fun x hx h => N4.out.2.2 x hx (by simp [h]))
        have hR := rest_upon T2.out hu (fun i hi hc hf hin x hx h => HDIS.out i hi hc hf hin x hx (by simp [h]))
        obtain ⟨w3, rfl, hq3⟩ := rebox hu (World.setB_at _ _ _ hq2) (fun h => HB.out (HIN.out _ (by simp [h])))
        have U3 := Lib.hid hU
        have T3 := Lib.hid hR
        have Q3_3 := Lib.hid p3
        have Q3_4 := Lib.hid p4
        clear hu hU hR p3 p4 hq2
        go_wp2_with fail
        (go_at_call 106; refine (laws_markStringS _ f3 d.touch.writes _ _ Q3_3.out (by omega) (by omega)).mono ?_; rintro e w' ⟨rfl, _, hu⟩)
        have hU := U3.out.trans (hu.mono (fp' := b :: fps.flatten) (fun x hx => List.mem_cons_of_mem _ (HIN.out x (by simp [hx]))))
        have p4 := View.ownUpon Q3_4.out hu (fun x hx h => N4.out.2.2 x hx (by simp [h]))
        have hR := rest_upon T3.out hu (fun i hi hc hf hin x hx h => HDIS.out i hi hc hf hin x hx (by simp [h]))
        obtain ⟨w4, rfl, hq4⟩ := rebox hu (World.setB_at _ _ _ hq3) (fun h => HB.out (HIN.out _ (by simp [h])))
        have U4 := Lib.hid hU
        have T4 := Lib.hid hR
        have Q4_4 := Lib.hid p4
        clear hu hU hR p4 hq3
        go_wp2_with fail
        (go_at_call 54; refine (laws_markIntS _ f4 d.marks _ _ Q4_4.out (by omega) (by omega)).mono ?_; rintro e w' ⟨rfl, _, hu⟩)
        have hU := U4.out.trans (hu.mono (fp' := b :: fps.flatten) (fun x hx => List.mem_cons_of_mem _ (HIN.out x (by simp [hx]))))
        have hR := rest_upon T4.out hu (fun i hi hc hf hin x hx h => HDIS.out i hi hc hf hin x hx (by simp [h]))
        obtain ⟨w5, rfl, hq5⟩ := rebox hu (World.setB_at _ _ _ hq4) (fun h => HB.out (HIN.out _ (by simp [h])))
        have U5 := Lib.hid hU
        have T5 := Lib.hid hR
        clear hu hU hR  hq4
        go_wp2
        go_roundw
        case rel =>
          have hu5 := setB_upon w5 b (.cells cs4 29)
          refine ⟨n + 1, _, _, w5, rfl, by go_num, by omega, ?_, rfl, hq5, ?_, ?_, ?_, ?_⟩
          · have h1 := HS.out
            have h2 := HM.out
            have h3 := HCD.out
            rw [h1]
            omega
          · simpa using HS4.out
          · exact U5.out.trans ((hu5 _).mono (fun x hx => by simp only [List.mem_singleton] at hx; rw [hx]; simp))
          · exact rest_upon T5.out (hu5 _) HBR.out
          · exact HC2.out _
        case measure => simp [intOf]; omega
      case neg =>
        have e : n = ds.length := by omega
        have hres : m = k + (N : Int) := by
          have := HM.out
          rw [HNN.out]
          unfold cntTxS
          rw [e, List.take_length] at this
          exact this
        have HRES := Lib.hid hres
        clear hres hmk
        go_wp2
        go_ret
        exact ⟨ret_int (by rw [← HNN.out]; exact HRES.out), U00.out⟩
end Go.Proofs.Ytefenfglkfdoaaa
