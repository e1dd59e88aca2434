/- The laws' comparison, marks and looks on lists of lists of cells. Each condition stands in its theorem. -/
import Derived.Test.YtedgenmbdjadkaaGreatDoorTCell
set_option linter.unusedVariables false
set_option linter.unusedSimpArgs false
namespace Go.Proofs.YtedgenmbdjadkaaGreatDoor
open Go.ChangeShapes Go.WideShapes Go.ChangeAt Go.RowKit

abbrev vCells : View (List CellD) := vSlice vCell 39
def mkL : Int → List Nat → List (List CellD)
  | _, [] => []
  | k, n :: ns => marks mkCell 2 k n :: mkL (k + (2 * n : Nat)) ns
theorem mkL_len : ∀ (k : Int) (ns : List Nat), (mkL k ns).length = ns.length
  | _, [] => rfl
  | k, n :: ns => by simp [mkL, mkL_len _ ns]
theorem mkL_get : ∀ (k : Int) (ns : List Nat) (i : Nat) (h : i < ns.length), (mkL k ns)[i]'(by rw [mkL_len]; exact h) = marks mkCell 2 (k + (2 * (ns.take i).sum : Nat)) ns[i]
  | k, n :: ns, 0, _ => by simp [mkL]
  | k, n :: ns, i + 1, h => by
    have := mkL_get (k + (2 * n : Nat)) ns i (by simpa using h)
    simp only [mkL, List.getElem_cons_succ, this, List.take_succ_cons, List.sum_cons]
    congr 1
    omega
theorem sum_step (ns : List Nat) (i : Nat) (h : i < ns.length) : (ns.take (i + 1)).sum = (ns.take i).sum + ns[i] := by
  rw [List.take_succ_eq_append_getElem h, List.sum_append]
  simp
theorem sum_le' (ns : List Nat) (i : Nat) : (ns.take i).sum ≤ ns.sum := by
  conv => rhs; rw [← List.take_append_drop i ns]
  rw [List.sum_append]
  omega
set_option maxRecDepth 100000 in
theorem laws_eqCellSS (v v' : Value) (ls : List (List CellD)) (w : World) (hs : (vSlice vCells 35).rd w [v] ls) (hs' : (vSlice vCells 35).rd w [v'] ls) :
    Calls Tryz.prog 9 #[v, v'] w fun e w' => e = .returned (.bool true) ∧ Below w.heap.size w w' := by
  obtain ⟨ao, cap, rfl, hc1, hc2, hnil, hcell⟩ := vSlice.shape hs
  obtain ⟨ao', cap', rfl, hc1', hc2', hnil', hcell'⟩ := vSlice.shape hs'
  have HX := Lib.hid hcell
  have HX' := Lib.hid hcell'
  clear hcell hcell' hs hs' hnil hnil'
  unfold maxLen at hc2 hc2'
  go_enter Tryz.func9, Tryz.ntmps9
  go_wp2
  go_loopw [5] (fun k wr => ∃ (n : Nat), k = .int .i64 n ∧ n ≤ ls.length ∧ Below w.heap.size w wr) (fun k _ => ls.length - (intOf k).toNat)
  case atStart => exact ⟨0, rfl, by omega, (by repeat (first | with_reducible exact Below.refl _ _ | with_reducible apply Below.ofExt | with_reducible apply Below.ofAlloc | with_reducible apply Below.drew | with_reducible apply Below.ofDrewN | with_reducible assumption | (with_reducible refine Below.setCell ?_ (by first | exact Nat.le_refl _ | (simp [go_sem]; done) | (simp [go_sem]; omega)) _)))⟩
  case round =>
    obtain ⟨n, rfl, hn, hbel⟩ := hrel
    obtain ⟨X, rfl⟩ := hbel.ext
    by_cases hlt : (n : Int) < ls.length
    · have hk : n < ls.length := by omega
      obtain ⟨b, off, cs, rfl, hbl, hrd, hcell⟩ := HX.out n hk
      obtain ⟨b', off', cs', rfl, hbl', hrd', hcell'⟩ := HX'.out n hk
      obtain ⟨s1, rfl⟩ : ∃ s, cs = [s] := by
        have := vCells.len hrd
        match cs, this with
        | [s], _ => exact ⟨s, rfl⟩
      obtain ⟨s2, rfl⟩ : ∃ s, cs' = [s] := by
        have := vCells.len hrd'
        match cs', this with
        | [s], _ => exact ⟨s, rfl⟩
      obtain ⟨a1, c1, rfl⟩ := vSlice.form hrd
      obtain ⟨a2, c2, rfl⟩ := vSlice.form hrd'
      have y0 := hcell 0 _ rfl
      have z0 := hcell' 0 _ rfl
      simp only [show vCells.k = 1 from rfl, Nat.add_zero, Nat.mul_one] at y0 z0
      have H1 := Lib.hid hrd
      have H2 := Lib.hid hrd'
      have hbw := Nat.lt_of_lt_of_le hbl hbel.size
      have hbw' := Nat.lt_of_lt_of_le hbl' hbel.size
      clear hcell hcell' hrd hrd'
      generalize ls[n] = d at *
      go_wp2
      refine wp_region_ord [(0,true),(1,true),(2,true),(3,true),(4,true),(5,true),(6,true),(7,true),(8,false),(9,true)] 10 (by kernel_rfl) (by kernel_rfl) ?_
      repeat (refine wpOrd_quiet rfl (fun K hK => ?_); go_simp; (try simp (disch := omega) only [IntWalk.i64_in]); refine hK _ ?_; clear hK K)
      refine wpOrd_grow rfl (fun K hK => ?_); go_simp; go_at_call 40; refine (laws_eqCellS _ _ d _ (by repeat (first | with_reducible exact H1.out | with_reducible apply View.rdMerge | with_reducible apply View.rdExt | with_reducible apply View.rdAlloc | with_reducible apply View.rdDrew)) (by repeat (first | with_reducible exact H2.out | with_reducible apply View.rdMerge | with_reducible apply View.rdExt | with_reducible apply View.rdAlloc | with_reducible apply View.rdDrew))).mono ?_; rintro e w' ⟨rfl, hb⟩; obtain ⟨X, rfl⟩ := hb.ext; clear hb; try go_simp; refine hK _ _ (by show Sx _ _; (try simp only [← Array.append_assoc]); repeat (first | with_reducible exact Sx.drew _ | with_reducible exact Sx.same _ _ _ _ | with_reducible exact ⟨_, rfl⟩ | with_reducible apply Sx.more | with_reducible apply Sx.ext | with_reducible apply Sx.alloc | with_reducible apply Sx.draw | with_reducible exact Sx.refl _)) ?_; clear hK K
      repeat (refine wpOrd_quiet rfl (fun K hK => ?_); go_simp; (try simp (disch := omega) only [IntWalk.i64_in]); refine hK _ ?_; clear hK K)
      refine wpOrd_nil ?_
      go_wp2
      go_roundw
      case rel => exact ⟨n + 1, by go_num, by omega, (by repeat (first | with_reducible exact Below.refl _ _ | with_reducible apply Below.ofExt | with_reducible apply Below.ofAlloc | with_reducible apply Below.drew | with_reducible apply Below.ofDrewN | with_reducible assumption | (with_reducible refine Below.setCell ?_ (by first | exact Nat.le_refl _ | (simp [go_sem]; done) | (simp [go_sem]; omega)) _)))⟩
      case measure => simp [intOf]; omega
    · go_wp2
      go_ret
      exact ⟨rfl, (by repeat (first | with_reducible exact Below.refl _ _ | with_reducible apply Below.ofExt | with_reducible apply Below.ofAlloc | with_reducible apply Below.drew | with_reducible apply Below.ofDrewN | with_reducible assumption | (with_reducible refine Below.setCell ?_ (by first | exact Nat.le_refl _ | (simp [go_sem]; done) | (simp [go_sem]; omega)) _)))⟩
theorem flat_disj2 {fps : List (List Nat)} (h : fps.flatten.Nodup) {i j : Nat} (hi : i < fps.length) (hj : j < fps.length) (hne : i ≠ j) : ∀ x ∈ fps[j], x ∉ fps[i] := by
  have h2 := (List.pairwise_flatten.1 h).2
  rw [List.pairwise_iff_getElem] at h2
  intro x hx hx'
  rcases Nat.lt_or_gt_of_ne hne with h | h
  · exact h2 i j hi hj h x hx' x hx rfl
  · exact h2 j i hj hi h x hx x hx' rfl
/-- n lists are marked, the others not yet -/
def Half (k : Int) (ls : List (List CellD)) (css : List (List Value)) (fps : List (List Nat)) (n : Nat) (w : World) : Prop :=
  ∀ i (hi : i < ls.length) (hc : i < css.length) (hf : i < fps.length), if i < n then vCells.own w fps[i] css[i] (marks mkCell 2 (k + (2 * ((ls.map List.length).take i).sum : Nat)) ls[i].length) else vCells.own w fps[i] css[i] ls[i]
set_option maxRecDepth 100000 in
set_option maxHeartbeats 1000000 in
theorem laws_markCellSS (v : Value) (fp : List Nat) (ls : List (List CellD)) (k : Int) (w : World) (hs : (vSlice vCells 35).own w fp [v] ls) (hnd : fp.Nodup) (h0 : 0 ≤ k) (h1 : k + (2 * (ls.map List.length).sum : Nat) ≤ 4294960000) :
    Calls Tryz.prog 10 #[v, .int .i64 k] w fun e w' => e = .returned (.int .i64 (k + (2 * (ls.map List.length).sum : Nat))) ∧ (vSlice vCells 35).own w' fp [v] (mkL k (ls.map List.length)) ∧ Upon fp w w' := by
  rcases hs with ⟨hv, rfl, rfl⟩ | ⟨b, cap, blk, css, fps, hv, hb, hnc, hm, hsz, ht, rfl, hcl, hfl, hel⟩
  · simp only [List.cons.injEq, and_true] at hv
    subst hv
    go_enter Tryz.func10, Tryz.ntmps10
    go_wp2
    go_loopw [1, 5] (fun kk i wr => kk = .int .i64 k ∧ i = .int .i64 0 ∧ wr = w) (fun _ _ _ => 0)
    case atStart => exact ⟨rfl, rfl, rfl⟩
    case round =>
      obtain ⟨rfl, rfl, rfl⟩ := hrel
      go_wp2
      go_ret
      exact ⟨by simp, .inl ⟨rfl, rfl, rfl⟩, Upon.refl _ _⟩
  · simp only [List.cons.injEq, and_true] at hv
    subst hv
    have hbn := (List.nodup_cons.1 hnd).1
    have hfn := (List.nodup_cons.1 hnd).2
    have hsz' : blk.size = cap * 1 := hsz
    unfold maxLen at hm
    have hval : ∀ i (hi : i < ls.length), ∃ ao c, css[i]? = some [.slice ao ls[i].length c] ∧ blk[i]? = some (.slice ao ls[i].length c) := by
      intro i hi
      have h := View.toRd _ (hel i hi (by omega) (by omega))
      obtain ⟨s, hs⟩ : ∃ s, css[i]'(by omega) = [s] := by
        have := vCells.len h
        match css[i]'(by omega), this with
        | [s], _ => exact ⟨s, rfl⟩
      rw [hs] at h
      obtain ⟨a1, c1, rfl⟩ := vSlice.form h
      refine ⟨a1, c1, by rw [List.getElem?_eq_getElem (by omega), hs], ?_⟩
      have hlen : ∀ q (hq : q < css.length), (css[q]).length = 1 := fun q hq => vCells.len (View.toRd _ (hel q (by omega) hq (by omega)))
      have hg := flatten_get hlen i (by omega) 0 _ (by rw [hs]; rfl)
      rw [← ht, List.getElem?_take] at hg
      split at hg
      · simpa using hg
      · cases hg
    have hhalf : Half k ls css fps 0 w := fun i hi hc hf => by rw [if_neg (by omega)]; exact hel i hi hc hf
    have HV := Lib.hid hval
    have HFN := Lib.hid hfn
    have HBN := Lib.hid hbn
    have HH := Lib.hid hhalf
    have HT := Lib.hid ht
    have HB := Lib.hid hb
    have HCL := Lib.hid hcl
    have HFL := Lib.hid hfl
    have hbl := World.lt_of_get hb
    obtain ⟨ns, hns⟩ : ∃ ns, ns = ls.map List.length := ⟨_, rfl⟩
    have hnl : ns.length = ls.length := by rw [hns, List.length_map]
    rw [← hns] at h1
    have HNS := Lib.hid hns
    clear hval hfn hbn hhalf ht hb hcl hfl hel hnd hns hsz
    go_enter Tryz.func10, Tryz.ntmps10
    go_wp2
    go_loopw [1, 5] (fun kk i wr => ∃ (n : Nat) (m : Int), kk = .int .i64 m ∧ i = .int .i64 n ∧ n ≤ ls.length ∧ m = k + (2 * (ns.take n).sum : Nat) ∧ Upon (b :: fps.flatten) w wr ∧ wr.heap[b]? = some (.cells blk 35 (0, 0)) ∧ Half k ls css fps n wr) (fun _ i _ => ls.length - (intOf i).toNat)
    case atStart => exact ⟨0, k, rfl, rfl, by omega, by simp, Upon.refl _ _, HB.out, HH.out⟩
    case round =>
      obtain ⟨n, m, rfl, rfl, hn, hmk, hup, hbb, hhalf⟩ := hrel
      rename_i wr
      have hsl := sum_le' ns n
      have HM := Lib.hid hmk
      have HHN := Lib.hid hhalf
      have HUP := Lib.hid hup
      have HBB := Lib.hid hbb
      have hm0 : 0 ≤ m := by omega
      clear hmk hhalf hup hbb
      by_cases hlt : (n : Int) < ls.length
      · have hk : n < ls.length := by omega
        have hkf : n < fps.length := by rw [HFL.out]; exact hk
        have hkc : n < css.length := by rw [HCL.out]; exact hk
        obtain ⟨a1, c1, e1, e2⟩ := HV.out n hk
        have hss := sum_step ns n (by omega)
        have hsl2 := sum_le' ns (n + 1)
        have hnn : ns[n]'(by omega) = ls[n].length := by
          have := HNS.out
          subst this
          simp
        have hown := HHN.out n hk hkc hkf
        rw [if_neg (by omega)] at hown
        have e3 : css[n] = [.slice a1 ls[n].length c1] := by
          rw [List.getElem?_eq_getElem hkc] at e1
          exact Option.some.inj e1
        rw [e3] at hown
        have hbd : m + (2 * ls[n].length : Nat) ≤ 4294960000 := by rw [hss, hnn] at hsl2; have := HM.out; omega
        have D := Lib.hid (laws_markCellS (.slice a1 ls[n].length c1) fps[n] ls[n] m wr hown hm0 hbd)
        have y0 : wr.cell? ⟨b, n, none⟩ = some (.slice a1 ls[n].length c1) := by rw [World.cell?_of_get HBB.out]; exact e2
        have hbw := World.lt_of_get HBB.out
        obtain ⟨ln, hln⟩ : ∃ ln, ln = ls[n].length := ⟨_, rfl⟩
        have HLN := Lib.hid hln
        have HE3 := Lib.hid e3
        have HSS := Lib.hid hss
        have HNN := Lib.hid hnn
        clear hown e1 e2 e3 hsl hsl2 hss hnn hln
        rw [← HLN.out] at y0 hbd D
        go_wp2_with fail
        (go_at_call 41; refine D.out.mono ?_; rintro e w2 ⟨rfl, ho, hu⟩)
        have hnb : b ∉ fps[n] := fun h => HBN.out (List.mem_flatten.2 ⟨_, List.getElem_mem hkf, h⟩)
        have hup2 : Hid (Upon (b :: fps.flatten) w w2) := HUP.out.trans (hu.mono fun x hx => List.mem_cons_of_mem _ (List.mem_flatten.2 ⟨_, List.getElem_mem hkf, hx⟩))
        have hbb2 : Hid (w2.heap[b]? = some (.cells blk 35 (0, 0))) := (hu.block b hbw hnb).trans HBB.out
        have hh2 : Hid (Half k ls css fps (n + 1) w2) := by
          intro i hi hc hf
          by_cases hin : i = n
          · subst hin
            rw [if_pos (by omega), HE3.out, ← HLN.out]
            have hmm := HM.out
            rw [HNS.out] at hmm
            rw [hmm] at ho
            exact ho
          · have hold := HHN.out i hi hc hf
            have hd : ∀ x ∈ fps[i], x ∉ fps[n] := flat_disj2 HFN.out hkf hf (fun e => hin e.symm)
            by_cases hlt2 : i < n
            · rw [if_pos hlt2] at hold
              rw [if_pos (by omega)]
              exact View.ownUpon hold hu hd
            · rw [if_neg hlt2] at hold
              rw [if_neg (by omega)]
              exact View.ownUpon hold hu hd
        clear ho hu D
        go_wp2
        go_roundw
        case rel => exact ⟨n + 1, _, rfl, by go_num, by omega, by rw [HSS.out, HNN.out, ← HLN.out]; have := HM.out; omega, hup2.out, hbb2.out, hh2.out⟩
        case measure => simp [intOf]; omega
      · have e : n = ls.length := by omega
        have hmm := HM.out
        rw [e, List.take_of_length_le (by omega)] at hmm
        have hfin : Hid ((vSlice vCells 35).own wr (b :: fps.flatten) [.slice (some ⟨b, 0, none⟩) ls.length cap] (mkL k ns)) := by
          have hll : (mkL k ns).length = ls.length := by rw [mkL_len]; exact hnl
          refine .inr ⟨b, cap, blk, css, fps, by rw [hll], HBB.out, by rw [hll]; exact hnc, by unfold maxLen; exact hm, by exact hsz', by rw [hll]; exact HT.out, rfl, by rw [hll]; exact HCL.out, by rw [hll]; exact HFL.out, fun i hi hc hf => ?_⟩
          have h := HHN.out i (by omega) hc hf
          rw [if_pos (by omega)] at h
          rw [mkL_get k ns i (by omega)]
          have hn2 : ns[i]'(by omega) = ls[i].length := by
            have := HNS.out
            subst this
            simp
          have hx := HNS.out
          rw [hn2]
          rw [← hx] at h
          exact h
        have HMM := Lib.hid hmm
        clear hmm
        go_wp2
        go_ret
        exact ⟨by rw [HMM.out, HNS.out]; simp, by rw [← HNS.out]; exact hfin.out, HUP.out⟩
set_option maxRecDepth 100000 in
theorem laws_heldCellSS (v : Value) (k : Int) (ns : List Nat) (w : World) (hs : (vSlice vCells 35).rd w [v] (mkL k ns)) (h0 : 0 ≤ k) (h1 : k + (2 * ns.sum : Nat) ≤ 4294960000) :
    Calls Tryz.prog 11 #[v, .int .i64 k] w fun e w' => e = .returned (.int .i64 (k + (2 * ns.sum : Nat))) ∧ Below w.heap.size w w' := by
  obtain ⟨ao, cap, rfl, hc1, hc2, hnil, hcell⟩ := vSlice.shape hs
  have HX := Lib.hid hcell
  have hll := mkL_len k ns
  clear hcell hs hnil
  unfold maxLen at hc2
  rw [hll] at hc1 ⊢
  go_enter Tryz.func11, Tryz.ntmps11
  go_wp2
  go_loopw [1, 5] (fun kk i wr => ∃ (n : Nat) (m : Int), kk = .int .i64 m ∧ i = .int .i64 n ∧ n ≤ ns.length ∧ m = k + (2 * (ns.take n).sum : Nat) ∧ Below w.heap.size w wr) (fun _ i _ => ns.length - (intOf i).toNat)
  case atStart => exact ⟨0, k, rfl, rfl, by omega, by simp, (by repeat (first | with_reducible exact Below.refl _ _ | with_reducible apply Below.ofExt | with_reducible apply Below.ofAlloc | with_reducible apply Below.drew | with_reducible apply Below.ofDrewN | with_reducible assumption | (with_reducible refine Below.setCell ?_ (by first | exact Nat.le_refl _ | (simp [go_sem]; done) | (simp [go_sem]; omega)) _)))⟩
  case round =>
    obtain ⟨n, m, rfl, rfl, hn, hmk, hbel⟩ := hrel
    rename_i wr
    have hsl := sum_le' ns n
    have hm0 : 0 ≤ m := by omega
    have HM := Lib.hid hmk
    clear hmk
    by_cases hlt : (n : Int) < ns.length
    · have hk : n < ns.length := by omega
      obtain ⟨b, off, cs, rfl, hbl, hrd, hcell⟩ := HX.out n (by omega)
      obtain ⟨s1, rfl⟩ : ∃ s, cs = [s] := by
        have := vCells.len hrd
        match cs, this with
        | [s], _ => exact ⟨s, rfl⟩
      rw [mkL_get k ns n hk] at hrd
      rw [← HM.out] at hrd
      obtain ⟨a1, c1, rfl⟩ := vSlice.form hrd
      rw [marks_len] at hcell hrd
      have y0 := (Grew.below hbel).cell (hcell 0 _ rfl)
      simp only [show vCells.k = 1 from rfl, Nat.add_zero, Nat.mul_one] at y0
      have hss := sum_step ns n hk
      have hsl2 := sum_le' ns (n + 1)
      have hbd : m + (2 * ns[n] : Nat) ≤ 4294960000 := by rw [hss] at hsl2; have := HM.out; omega
      have D := Lib.hid (laws_heldCellS (.slice a1 ns[n] c1) m ns[n] wr (View.rdBelow hrd hbel) hm0 hbd)
      have hbw := Nat.lt_of_lt_of_le hbl hbel.size
      have HSS := Lib.hid hss
      clear hcell hrd hsl hsl2 hss
      generalize ns[n] = ln at *
      go_wp2_with fail
      (go_at_call 42; refine D.out.mono ?_; rintro e w2 ⟨rfl, hb⟩)
      have hb2 : Below w.heap.size w w2 := Below.then hbel hb
      have hng : ¬ m + (2 * ln : Nat) < 0 := by omega
      clear D hb
      go_wp2
      go_roundw
      case rel => exact ⟨n + 1, _, rfl, by go_num, by omega, by rw [HSS.out]; have := HM.out; omega, hb2⟩
      case measure => simp [intOf]; omega
    · have e : n = ns.length := by omega
      have hmm := HM.out
      rw [e, List.take_length] at hmm
      have HMM := Lib.hid hmm
      clear hmm
      go_wp2
      go_ret
      exact ⟨by rw [HMM.out]; simp, hbel⟩
end Go.Proofs.YtedgenmbdjadkaaGreatDoor
