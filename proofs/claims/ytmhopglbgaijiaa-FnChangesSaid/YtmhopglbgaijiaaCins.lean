/- slices.Insert of one cell: the program's and the reference's. Each condition stands in its theorem. -/
import Derived.Test.YtmhopglbgaijiaaCdel
import Derived.Test.YtmhopglbgaijiaaOrdT
import Derived.Laws.Externs
set_option linter.unusedVariables false
set_option linter.unusedSimpArgs false
namespace Go.Proofs.Ytmhopglbgaijiaa
open Go.ChangeShapes Go.WideShapes Go.ChangeAt Go.RowKit

theorem one_rdl (w : World) (c : CellD) (gx : Nat) (hx : w.heap[gx]? = some (.cells #[.string c.key, .string c.val] 53 (0, 0))) : RdL rCell w (.slice (some ⟨gx, 0, none⟩) 1 1) [c] := by
  refine .inr ⟨gx, 0, 1, rfl, Nat.le_refl _, by unfold maxLen; omega, fun j u hj => ?_⟩
  rw [World.cell?_of_get hx, Nat.zero_add]
  simpa [rCell, CellD.row] using hj
theorem alloc_new (w : World) (o : Obj) (n : Nat) (h : n = w.heap.size) : (w.alloc o).heap[n]? = some o := by
  subst h
  show (w.heap.push o)[_]? = _
  simp
theorem alloc_old (w : World) (o : Obj) {b : Nat} (h : b < w.heap.size) : (w.alloc o).heap[b]? = w.heap[b]? := by
  show (w.heap.push o)[_]? = _
  rw [Array.getElem?_push, if_neg (Nat.ne_of_lt h)]
theorem own_cells {w : World} {B g n cap : Nat} {ds : List CellD} {cur : Array Value} (hh : w.heap[g]? = some (.cells cur 53 (0, 0))) (hg : B ≤ g) (hl : n = ds.length) (hn : n ≤ cap) (hm : cap ≤ maxLen) (hs : cur.size = cap * 2) (ht : cur.toList.take (n * 2) = ds.flatMap CellD.row) : OwnL rCell 53 w B (.slice (some ⟨g, 0, none⟩) n cap) ds := by
  subst hl
  exact ⟨rCell.flat_len _, .inr ⟨g, cap, cur, rfl, hg, hh, hn, hm, hs, ht⟩⟩
set_option maxRecDepth 100000 in
set_option maxHeartbeats 4000000 in
theorem cells_Insert (v : Value) (ds : List CellD) (i : Nat) (c : CellD) (gx B : Nat) (w : World) (ho : OwnL rCell 53 w B v ds) (hi : i ≤ ds.length) (hx : w.heap[gx]? = some (.cells #[.string c.key, .string c.val] 53 (0, 0))) (hgx : v.ownBlock ≠ some gx) (hl : ds.length ≤ 4194304) (hB : B ≤ w.heap.size) :
    Calls Try.prog 79 #[v, .int .i64 i, .slice (some ⟨gx, 0, none⟩) 1 1] w fun e w' => ∃ v', e = .returned v' ∧ OwnL rCell 53 w' B v' (ds.take i ++ c :: ds.drop i) ∧ Upon v.ownBlock.toList w w'  := by
  have HX := Lib.hid (one_rdl w c gx hx)
  have HGX := Lib.hid hx
  have HOWN := Lib.hid ho
  have hgl := World.lt_of_get hx
  rcases ho.2 with ⟨rfl, h0⟩ | ⟨g, cap, cur, rfl, hg, hh, hn, hm, hsz, ht⟩
  · have : ds = [] := List.eq_nil_of_length_eq_zero h0
    subst this
    obtain rfl : i = 0 := by simpa using hi
    have HF : Hid (([] : List CellD).take 0 ++ c :: ([] : List CellD).drop 0 = [] ++ [c]) := rfl
    clear ho hx
    go_enter Try.func79, Try.ntmps79
    go_wp2_with (at_builtin; refine Stop.here ?_)
    refine wpList_appL rfl _ _ _ rfl Try.elemCellS (B := B) (R := rCell) (xs := []) HOWN.out rfl (ys := [c]) HX.out rfl (by simp only [List.length_singleton]; omega) (by simp only [List.length_singleton]; unfold maxLen; omega) hB ?_
    intro v4 w4 hown4 hgr4 _
    have HO4 := Lib.hid hown4
    have HU4 := Lib.hid (upon_grown hgr4)
    clear hown4 hgr4
    go_wp2
    go_ret
    exact ⟨_, rfl, by first | exact HO4.out | (rw [HF.out]; exact HO4.out), HU4.out⟩
  have HH := Lib.hid hh
  have HT : Hid (cur.toList.take (ds.length * 2) = ds.flatMap CellD.row) := ht
  have HSZ : Hid (cur.size = cap * 2) := hsz
  have hgb := World.lt_of_get hh
  have hne : gx ≠ g := fun e => hgx (by rw [e]; rfl)
  clear ho hx hh ht hsz hgx
  unfold maxLen at hm
  by_cases hin : i = ds.length
  case pos =>
    have HF : Hid (ds.take i ++ c :: ds.drop i = ds ++ [c]) := by show _ = _; rw [hin, List.take_length, List.drop_length]
    subst hin
    by_cases hcap : cap = ds.length
    case pos =>
      have hcap2 : ¬ ds.length < cap := by omega
      go_enter Try.func79, Try.ntmps79
      go_wp2_with (at_builtin; refine Stop.here ?_)
      refine wpList_appL rfl _ _ _ rfl Try.elemCellS (B := B) (R := rCell) (xs := ds) HOWN.out rfl (ys := [c]) HX.out rfl (by simp only [List.length_singleton]; omega) (by simp only [List.length_singleton]; unfold maxLen; omega) hB ?_
      intro v4 w4 hown4 hgr4 _
      have HO4 := Lib.hid hown4
      have HU4 := Lib.hid (upon_grown hgr4)
      clear hown4 hgr4
      go_wp2
      go_ret
      exact ⟨_, rfl, by first | exact HO4.out | (rw [HF.out]; exact HO4.out), HU4.out⟩
    case neg =>
      go_enter Try.func79, Try.ntmps79
      go_wp2_with (at_builtin; refine Stop.here ?_)
      refine wpList_appL rfl _ _ _ rfl Try.elemCellS (B := B) (R := rCell) (xs := ds) HOWN.out rfl (ys := [c]) HX.out rfl (by simp only [List.length_singleton]; omega) (by simp only [List.length_singleton]; unfold maxLen; omega) hB ?_
      intro v4 w4 hown4 hgr4 _
      have HO4 := Lib.hid hown4
      have HU4 := Lib.hid (upon_grown hgr4)
      clear hown4 hgr4
      go_wp2
      go_ret
      exact ⟨_, rfl, by first | exact HO4.out | (rw [HF.out]; exact HO4.out), HU4.out⟩
  case neg =>
    have hlt : i < ds.length := by omega
    have hz2 : ¬ ((i : Int) = (ds.length : Int)) := by omega
    have hc1 : ¬ cap = i := by omega
    obtain ⟨Ra, hRa⟩ : ∃ R, R = (ds.take i).flatMap CellD.row := ⟨_, rfl⟩
    obtain ⟨Rb, hRb⟩ : ∃ R, R = (ds.drop i).flatMap CellD.row := ⟨_, rfl⟩
    obtain ⟨Rc, hRc⟩ : ∃ R, R = CellD.row c := ⟨_, rfl⟩
    have la : Ra.length = i * 2 := by rw [hRa, rows_len, List.length_take, Nat.min_eq_left hi]
    have lb : Rb.length = (ds.length - i) * 2 := by rw [hRb, rows_len, List.length_drop]
    have lc : Rc.length = 2 := by rw [hRc]; rfl
    have hab : cur.toList.take (ds.length * 2) = Ra ++ Rb := by rw [HT.out, hRa, hRb, ← List.flatMap_append, List.take_append_drop]
    have HR : Hid ((ds.take i ++ c :: ds.drop i).flatMap CellD.row = Ra ++ (Rc ++ Rb)) := by show _ = _; rw [List.flatMap_append, List.flatMap_cons, hRa, hRb, hRc]
    have oa : ∀ u ∈ Ra, u.oneCell' = true := by rw [hRa]; intro u hu; obtain ⟨d, _, hd⟩ := List.mem_flatMap.1 hu; exact vCell_one d u hd
    have ob : ∀ u ∈ Rb, u.oneCell' = true := by rw [hRb]; intro u hu; obtain ⟨d, _, hd⟩ := List.mem_flatMap.1 hu; exact vCell_one d u hd
    have oc : ∀ u ∈ Rc, u.oneCell' = true := by rw [hRc]; exact vCell_one c
    have hcl : cur.toList.length = cap * 2 := (Array.length_toList (xs := cur)).trans HSZ.out
    have ga : ∀ j u, Ra[j]? = some u → cur[j]? = some u := fun j u hj => by
      have h := (List.getElem?_eq_some_iff.1 hj).1
      have h2 := congrArg (fun l => l[j]?) hab
      simp only [List.getElem?_take, List.getElem?_append_left h] at h2
      rw [if_pos (by omega), Array.getElem?_toList] at h2
      rw [h2]
      exact hj
    have gb : ∀ j u, Rb[j]? = some u → cur[i * 2 + j]? = some u := fun j u hj => by
      have h := (List.getElem?_eq_some_iff.1 hj).1
      have h2 := congrArg (fun l => l[i * 2 + j]?) hab
      simp only [List.getElem?_take] at h2
      rw [if_pos (by omega), List.getElem?_append_right (by omega), la, Nat.add_sub_cancel_left, Array.getElem?_toList] at h2
      rw [h2]
      exact hj
    have gc : ∀ (W : World), W.heap[gx]? = some (.cells #[.string c.key, .string c.val] 53 (0, 0)) → ∀ j u, Rc[j]? = some u → W.cell? ((⟨gx, 0, none⟩ : Addr).add j) = some u := fun W hW j u hj => by
      rw [Addr.add_lit, World.cell?_of_get hW, Nat.zero_add]
      rw [hRc] at hj
      simpa [CellD.row] using hj
    have HRa := Lib.hid hRa
    clear hRa hRb hRc
    by_cases hroom : cap = ds.length
    case pos =>
      -- no room: a new row
      have hrm2 : ¬ ds.length < cap := by omega
      subst hroom
      obtain ⟨G, L, hG1, hG2, hL1, hL2, hrz0⟩ := app_zeros (P := Try.prog) (w := w) (tn := 3) Try.elemCellS Try.underlying3 (some ⟨g, 0, none⟩) i ds.length Ra la (fun h => by cases h) (fun ad had j u hj => by
        cases had
        rw [Addr.add_lit, World.cell?_of_get HH.out, Nat.zero_add]
        exact ga j u hj) (ds.length + 1 - i) (by omega) (by omega) (by omega) (by omega) (by omega)
      have hrz : ∀ ty, (Builtin.append_ #[46, 3] ty #[.slice (some ⟨g, 0, none⟩) i ds.length, .int .i64 ((ds.length : Int) + 1 - (i : Int))]).run Try.prog w = .ok (.slice (some ⟨w.heap.size, 0, none⟩) (ds.length + 1) G) (w.alloc (.cells L.toArray 53)).drew := fun ty => by
        have h := hrz0 ty
        rw [show i + (ds.length + 1 - i) = ds.length + 1 by omega] at h
        rw [show (ds.length : Int) + 1 - (i : Int) = ((ds.length + 1 - i : Nat) : Int) by omega]
        exact h
      have hmn1 : Nat.min 1 (ds.length + 1 - i) = 1 := Nat.min_eq_left (by omega)
      have hmn2 : Nat.min (ds.length - i) (ds.length - i) = ds.length - i := Nat.min_self _
      have hcp1 : ∀ ty dc, (Builtin.copy_ #[46, 46] ty #[.slice (some ⟨w.heap.size, i * 2, none⟩) (ds.length + 1 - i) dc, .slice (some ⟨gx, 0, none⟩) 1 1]).run Try.prog (w.alloc (.cells L.toArray 53)).drew = .ok (goInt 1) (w.alloc (.cells (splice L (i * 2) Rc).toArray 53)).drew := fun ty dc => by
        have h := run_copyK (P := Try.prog) (w := (w.alloc (.cells L.toArray 53)).drew) Try.elemCellS ty w.heap.size (i * 2) (ds.length + 1 - i) dc ⟨gx, 0, none⟩ 1 1 L 53 (alloc_new w _ _ rfl) Rc (by rw [lc, hmn1]) (gc _ ((alloc_old w _ hgl).trans HGX.out)) (by rw [lc]; omega) oc
        rw [hmn1, World.setB_drew, World.setB_alloc_at w w.heap.size _ _ rfl] at h
        exact h
      have hcp2 : ∀ ty dc sc, (Builtin.copy_ #[46, 46] ty #[.slice (some ⟨w.heap.size, (i + 1) * 2, none⟩) (ds.length - i) dc, .slice (some ⟨g, i * 2, none⟩) (ds.length - i) sc]).run Try.prog (w.alloc (.cells (splice L (i * 2) Rc).toArray 53)).drew.drew = .ok (goInt ((ds.length - i : Nat) : Int)) (w.alloc (.cells (splice (splice L (i * 2) Rc) ((i + 1) * 2) Rb).toArray 53)).drew.drew := fun ty dc sc => by
        have h := run_copyK (P := Try.prog) (w := (w.alloc (.cells (splice L (i * 2) Rc).toArray 53)).drew.drew) Try.elemCellS ty w.heap.size ((i + 1) * 2) (ds.length - i) dc ⟨g, i * 2, none⟩ (ds.length - i) sc (splice L (i * 2) Rc) 53 (alloc_new w _ _ rfl) Rb (by rw [lb, hmn2]) (fun j u hj => by
          rw [Addr.add_lit]
          have h2 := World.cell?_of_get (w := (w.alloc (.cells (splice L (i * 2) Rc).toArray 53)).drew.drew) (i := i * 2 + j) (show _ from (alloc_old w _ hgb).trans HH.out)
          rw [h2]
          exact gb j u hj) (by rw [length_splice _ _ _ (by rw [lc]; omega), lb]; omega) ob
        rw [hmn2, World.setB_drew, World.setB_drew, World.setB_alloc_at w w.heap.size _ _ rfl] at h
        exact h
      obtain ⟨L1, hE1⟩ : ∃ L1, L1 = splice L (i * 2) Rc := ⟨_, rfl⟩
      obtain ⟨L2, hE2⟩ : ∃ L2, L2 = splice L1 ((i + 1) * 2) Rb := ⟨_, rfl⟩
      rw [← hE1] at hcp1 hcp2
      rw [← hE2] at hcp2
      have HFIN : Hid (L2.length = G * 2 ∧ L2.take ((ds.length + 1) * 2) = Ra ++ (Rc ++ Rb)) := by
        have e1 : (i + 1) * 2 = i * 2 + Rc.length := by rw [lc]; omega
        refine ⟨?_, ?_⟩
        · rw [hE2, length_splice _ _ _ (by rw [hE1, length_splice _ _ _ (by rw [lc]; omega), lb]; omega), hE1, length_splice _ _ _ (by rw [lc]; omega), hL1]
        · have h := splice_then L (i * 2) Rc Rb (by rw [lb, lc]; omega)
          rw [← e1, ← hE1, ← hE2, hL2] at h
          rw [← h]
          congr 1
          rw [lb]; omega
      have HRZ := Lib.hid hrz
      have HC1 := Lib.hid hcp1
      have HC2 := Lib.hid hcp2
      clear hrz0 hrz hcp1 hcp2 hE1 hE2 hL1 hL2
      rw [show i + (ds.length + 1 - i) = ds.length + 1 by omega] at hG1
      have hGi : ¬ G = i := by omega
      have hGi1 : ¬ G = i + 1 := by omega
      have htn : ((i : Int) + 1).toNat = i + 1 := by omega
      have hb1 : (0 : Int) ≤ (i : Int) + 1 := by omega
      have hb3 : (i : Int) + 1 ≤ (ds.length : Int) + 1 := by omega
      unfold maxLen at hG2
      go_enter Try.func79, Try.ntmps79
      go_wp2_with (at_builtin; refine Stop.here ?_)
      refine wpList_appR rfl _ _ _ _ rfl rfl rfl (HRZ.out _) ?_
      have hcp1 := HC1.out
      go_wp2
      clear hcp1
      refine wp_region_ordT [(0,true),(1,true),(2,true),(3,true),(4,true),(5,true),(6,true),(7,true),(8,false)] 8 (by kernel_rfl) (by kernel_rfl) ?_
      repeat (refine wpOrd_quiet rfl (fun K hK => ?_); go_simp; (try simp (disch := omega) only [IntWalk.i64_in]); refine hK _ ?_; clear hK K)
      refine wpOrd_tail rfl rfl (fun K hK => ?_)
      rw [if_pos (by rfl)]
      refine wp_copyR (.tmp 50) (.tmp 53) 46 rfl (v := .slice (some ⟨w.heap.size, (i + 1) * 2, none⟩) (ds.length - i) (G - (i + 1))) (u := .slice (some ⟨g, i * 2, none⟩) (ds.length - i) (ds.length - i)) (by rfl) (by rfl) (HC2.out _ _ _) ?_
      refine hK _ _ ?_
      clear hK K
      refine wpOrd_nil ?_
      go_wp2
      go_ret
      exact ⟨_, rfl, own_cells (alloc_new w _ _ rfl) hB (by simp; omega) hG1 (by unfold maxLen; omega) (by simpa using HFIN.out.1) (by rw [HR.out]; simpa using HFIN.out.2), Upon.below (by repeat (first | with_reducible exact Below.refl _ _ | with_reducible apply Below.ofExt | with_reducible apply Below.ofAlloc | with_reducible apply Below.drew | with_reducible apply Below.ofDrewN | with_reducible assumption | (with_reducible refine Below.setCell ?_ (by first | exact Nat.le_refl _ | (simp [go_sem]; done) | (simp [go_sem]; omega)) _)))⟩
    case neg =>
      have hrm : ds.length < cap := by omega
      have hrm2 : ds.length + 1 ≤ cap := by omega
      have hta : cur.toList.take (i * 2) = Ra := by
        have h2 := congrArg (List.take (i * 2)) hab
        rw [List.take_take, Nat.min_eq_left (by omega), List.take_left' la] at h2
        exact h2
      have hov : ∀ lb cb, (callFunc 89 #[.slice (some ⟨gx, 0, none⟩) 1 1, .slice (some ⟨g, (i + 1) * 2, none⟩) lb cb]).run Try.prog w = .ok (.value (.bool false)) w := fun lb cb => by
        obtain ⟨i0, z0, hi0, hz0, hs0, _, _⟩ := (Try.elemCellS).hi
        rw [run_callFunc_extern Try.func89 (by kernel_rfl) (by kernel_rfl) (by kernel_rfl) (e := Extern.SlicesOverlaps.overlaps #[46, 46] #[4]) (by kernel_rfl),
          Lib.run_overlaps_apart w 46 4 53 Try.underlying46 2 (fun w => by simp [sizeOf, typeInfo, hi0, hs0]) ⟨gx, 0, none⟩ ⟨g, (i + 1) * 2, none⟩ 1 1 lb cb hne 53 53 2 (cap * 2) (by simp [World.shape?, HGX.out]) (by simp [World.shape?, HH.out, HSZ.out]) (by omega) (by simp [World.frozen?, HGX.out]) (by simp [World.frozen?, HGX.out])]
        rfl
      have hmn1 : Nat.min (ds.length + 1 - i) (ds.length - i) = ds.length - i := Nat.min_eq_right (by omega)
      have hmn2 : Nat.min 1 (ds.length + 1 - i) = 1 := Nat.min_eq_left (by omega)
      have hcp1 : ∀ ty dc sc, (Builtin.copy_ #[46, 46] ty #[.slice (some ⟨g, (i + 1) * 2, none⟩) (ds.length - i) dc, .slice (some ⟨g, i * 2, none⟩) (ds.length + 1 - i) sc]).run Try.prog w.drew = .ok (goInt ((ds.length - i : Nat) : Int)) (w.setB g (.cells (splice cur.toList ((i + 1) * 2) Rb).toArray 53)).drew := fun ty dc sc => by
        have h := run_copyK (P := Try.prog) (w := w.drew) Try.elemCellS ty g ((i + 1) * 2) (ds.length - i) dc ⟨g, i * 2, none⟩ (ds.length + 1 - i) sc cur.toList 53 (by rw [Array.toArray_toList]; exact HH.out) Rb (by rw [lb, hmn1]) (fun j u hj => by
          rw [Addr.add_lit, World.cell?_of_get (w := w.drew) HH.out]
          exact gb j u hj) (by rw [lb, hcl]; omega) ob
        rw [hmn1, World.setB_drew] at h
        exact h
      have hcp2 : ∀ ty dc, (Builtin.copy_ #[46, 46] ty #[.slice (some ⟨g, i * 2, none⟩) (ds.length + 1 - i) dc, .slice (some ⟨gx, 0, none⟩) 1 1]).run Try.prog (w.setB g (.cells (splice cur.toList ((i + 1) * 2) Rb).toArray 53)).drew = .ok (goInt 1) (w.setB g (.cells (splice (splice cur.toList ((i + 1) * 2) Rb) (i * 2) Rc).toArray 53)).drew := fun ty dc => by
        have h := run_copyK (P := Try.prog) (w := (w.setB g (.cells (splice cur.toList ((i + 1) * 2) Rb).toArray 53)).drew) Try.elemCellS ty g (i * 2) (ds.length + 1 - i) dc ⟨gx, 0, none⟩ 1 1 (splice cur.toList ((i + 1) * 2) Rb) 53 (World.setB_at _ _ _ hgb) Rc (by rw [lc, hmn2]) (gc _ ((World.setB_get _ _ _ _ hne).trans HGX.out)) (by rw [length_splice _ _ _ (by rw [lb, hcl]; omega), lc, hcl]; omega) oc
        rw [hmn2, World.setB_drew, World.setB_setB] at h
        exact h
      obtain ⟨L1, hE1⟩ : ∃ L1, L1 = splice cur.toList ((i + 1) * 2) Rb := ⟨_, rfl⟩
      obtain ⟨L2, hE2⟩ : ∃ L2, L2 = splice L1 (i * 2) Rc := ⟨_, rfl⟩
      rw [← hE1] at hcp1 hcp2
      rw [← hE2] at hcp2
      have HFIN : Hid (L2.length = cap * 2 ∧ L2.take ((ds.length + 1) * 2) = Ra ++ (Rc ++ Rb)) := by
        have e1 : (i + 1) * 2 = i * 2 + Rc.length := by rw [lc]; omega
        refine ⟨?_, ?_⟩
        · rw [hE2, length_splice _ _ _ (by rw [hE1, length_splice _ _ _ (by rw [lb, hcl]; omega), lc, hcl]; omega), hE1, length_splice _ _ _ (by rw [lb, hcl]; omega), hcl]
        · have h := splice_ahead cur.toList (i * 2) Rc Rb (by rw [lb, lc, hcl]; omega)
          rw [← e1, ← hE1, ← hE2, hta] at h
          rw [← h]
          congr 1
          rw [lb]; omega
      have HC1 := Lib.hid hcp1
      have HC2 := Lib.hid hcp2
      clear hcp1 hcp2 hE1 hE2 hta hab ga gb gc
      have hci1 : ¬ cap = i + 1 := by omega
      have htn : ((i : Int) + 1).toNat = i + 1 := by omega
      have htn2 : ((ds.length : Int) + 1).toNat = ds.length + 1 := by omega
      have hb1 : (0 : Int) ≤ (i : Int) + 1 := by omega
      have hb2 : (0 : Int) ≤ (ds.length : Int) + 1 := by omega
      have hb3 : (i : Int) + 1 ≤ (ds.length : Int) + 1 := by omega
      have hb4 : (ds.length : Int) + 1 ≤ (cap : Int) := by omega
      have hb5 : (i : Int) ≤ (ds.length : Int) + 1 := by omega
      go_enter Try.func79, Try.ntmps79
      go_wp2_with (simp only [hov])
      clear hov
      refine wp_region_ordT [(0,true),(1,true),(2,true),(3,true),(4,true),(5,true),(6,true),(7,true),(8,false)] 8 (by kernel_rfl) (by kernel_rfl) ?_
      repeat (refine wpOrd_quiet rfl (fun K hK => ?_); go_simp; (try simp (disch := omega) only [IntWalk.i64_in]); refine hK _ ?_; clear hK K)
      refine wpOrd_tail rfl rfl (fun K hK => ?_)
      rw [if_pos (by rfl)]
      refine wp_copyR (.tmp 73) (.tmp 76) 46 rfl (v := .slice (some ⟨g, (i + 1) * 2, none⟩) (ds.length - i) (cap - (i + 1))) (u := .slice (some ⟨g, i * 2, none⟩) (ds.length + 1 - i) (cap - i)) (by rfl) (by rfl) (HC1.out _ _ _) ?_
      refine hK _ _ ?_
      clear hK K
      refine wpOrd_nil ?_
      have hcp2 := HC2.out
      go_wp2
      clear hcp2
      go_ret
      exact ⟨_, rfl, own_cells (World.setB_at _ _ _ hgb) hg (by simp; omega) hrm2 (by unfold maxLen; omega) (by simpa using HFIN.out.1) (by rw [HR.out]; simpa using HFIN.out.2), (show Upon [g] w (w.setB g (.cells L2.toArray 53)) from Upon.setB _ _ (by simp)).trans (Upon.below (by repeat (first | with_reducible exact Below.refl _ _ | with_reducible apply Below.ofExt | with_reducible apply Below.ofAlloc | with_reducible apply Below.drew | with_reducible apply Below.ofDrewN | with_reducible assumption | (with_reducible refine Below.setCell ?_ (by first | exact Nat.le_refl _ | (simp [go_sem]; done) | (simp [go_sem]; omega)) _))))⟩
end Go.Proofs.Ytmhopglbgaijiaa
