/- Texts of this claim, merged: the walks and what they stand on. Each condition stands in its theorem. -/
import Derived.Test.YtieenbnmfaekiaaGreatDoorSS27
set_option linter.unusedVariables false
set_option linter.unusedSimpArgs false
set_option maxRecDepth 100000
set_option maxHeartbeats 8000000
namespace Go.Proofs.YtieenbnmfaekiaaGreatDoor
open Go.ChangeShapes Go.WideShapes Go.ChangeAt Go.RowKit
theorem AnsIn.ne {w : World} {B g cap : Nat} {xs : List AnswerD} (h : AnsIn w B g cap xs) {q : Nat} {cs : Array Value} {t : TypeId} (hq : w.heap[q]? = some (.cells cs t (0, 0))) (ht : t ≠ 66) : g ≠ q := by
 rintro rfl
 have h1 := h.at_
 rw [hq] at h1
 injection h1 with h1
 injection h1 with _ h2
 exact ht h2
theorem call_from (s : StepD) (m : MachD) (h1 : m.rd.Pairwise ltP) (h2 : m.wr.Pairwise ltP) (an : AnswerD) (mm : MachD) (h : (K.doCall s.proc s.call).run ⟨m.cells, [], []⟩ = (an, mm)) :
  (K.doCall s.proc s.call).run m = (an, ⟨mm.cells, joinS m.rd mm.rd, joinS m.wr mm.wr⟩) := by
 rw [Mp.run_from _ m h1 h2, h]
theorem spec_l15Run (v vs : Value) (cs : List CellD) (l : List StepD) (w : World) (h : RdL rCell w v cs) (hs : RdL rStepM w vs l) (hf : ∀ s ∈ l, s.fine) (hl : cs.length ≤ 1048576) (hl2 : l.length ≤ 1048576) (hfit : FitAll l ⟨cs, [], []⟩) :
  Calls Tryz.prog 20 #[v, vs] w fun e w' => ∃ v0 v1 v2 v3, e = .returned (.tuple #[v0, v1, .agg #[v2, v3]]) ∧ RdL rCell w' v0 ((K.runAll l).run ⟨cs, [], []⟩).2.cells ∧ RdL rAns w' v1 ((K.runAll l).run ⟨cs, [], []⟩).1 ∧ RdL rStr w' v2 ((K.runAll l).run ⟨cs, [], []⟩).2.rd ∧ RdL rStr w' v3 ((K.runAll l).run ⟨cs, [], []⟩).2.wr ∧ Below w.heap.size w w' := by
 obtain ⟨res, mres, hr⟩ : ∃ res mres, (K.runAll l).run ⟨cs, [], []⟩ = (res, mres) := ⟨_, _, rfl⟩
 rw [hr]
 dsimp only
 unfold K.runAll at hr
 have HRUN := Lib.hid hr
 have HFIT := Lib.hid hfit
 clear hr hfit
 obtain ⟨ao, cap, rfl, hc1, hc2, hnil, hne⟩ := hs.shape
 have HX := Lib.hid hne
 have HS := Lib.hid h
 have HF := Lib.hid hf
 clear h hs hne hnil hf
 unfold maxLen at hc2
 go_enter Tryz.func20, Tryz.ntmps20
 go_wp2_with (at_builtin; refine Stop.here ?_)
 have ho0 : OwnL rCell 53 ((w.alloc (.cells #[.slice none 0 0, .slice none 0 0] 50)).alloc (.cells #[] 53)) (w.heap.size + 1) (.slice (some ⟨w.heap.size + 1, 0, none⟩) 0 0) [] := by
  have h := OwnL.empty rCell 53 (w.alloc (.cells #[.slice none 0 0, .slice none 0 0] 50))
  rwa [World.size_alloc] at h
 have HO0 := Lib.hid ho0
 clear ho0
 refine wpList_appL rfl _ _ _ rfl Tryz.elemCellS (B := w.heap.size + 1) (v := .slice (some ⟨w.heap.size + 1, 0, none⟩) 0 0) (R := rCell) (xs := []) HO0.out rfl (ys := cs) ((HS.out.alloc _).alloc _) rfl (by simp only [List.length_nil]; omega) (by simp only [List.length_nil]; unfold maxLen; omega) (by simp) ?_
 intro v4 w4 hown4 hg4 _
 have hb4 : Below (w.heap.size + 1) (w.alloc (.cells #[.slice none 0 0, .slice none 0 0] 50)) w4 := by
  have hu := upon_grown hg4
  refine ⟨hu.os, hu.tape, hu.output, Nat.le_trans (by simp) hu.size, fun k hk => (hu.block k (by simp; omega) (by simp [Value.ownBlock]; omega)).trans (heap_alloc_old _ _ (by simp; omega))⟩
 have hP : w4.heap[w.heap.size]? = some (.cells #[.slice none 0 0, .slice none 0 0] 50 (0, 0)) := (hb4.block _ (by omega)).trans (heap_alloc_new w _)
 have hbw : Below w.heap.size w w4 := ⟨hb4.os, hb4.tape, hb4.output, Nat.le_trans (by simp) hb4.size, fun k hk => (hb4.block k (by omega)).trans (heap_alloc_old _ _ hk)⟩
 have HO4 := Lib.hid (show RdL rCell w4 v4 cs from by simpa using hown4.rd)
 have HP := Lib.hid hP
 have HB := Lib.hid hbw
 have hz4 : w.heap.size + 1 ≤ w4.heap.size := Nat.le_trans (by simp) hb4.size
 clear hown4 hg4 hb4 hP hbw HO0 HS
 ((try simp only []); repeat (first | go_skip | go_guarded | go_step | go_upon | go_back))
 go_loopw [0, 7, 9, 10, 11, 12] (fun v0 o7 k _ _ _ W => ∃ (n : Nat) (m : MachD) (out : List AnswerD) (g cap2 : Nat) (y z : Value), k = .int .i64 n ∧ n ≤ l.length ∧ out.length ≤ n ∧ o7 = .slice (some ⟨g, 0, none⟩) out.length cap2 ∧ RdL rCell W v0 m.cells ∧ AnsIn W w4.heap.size g cap2 out ∧
  W.heap[w4.heap.size + 1]? = some (.cells #[y, z] 50 (0, 0)) ∧ RdL rStr W y m.rd ∧ RdL rStr W z m.wr ∧ W.heap[w.heap.size]? = some (.cells #[.slice none 0 0, .slice none 0 0] 50 (0, 0)) ∧ Below w.heap.size w W ∧ w4.heap.size + 2 ≤ W.heap.size ∧ (m.rd.Pairwise ltP ∧ m.wr.Pairwise ltP) ∧ FitAll (l.drop n) m ∧ (Mp.fold K.runSteps out (l.drop n)).run m = (res, mres)) (fun _ _ k _ _ _ _ => l.length - (intOf k).toNat)
 case atStart =>
  have h2 := heap2s w4 (.cells #[] 66) (.cells #[.slice none 0 0, .slice none 0 0] 50) w4.heap.size rfl
  refine ⟨0, ⟨cs, [], []⟩, [], w4.heap.size, 0, _, _, rfl, Nat.zero_le _, Nat.le_refl _, rfl, (HO4.out.alloc _).alloc _, ⟨Nat.le_refl _, Nat.le_refl _, Nat.zero_le _, h2.1⟩, h2.2, RdL.nil _ _, RdL.nil _ _, ?_, (HB.out.ofAlloc _).ofAlloc _, by simp, ⟨List.Pairwise.nil, List.Pairwise.nil⟩, HFIT.out, HRUN.out⟩
  exact (heap_alloc_old _ _ (by simp; omega)).trans ((heap_alloc_old _ _ (by omega)).trans HP.out)
 case round =>
  clear HO4 HP HB HFIT HRUN
  obtain ⟨n, m, out, g, cap2, y, z, rfl, hn, hol, rfl, hr0, hA, hQ, hy, hz, hP, hB, hz2, hso, hfit, hrun⟩ := hrel
  by_cases hlt : (n : Int) < l.length
  case neg =>
   have e : n = l.length := by omega
   subst e
   rw [List.drop_length] at hrun hfit
   have hrr : (out, m) = (res, mres) := hrun
   obtain ⟨rfl, rfl⟩ := Prod.mk.inj hrr
   obtain ⟨y0, yc, rfl⟩ := hy.form
   obtain ⟨z0, zc, rfl⟩ := hz.form
   obtain ⟨a0, ac, rfl⟩ := hr0.form
   have HA := Lib.hid hA
   have HB := Lib.hid hB
   have hpl := World.lt_of_get hP
   have hql := World.lt_of_get hQ
   have hpq : ¬ w4.heap.size + 1 = w.heap.size := by omega
   have hpq2 : ¬ w.heap.size = w4.heap.size + 1 := by omega
   have hgp : g ≠ w.heap.size := hA.ne hP (by decide)
   have q0 : ∀ o, (wr.setB w.heap.size o).cell? ⟨w4.heap.size + 1, 0, none⟩ = some (.slice y0 m.rd.length yc) := fun o => (World.cell?_of_get (i := 0) ((World.setB_get _ _ _ _ hpq).trans hQ)).trans rfl
   have q1 : ∀ o, (wr.setB w.heap.size o).cell? ⟨w4.heap.size + 1, 1, none⟩ = some (.slice z0 m.wr.length zc) := fun o => (World.cell?_of_get (i := 1) ((World.setB_get _ _ _ _ hpq).trans hQ)).trans rfl
   have HE : Hid (∀ o, RdL rCell (wr.setB w.heap.size o) (.slice a0 m.cells.length ac) m.cells ∧ RdL rAns (wr.setB w.heap.size o) (.slice (some ⟨g, 0, none⟩) out.length cap2) out ∧ RdL rStr (wr.setB w.heap.size o) (.slice y0 m.rd.length yc) m.rd ∧ RdL rStr (wr.setB w.heap.size o) (.slice z0 m.wr.length zc) m.wr ∧ Below w.heap.size w (wr.setB w.heap.size o)) := fun o => ⟨rdl_noS (str_cells _) hr0 hP nil2_noS o, (hA.setB hgp o).rd, rdl_noS (str_strs _) hy hP nil2_noS o, rdl_noS (str_strs _) hz hP nil2_noS o, below_setB hB (Nat.le_refl _) o⟩
   have e1 := World.setB_self hP
   rw [← e1]
   clear e1 hA hB hQ hP hr0 hy hz hgp
   (repeat (first | go_skip | go_guarded | go_step | go_upon | go_back))
   go_region
   all_goals (repeat (first | go_skip | go_guarded | go_step | go_upon | go_back))
   all_goals (
    refine bodyPost_ret (by simp [results, Tryz.results20, go_sem, hpl]; rfl) rfl ?_
    exact ⟨_, _, _, _, rfl, RdL.drew (HE.out _).1, RdL.drew (HE.out _).2.1, RdL.drew (HE.out _).2.2.1, RdL.drew (HE.out _).2.2.2.1, Below.drew (HE.out _).2.2.2.2⟩)
  case pos =>
   have hk : n < l.length := by omega
   obtain ⟨pb, po, rfl, hbl, hcell⟩ := HX.out (by intro e; simp [e] at hk)
   have hcc := hcell n hk
   have hfine := HF.out _ (List.getElem_mem hk)
   rw [List.drop_eq_getElem_cons hk] at hfit hrun
   generalize l[n] = s at hcc hfine hfit hrun
   have hbl := hbl (by decide)
   obtain ⟨f0, f1, f2, f3⟩ := hfine
   obtain ⟨g0, g1, g2⟩ := hfit
   obtain ⟨an, mm, hres⟩ : ∃ an mm, (K.doCall s.proc s.call).run ⟨m.cells, [], []⟩ = (an, mm) := ⟨_, _, rfl⟩
   have hcf := call_from s m hso.1 hso.2 an mm hres
   have hrun2 : (Mp.fold K.runSteps (out ++ [an]) (l.drop (n + 1))).run ⟨mm.cells, joinS m.rd mm.rd, joinS m.wr mm.wr⟩ = (res, mres) := by
    have e1 : (Mp.fold K.runSteps out (s :: l.drop (n + 1))) = (K.doCall s.proc s.call >>= fun a => Mp.fold K.runSteps (out ++ [a]) (l.drop (n + 1))) := Mp.bind_assoc _ _ _
    rw [e1, Mp.run_bind, hcf] at hrun
    exact hrun
   rw [hcf] at g2
   have HSM := Lib.hid (Mp.fits_small g0)
   have hse := Mp.fits_end g1
   rw [hres] at hse
   have HSM2 := Lib.hid hse
   have DC := Lib.hid (fun v W h => spec_CallOn v m.cells s.proc f1.1 f1.2 s.call f0 f2.1 f2.2 f3.1 f3.2 W h g1)
   rw [hres] at DC
   have HG2 := Lib.hid g2
   have HR2 := Lib.hid hrun2
   have hsr := Mp.run_rise (K.doCall s.proc s.call) m hso.1 hso.2
   rw [hcf] at hsr
   have HSR := Lib.hid hsr
   have HA := Lib.hid hA
   have HQ := Lib.hid hQ
   have HY := Lib.hid hy
   have HZ := Lib.hid hz
   have HP := Lib.hid hP
   have HB := Lib.hid hB
   have HR0 := Lib.hid hr0
   have HCC := Lib.hid hcc
   clear g0 g1 g2 hse hres hcf hrun hrun2 hsr hA hQ hy hz hP hB hr0 hcc hcell hso
   (repeat (first | go_skip | go_guarded | go_step | go_upon | go_back))
   refine wp_region_inv (fun L a W => ∃ u18 u19 u20 u21 u22 u23 u40 u41 u42 u43 u44 u45 u46 u47 x25 x26 x27 x28 x29 x30 x31 x32 x33 x34 x35 x36 x24 x37 x38 x39 x11 x12 x10, a = ⟨#[u0, .slice (some ⟨pb, po, none⟩) l.length cap, undef, undef, .slice none 0 0, .slice none 0 0, .pointer (some ⟨w.heap.size, 0, none⟩), .slice (some ⟨g, 0, none⟩) out.length cap2, .pointer (some ⟨w4.heap.size + 1, 0, none⟩), .int .i64 n, x10, x11, x12, .slice (some ⟨w.heap.size + 1, 0, none⟩) 0 0, v, v4, .slice (some ⟨w4.heap.size, 0, none⟩) 0 0, .agg #[.slice none 0 0, .slice none 0 0], u18, u19, u20, u21, u22, u23, x24, x25, x26, x27, x28, x29, x30, x31, x32, x33, x34, x35, x36, x37, x38, x39, u40, u41, u42, u43, u44, u45, u46, u47, undef, undef, undef], []⟩ ∧ RI w u0 (.slice (some ⟨pb, po, none⟩) l.length cap) (.slice (some ⟨g, 0, none⟩) out.length cap2) (w4.heap.size + 1) g cap2 w4.heap.size m.cells out y z m.rd m.wr pb po n s an mm L W x25 x26 x27 x28 x29 x30 x31 x32 x33 x34 x35 x36 x24 x37 x38 x39 x11 x12 x10) (by kernel_rfl) ?_ ?_ ?_
   ·have N : ∀ j, ¬ (Array.replicate 21 false).getD j false = true := lset_no 21
    have hd : ∀ {a : Addr} {u : Value}, w.cell? a = some u → wr.drew.cell? a = some u := fun h => (Grew.below (Below.drew HB.out)).cell h
    exact ⟨_, _, _, _, _, _, _, _, _, _, _, _, _, _, _, _, _, _, _, _, _, _, _, _, _, _, _, _, _, _, _, _, _, rfl, ⟨by simp, fun k => absurd k (N _), fun k => absurd k (N _), Below.drew HB.out, HP.out, HQ.out, HA.out.below (Below.drew (Below.refl _ _)), RdL.drew HR0.out, RdL.drew HY.out, RdL.drew HZ.out, hd (HCC.out 0 _ rfl), hd (HCC.out 1 _ rfl), hd (HCC.out 2 _ rfl), hd (HCC.out 3 _ rfl), hd (HCC.out 4 _ rfl), hd (HCC.out 5 _ rfl), hd (HCC.out 6 _ rfl), hbl, fun k => absurd k (N _), fun k => absurd k (N _), fun k => absurd k (N _), fun k => absurd k (N _), fun k => absurd k (N _), fun k => absurd k (N _), fun k => absurd k (N _), fun k => absurd k (N _), fun k => absurd k (N _), fun k => absurd k (N _), fun k => absurd k (N _), fun k => absurd k (N _), fun k => absurd k (N _), fun k => absurd k (N _), fun k => absurd k (N _), fun k => absurd k (N _), fun k => absurd k (N _), fun k => absurd k (N _), fun k => absurd k (N _)⟩⟩
   ·rintro L a W i ⟨u18, u19, u20, u21, u22, u23, u40, u41, u42, u43, u44, u45, u46, u47, x25, x26, x27, x28, x29, x30, x31, x32, x33, x34, x35, x36, x24, x37, x38, x39, x11, x12, x10, rfl, H⟩ hi
    have hlt := ready_lt hi
    have hun := ready_un hi
    have hW : Hid (∀ j, waitsFor _ i j = true → L.getD j false = true) := fun j h => ready_waits hi h
    have h21 : i < 21 := hlt
    clear hlt hi
    have hcs : i = 0 ∨ i = 1 ∨ i = 2 ∨ i = 3 ∨ i = 4 ∨ i = 5 ∨ i = 6 ∨ i = 7 ∨ i = 8 ∨ i = 9 ∨ i = 10 ∨ i = 11 ∨ i = 12 ∨ i = 13 ∨ i = 14 ∨ i = 15 ∨ i = 16 ∨ i = 17 ∨ i = 18 ∨ i = 19 ∨ i = 20 := by omega
    clear h21
    rcases hcs with rfl | rfl | rfl | rfl | rfl | rfl | rfl | rfl | rfl | rfl | rfl | rfl | rfl | rfl | rfl | rfl | rfl | rfl | rfl | rfl | rfl
    ·refine wpOp_of rfl (fun K hK => ?_)
     go_simp
     refine hK _ _ ⟨_, _, _, _, _, _, _, _, _, _, _, _, _, _, _, _, _, _, _, _, _, _, _, _, _, _, _, _, _, _, _, _, _, rfl, H.set (i := 0) (by decide) (by decide) (by decide) (by (simp; done)) (by (simp; done)) (by (simp; done)) (by (simp; done)) (by (simp; done)) (by (simp; done)) (by (simp; done)) (by (simp; done)) (by (simp; done)) (by (simp; done)) (by (simp; done)) (by (simp; done)) (by (simp; done)) (by (simp; done)) (by (simp; done)) (by (simp; done)) (by (simp; done)) (by (simp; done)) (by (simp; done))⟩
    ·refine wpOp_of rfl (fun K hK => ?_)
     go_simp
     refine hK _ _ ⟨_, _, _, _, _, _, _, _, _, _, _, _, _, _, _, _, _, _, _, _, _, _, _, _, _, _, _, _, _, _, _, _, _, rfl, H.set (i := 1) (by decide) (by decide) (by decide) (by (simp; done)) (by (simp; done)) (by (simp; done)) (by (simp; done)) (by (simp; done)) (by (simp; done)) (by (simp; done)) (by (simp; done)) (by (simp; done)) (by (simp; done)) (by (simp; done)) (by (simp; done)) (by (simp; done)) (by (simp; done)) (by (simp; done)) (by (simp; done)) (by (simp; done)) (by (simp; done)) (by (simp; done))⟩
    ·refine wpOp_of rfl (fun K hK => ?_)
     go_simp
     refine hK _ _ ⟨_, _, _, _, _, _, _, _, _, _, _, _, _, _, _, _, _, _, _, _, _, _, _, _, _, _, _, _, _, _, _, _, _, rfl, H.set (i := 2) (by decide) (by decide) (by decide) (by (simp; done)) (by (simp; done)) (by (simp; done)) (by (simp; done)) (by (simp; done)) (by (simp; done)) (by (simp; done)) (by (simp; done)) (by (simp; done)) (by (simp; done)) (by (simp; done)) (by (simp; done)) (by (simp; done)) (by (simp; done)) (by (simp; done)) (by (simp; done)) (by (simp; done)) (by (simp; done)) (by (simp; done))⟩
    ·obtain rfl := H.f1 (hW.out 1 (by kernel_rfl))
     obtain rfl := H.f2 (hW.out 2 (by kernel_rfl))
     refine wpOp_of rfl (fun K hK => ?_)
     go_simp
     refine hK _ _ ⟨_, _, _, _, _, _, _, _, _, _, _, _, _, _, _, _, _, _, _, _, _, _, _, _, _, _, _, _, _, _, _, _, _, rfl, H.set (i := 3) (by decide) (by decide) (by decide) (by (simp; done)) (by (simp; done)) (by (simp; done)) (by rw [if_pos rfl]) (by (simp; done)) (by (simp; done)) (by (simp; done)) (by (simp; done)) (by (simp; done)) (by (simp; done)) (by (simp; done)) (by (simp; done)) (by (simp; done)) (by (simp; done)) (by (simp; done)) (by (simp; done)) (by (simp; done)) (by (simp; done)) (by (simp; done))⟩
    ·obtain rfl := H.f3 (hW.out 3 (by kernel_rfl))
     refine wpOp_of rfl (fun K hK => ?_)
     go_simp
     refine hK _ _ ⟨_, _, _, _, _, _, _, _, _, _, _, _, _, _, _, _, _, _, _, _, _, _, _, _, _, _, _, _, _, _, _, _, _, rfl, H.set (i := 4) (by decide) (by decide) (by decide) (by (simp; done)) (by (simp; done)) (by (simp; done)) (by (simp; done)) (by rw [if_pos rfl]) (by (simp; done)) (by (simp; done)) (by (simp; done)) (by (simp; done)) (by (simp; done)) (by (simp; done)) (by (simp; done)) (by (simp; done)) (by (simp; done)) (by (simp; done)) (by (simp; done)) (by (simp; done)) (by (simp; done)) (by (simp; done))⟩
    ·obtain rfl := H.f4 (hW.out 4 (by kernel_rfl))
     have y0 : W.cell? ⟨pb, po + n * 7, none⟩ = some (.int .i64 s.proc) := H.p0
     have hltp : pb < W.heap.size := Nat.lt_of_lt_of_le H.lt H.bel.size
     refine wpOp_of rfl (fun K hK => ?_)
     go_simp
     refine hK _ _ ⟨_, _, _, _, _, _, _, _, _, _, _, _, _, _, _, _, _, _, _, _, _, _, _, _, _, _, _, _, _, _, _, _, _, rfl, H.set (i := 5) (by decide) (by decide) (by decide) (by (simp; done)) (by (simp; done)) (by (simp; done)) (by (simp; done)) (by (simp; done)) (by rw [if_pos rfl]) (by (simp; done)) (by (simp; done)) (by (simp; done)) (by (simp; done)) (by (simp; done)) (by (simp; done)) (by (simp; done)) (by (simp; done)) (by (simp; done)) (by (simp; done)) (by (simp; done)) (by (simp; done)) (by (simp; done))⟩
    ·refine wpOp_of rfl (fun K hK => ?_)
     go_simp
     refine hK _ _ ⟨_, _, _, _, _, _, _, _, _, _, _, _, _, _, _, _, _, _, _, _, _, _, _, _, _, _, _, _, _, _, _, _, _, rfl, H.set (i := 6) (by decide) (by decide) (by decide) (by (simp; done)) (by (simp; done)) (by (simp; done)) (by (simp; done)) (by (simp; done)) (by (simp; done)) (by (simp; done)) (by (simp; done)) (by (simp; done)) (by (simp; done)) (by (simp; done)) (by (simp; done)) (by (simp; done)) (by (simp; done)) (by (simp; done)) (by (simp; done)) (by (simp; done)) (by (simp; done)) (by (simp; done))⟩
    ·refine wpOp_of rfl (fun K hK => ?_)
     go_simp
     refine hK _ _ ⟨_, _, _, _, _, _, _, _, _, _, _, _, _, _, _, _, _, _, _, _, _, _, _, _, _, _, _, _, _, _, _, _, _, rfl, H.set (i := 7) (by decide) (by decide) (by decide) (by (simp; done)) (by (simp; done)) (by (simp; done)) (by (simp; done)) (by (simp; done)) (by (simp; done)) (by (simp; done)) (by (simp; done)) (by (simp; done)) (by (simp; done)) (by (simp; done)) (by (simp; done)) (by (simp; done)) (by (simp; done)) (by (simp; done)) (by (simp; done)) (by (simp; done)) (by (simp; done)) (by (simp; done))⟩
    ·obtain rfl := H.f6 (hW.out 6 (by kernel_rfl))
     obtain rfl := H.f7 (hW.out 7 (by kernel_rfl))
     refine wpOp_of rfl (fun K hK => ?_)
     go_simp
     refine hK _ _ ⟨_, _, _, _, _, _, _, _, _, _, _, _, _, _, _, _, _, _, _, _, _, _, _, _, _, _, _, _, _, _, _, _, _, rfl, H.set (i := 8) (by decide) (by decide) (by decide) (by (simp; done)) (by (simp; done)) (by (simp; done)) (by (simp; done)) (by (simp; done)) (by (simp; done)) (by (simp; done)) (by (simp; done)) (by rw [if_pos rfl]) (by (simp; done)) (by (simp; done)) (by (simp; done)) (by (simp; done)) (by (simp; done)) (by (simp; done)) (by (simp; done)) (by (simp; done)) (by (simp; done)) (by (simp; done))⟩
    ·obtain rfl := H.f8 (hW.out 8 (by kernel_rfl))
     refine wpOp_of rfl (fun K hK => ?_)
     go_simp
     refine hK _ _ ⟨_, _, _, _, _, _, _, _, _, _, _, _, _, _, _, _, _, _, _, _, _, _, _, _, _, _, _, _, _, _, _, _, _, rfl, H.set (i := 9) (by decide) (by decide) (by decide) (by (simp; done)) (by (simp; done)) (by (simp; done)) (by (simp; done)) (by (simp; done)) (by (simp; done)) (by (simp; done)) (by (simp; done)) (by (simp; done)) (by rw [if_pos rfl]) (by (simp; done)) (by (simp; done)) (by (simp; done)) (by (simp; done)) (by (simp; done)) (by (simp; done)) (by (simp; done)) (by (simp; done)) (by (simp; done))⟩
    ·obtain rfl := H.f9 (hW.out 9 (by kernel_rfl))
     have z1 : W.cell? ⟨pb, po + n * 7 + 1, none⟩ = some _ := H.p1
     have z2 : W.cell? ⟨pb, po + n * 7 + 1 + 1, none⟩ = some _ := H.p2
     have z3 : W.cell? ⟨pb, po + n * 7 + 1 + 2, none⟩ = some _ := H.p3
     have z4 : W.cell? ⟨pb, po + n * 7 + 1 + 3, none⟩ = some _ := H.p4
     have z5 : W.cell? ⟨pb, po + n * 7 + 1 + 4, none⟩ = some _ := H.p5
     have z6 : W.cell? ⟨pb, po + n * 7 + 1 + 5, none⟩ = some _ := H.p6
     have hltp : pb < W.heap.size := Nat.lt_of_lt_of_le H.lt H.bel.size
     refine wpOp_of rfl (fun K hK => ?_)
     go_simp
     refine hK _ _ ⟨_, _, _, _, _, _, _, _, _, _, _, _, _, _, _, _, _, _, _, _, _, _, _, _, _, _, _, _, _, _, _, _, _, rfl, H.set (i := 10) (by decide) (by decide) (by decide) (by (simp; done)) (by (simp; done)) (by (simp; done)) (by (simp; done)) (by (simp; done)) (by (simp; done)) (by (simp; done)) (by (simp; done)) (by (simp; done)) (by (simp; done)) (by rw [if_pos rfl]; rfl) (by (simp; done)) (by (simp; done)) (by (simp; done)) (by (simp; done)) (by (simp; done)) (by (simp; done)) (by (simp; done)) (by (simp; done))⟩
    ·obtain rfl := H.f0 (hW.out 0 (by kernel_rfl))
     obtain rfl := H.f5 (hW.out 5 (by kernel_rfl))
     obtain rfl := H.f10 (hW.out 10 (by kernel_rfl))
     unfold callV
     refine wpOp_of rfl (fun K hK => ?_)
     go_simp
     go_at_call 30
     refine (DC.out _ W H.r0).mono ?_
     rintro e W' ⟨c0, c1, c2, rfl, hm, hb⟩
     try go_simp
     refine hK _ _ ⟨_, _, _, _, _, _, _, _, _, _, _, _, _, _, _, _, _, _, _, _, _, _, _, _, _, _, _, _, _, _, _, _, _, rfl, (H.grow (hb)).set (i := 11) (by decide) (by decide) (by decide) (by (simp; done)) (by (simp; done)) (by (simp; done)) (by (simp; done)) (by (simp; done)) (by (simp; done)) (by (simp; done)) (by (simp; done)) (by (simp; done)) (by (simp; done)) (by ((rw [if_neg (by decide)]; rfl))) (by rw [if_pos rfl]; exact ⟨_, _, _, rfl, hm⟩) (by (simp; done)) (by (simp; done)) (by (simp; done)) (by (simp; done)) (by (simp; done)) (by (simp; done)) (by (simp; done))⟩
    ·obtain ⟨c0, c1, c2, e1, hm1⟩ := H.f11 (hW.out 11 (by kernel_rfl))
     rw [e1] at H ⊢
     refine wpOp_of rfl (fun K hK => ?_)
     go_simp
     refine hK _ _ ⟨_, _, _, _, _, _, _, _, _, _, _, _, _, _, _, _, _, _, _, _, _, _, _, _, _, _, _, _, _, _, _, _, _, rfl, H.set (i := 12) (by decide) (by decide) (by decide) (by (simp; done)) (by (simp; done)) (by (simp; done)) (by (simp; done)) (by (simp; done)) (by (simp; done)) (by (simp; done)) (by (simp; done)) (by (simp; done)) (by (simp; done)) (by (simp; done)) (by (simp; done)) (by rw [if_pos rfl]; exact ⟨_, _, _, rfl, hm1⟩) (by (simp; done)) (by (simp; done)) (by (simp; done)) (by (simp; done)) (by (simp; done)) (by (simp; done))⟩
    ·obtain ⟨c0, c1, c2, e1, hm1⟩ := H.f12 (hW.out 12 (by kernel_rfl))
     rw [e1] at H ⊢
     obtain ⟨_, _, _, e2, h0, h1, h2⟩ := hm1
     cases e2
     refine wpOp_of rfl (fun K hK => ?_)
     go_simp
     refine hK _ _ ⟨_, _, _, _, _, _, _, _, _, _, _, _, _, _, _, _, _, _, _, _, _, _, _, _, _, _, _, _, _, _, _, _, _, rfl, H.set (i := 13) (by decide) (by decide) (by decide) (by (simp; done)) (by (simp; done)) (by (simp; done)) (by (simp; done)) (by (simp; done)) (by (simp; done)) (by (simp; done)) (by (simp; done)) (by (simp; done)) (by (simp; done)) (by (simp; done)) (by (simp; done)) (by (simp; done)) (by rw [if_pos rfl]; exact h0) (by (simp; done)) (by (simp; done)) (by (simp; done)) (by (simp; done)) (by (simp; done))⟩
    ·obtain ⟨c0, c1, c2, e1, hm1⟩ := H.f12 (hW.out 12 (by kernel_rfl))
     rw [e1] at H ⊢
     refine wpOp_of rfl (fun K hK => ?_)
     go_simp
     refine hK _ _ ⟨_, _, _, _, _, _, _, _, _, _, _, _, _, _, _, _, _, _, _, _, _, _, _, _, _, _, _, _, _, _, _, _, _, rfl, H.set (i := 14) (by decide) (by decide) (by decide) (by (simp; done)) (by (simp; done)) (by (simp; done)) (by (simp; done)) (by (simp; done)) (by (simp; done)) (by (simp; done)) (by (simp; done)) (by (simp; done)) (by (simp; done)) (by (simp; done)) (by (simp; done)) (by (simp; done)) (by (simp; done)) (by rw [if_pos rfl]) (by (simp; done)) (by (simp; done)) (by (simp; done)) (by (simp; done))⟩
    ·obtain ⟨c0, c1, c2, e1, hm1⟩ := H.f12 (hW.out 12 (by kernel_rfl))
     rw [e1] at H ⊢
     obtain ⟨_, _, _, e2, h0, h1, h2⟩ := hm1
     cases e2
     refine wpOp_of rfl (fun K hK => ?_)
     go_simp
     refine hK _ _ ⟨_, _, _, _, _, _, _, _, _, _, _, _, _, _, _, _, _, _, _, _, _, _, _, _, _, _, _, _, _, _, _, _, _, rfl, H.set (i := 15) (by decide) (by decide) (by decide) (by (simp; done)) (by (simp; done)) (by (simp; done)) (by (simp; done)) (by (simp; done)) (by (simp; done)) (by (simp; done)) (by (simp; done)) (by (simp; done)) (by (simp; done)) (by (simp; done)) (by (simp; done)) (by (simp; done)) (by (simp; done)) (by (simp; done)) (by rw [if_pos rfl]; exact ⟨_, _, rfl, h1, h2⟩) (by (simp; done)) (by (simp; done)) (by (simp; done))⟩
    ·have k19 : L.getD 19 false = false := by cases h : L.getD 19 false with | false => rfl | true => exact absurd (H.c19 h) (by rw [hun]; decide)
     have hq1 := World.lt_of_get H.Q
     have hg1 := World.lt_of_get H.A.at_
     have hs1 := H.bel.size
     have hp1 := World.lt_of_get H.P
     refine wpOp_of rfl (fun K hK => ?_)
     go_simp
     refine hK _ _ ⟨_, _, _, _, _, _, _, _, _, _, _, _, _, _, _, _, _, _, _, _, _, _, _, _, _, _, _, _, _, _, _, _, _, rfl, (H.grow (Below.ofAlloc (Below.refl _ _) _)).set (i := 16) (by decide) (by decide) (by decide) (by (simp; done)) (by (simp; done)) (by (simp; done)) (by (simp; done)) (by (simp; done)) (by (simp; done)) (by (simp; done)) (by (simp; done)) (by (simp; done)) (by (simp; done)) (by (simp; done)) (by (simp; done)) (by (simp; done)) (by (simp; done)) (by (simp; done)) (by (simp; done)) (by rw [if_pos rfl]; exact ⟨_, rfl, by omega, by omega, by omega, .inl ⟨k19, heap_alloc_new _ _⟩⟩) (by (simp; done)) (by (simp; done))⟩
    ·have k20 : L.getD 20 false = false := by cases h : L.getD 20 false with | false => rfl | true => exact absurd (H.c20 h) (by rw [hun]; decide)
     have hq1 := World.lt_of_get H.Q
     have hg1 := World.lt_of_get H.A.at_
     have hs1 := H.bel.size
     have hp1 := World.lt_of_get H.P
     refine wpOp_of rfl (fun K hK => ?_)
     go_simp
     refine hK _ _ ⟨_, _, _, _, _, _, _, _, _, _, _, _, _, _, _, _, _, _, _, _, _, _, _, _, _, _, _, _, _, _, _, _, _, rfl, (H.grow (Below.ofAlloc (Below.refl _ _) _)).set (i := 17) (by decide) (by decide) (by decide) (by (simp; done)) (by (simp; done)) (by (simp; done)) (by (simp; done)) (by (simp; done)) (by (simp; done)) (by (simp; done)) (by (simp; done)) (by (simp; done)) (by (simp; done)) (by (simp; done)) (by (simp; done)) (by (simp; done)) (by (simp; done)) (by (simp; done)) (by (simp; done)) (by (simp; done)) (by rw [if_pos rfl]; exact ⟨_, rfl, by omega, by omega, by omega, .inl ⟨k20, heap_alloc_new _ _⟩⟩) (by (simp; done))⟩
    ·have h13 := H.f13 (hW.out 13 (by kernel_rfl))
     refine wpOp_of rfl (fun K hK => ?_)
     go_simp
     refine hK _ _ ⟨_, _, _, _, _, _, _, _, _, _, _, _, _, _, _, _, _, _, _, _, _, _, _, _, _, _, _, _, _, _, _, _, _, rfl, H.set (i := 18) (by decide) (by decide) (by decide) (by (simp; done)) (by (simp; done)) (by (simp; done)) (by (simp; done)) (by (simp; done)) (by (simp; done)) (by (simp; done)) (by (simp; done)) (by (simp; done)) (by (simp; done)) (by (simp; done)) (by (simp; done)) (by (simp; done)) (by (simp; done)) (by (simp; done)) (by (simp; done)) (by (simp; done)) (by (simp; done)) (by rw [if_pos rfl]; exact h13)⟩
    ·obtain ⟨b, rfl, rfl, hB, H'⟩ := H.st19 HSM.out.rn HSM.out.wn HSM2.out.rn HSM2.out.wn (hW.out 14 (by kernel_rfl)) (hW.out 16 (by kernel_rfl)) hun
     have e1 := World.setB_self hB
     have hz := World.lt_of_get hB
     unfold ansV
     refine wpOp_of rfl (fun K hK => ?_)
     rw [← e1]
     clear e1
     go_simp
     exact hK _ _ ⟨_, _, _, _, _, _, _, _, _, _, _, _, _, _, _, _, _, _, _, _, _, _, _, _, _, _, _, _, _, _, _, _, _, rfl, H'⟩
    ·obtain ⟨b, a0, c0, a1, c1, rfl, rfl, hB, H'⟩ := H.st20 (hW.out 15 (by kernel_rfl)) (hW.out 17 (by kernel_rfl)) hun
     have e1 := World.setB_self hB
     have hz := World.lt_of_get hB
     refine wpOp_of rfl (fun K hK => ?_)
     rw [← e1]
     clear e1
     go_simp
     exact hK _ _ ⟨_, _, _, _, _, _, _, _, _, _, _, _, _, _, _, _, _, _, _, _, _, _, _, _, _, _, _, _, _, _, _, _, _, rfl, H'⟩
   ·rintro L a W ⟨u18, u19, u20, u21, u22, u23, u40, u41, u42, u43, u44, u45, u46, u47, x25, x26, x27, x28, x29, x30, x31, x32, x33, x34, x35, x36, x24, x37, x38, x39, x11, x12, x10, rfl, H⟩ hr
    have hall := ready_none (ops := _) H.sz hr (backOnly_spec (by kernel_rfl))
    obtain ⟨b11, rfl, hb11, hq11, hg11, h11⟩ := H.f16 (hall 16 (by decide))
    obtain ⟨b12, rfl, hb12, hq12, hg12, h12⟩ := H.f17 (hall 17 (by decide))
    have k19 := hall 19 (by decide)
    have k20 := hall 20 (by decide)
    rcases h11 with h11 | ⟨_, h11⟩
    ·rw [k19] at h11; cases h11.1
    rcases h12 with h12 | ⟨_, c, d, h12, hc, hd⟩
    ·rw [k20] at h12; cases h12.1
    have h18 := H.f18 (hall 18 (by decide))
    obtain ⟨x0, xc, rfl⟩ := h18.form
    obtain ⟨c0, cc, rfl⟩ := hc.form
    obtain ⟨d0, dc, rfl⟩ := hd.form
    have hQ := H.Q
    have hA := H.A
    have hP := H.P
    have hbl0 := H.bel
    have hy := H.ry
    have hz := H.rz
    obtain ⟨y0, yc, rfl⟩ := hy.form
    obtain ⟨z0, zc, rfl⟩ := hz.form
    have b11l := World.lt_of_get h11
    have p0 : W.cell? ⟨b11, 0, none⟩ = some (.int .i64 an.code) := (World.cell?_of_get (i := 0) h11).trans rfl
    have p1 : W.cell? ⟨b11, 1, none⟩ = some (.int .i64 an.n) := (World.cell?_of_get (i := 1) h11).trans rfl
    have p2 : W.cell? ⟨b11, 2, none⟩ = some (.string an.text) := (World.cell?_of_get (i := 2) h11).trans rfl
    have HQ := Lib.hid hQ
    have HA := Lib.hid hA
    have HP := Lib.hid hP
    have HB := Lib.hid hbl0
    have HY := Lib.hid hy
    have HZ := Lib.hid hz
    have H12 := Lib.hid h12
    have HC := Lib.hid hc
    have HD := Lib.hid hd
    have H18 := Lib.hid h18
    have hsz0 := hbl0.size
    have hql := World.lt_of_get hQ
    clear hall k19 k20 h11 h12 hc hd hQ hA hP hbl0 hy hz H hr h18
    go_wp2_with (at_builtin; refine Stop.here ?_)
    refine wpList_ans rfl (.tmp 41) (.tmp 43) rfl (B := w4.heap.size) (g := g) (cap := cap2) (xs := out) (HA.out.below (Below.ofAlloc (Below.refl _ _) _)) rfl (y := an) (RdL.oneAt rAns _ an _ rfl _ _ rfl) rfl (by omega) (by simp; omega) ?_
    intro g' cap' w7 hA7 hK7
    have hu := hK7.grown
    have A1 : ∀ k, k < W.heap.size → k ≠ g → w7.heap[k]? = W.heap[k]? := fun k hk hne => (hu.block k (by simp; omega) (by simpa using hne)).trans (heap_alloc_old _ _ hk)
    have hgl := World.lt_of_get HA.out.at_
    have hgq : w4.heap.size + 1 ≠ g := Ne.symm (HA.out.ne HQ.out (by decide))
    have hgp : w.heap.size ≠ g := Ne.symm (HA.out.ne HP.out (by decide))
    have hQ7 := (A1 _ hql hgq).trans HQ.out
    have hP7 := (A1 _ (World.lt_of_get HP.out) hgp).trans HP.out
    have h127 := (A1 _ (World.lt_of_get H12.out) hg12).trans H12.out
    have hy7 := hK7.strs _ _ HSM.out.rn (HY.out.alloc _)
    have hz7 := hK7.strs _ _ HSM.out.wn (HZ.out.alloc _)
    have hc7 := hK7.strs _ _ HSM2.out.rn (HC.out.alloc _)
    have hd7 := hK7.strs _ _ HSM2.out.wn (HD.out.alloc _)
    have h187 := hK7.cells _ _ (H18.out.alloc _)
    have hB7 : Below w.heap.size w w7 := ⟨hu.os.trans HB.out.os, hu.tape.trans HB.out.tape, hu.output.trans HB.out.output, Nat.le_trans hsz0 (Nat.le_trans (by simp) hu.size), fun k hk => (A1 k (by omega) (by have := HA.out.base; omega)).trans (HB.out.block k hk)⟩
    have DJ := Lib.hid (spec_JoinTouch _ _ _ _ _ _ _ _ w7 hy7 hz7 hc7 hd7 (by have := HSM.out.rl; have := HSM2.out.rl; omega) (by have := HSM.out.wl; have := HSM2.out.wl; omega))
    have q0 : w7.cell? ⟨w4.heap.size + 1, 0, none⟩ = some (.slice y0 m.rd.length yc) := (World.cell?_of_get (i := 0) hQ7).trans rfl
    have q1 : w7.cell? ⟨w4.heap.size + 1, 1, none⟩ = some (.slice z0 m.wr.length zc) := (World.cell?_of_get (i := 1) hQ7).trans rfl
    have r0 : w7.cell? ⟨b12, 0, none⟩ = some (.slice c0 mm.rd.length cc) := (World.cell?_of_get (i := 0) h127).trans rfl
    have r1 : w7.cell? ⟨b12, 1, none⟩ = some (.slice d0 mm.wr.length dc) := (World.cell?_of_get (i := 1) h127).trans rfl
    have hq7 := World.lt_of_get hQ7
    have h12l := World.lt_of_get h127
    have HQ7 := Lib.hid hQ7
    have HP7 := Lib.hid hP7
    have H187 := Lib.hid h187
    have HA7 := Lib.hid hA7
    have HB7 := Lib.hid hB7
    clear hA7 hK7 hu A1 hQ7 hP7 h127 hy7 hz7 hc7 hd7 h187 hB7 hgq hgp p0 p1 p2
    ((try simp only []); repeat (first | go_skip | go_guarded | go_step | go_upon | go_back))
    (go_at_call 31; refine DJ.out.mono ?_; rintro e w8 ⟨j0, j1, rfl, hj0, hj1, hb8⟩)
    obtain ⟨e0, ec, rfl⟩ := hj0.form
    obtain ⟨f0', fc, rfl⟩ := hj1.form
    have hQ8 := (Grew.below hb8 _ (World.lt_of_get HQ7.out)).trans HQ7.out
    have hP8 := (Grew.below hb8 _ (World.lt_of_get HP7.out)).trans HP7.out
    have hA8 := HA7.out.below hb8
    have hg8 : g' ≠ w4.heap.size + 1 := hA8.ne hQ8 (by decide)
    have hs8 := hb8.size
    have hB8 := Below.then HB7.out hb8
    have HE : Hid (∀ o, RdL rCell (w8.setB (w4.heap.size + 1) o) (.slice x0 mm.cells.length xc) mm.cells ∧ AnsIn (w8.setB (w4.heap.size + 1) o) w4.heap.size g' cap' (out ++ [an]) ∧ RdL rStr (w8.setB (w4.heap.size + 1) o) (.slice e0 (joinS m.rd mm.rd).length ec) (joinS m.rd mm.rd) ∧ RdL rStr (w8.setB (w4.heap.size + 1) o) (.slice f0' (joinS m.wr mm.wr).length fc) (joinS m.wr mm.wr) ∧ (w8.setB (w4.heap.size + 1) o).heap[w.heap.size]? = some (.cells #[.slice none 0 0, .slice none 0 0] 50 (0, 0)) ∧ Below w.heap.size w (w8.setB (w4.heap.size + 1) o)) := fun o =>
     ⟨rdl_noS (str_cells _) (H187.out.below hb8) hQ8 (two_noS _ _ _ _ _ _) o, hA8.setB hg8 o, rdl_noS (str_strs _) hj0 hQ8 (two_noS _ _ _ _ _ _) o, rdl_noS (str_strs _) hj1 hQ8 (two_noS _ _ _ _ _ _) o, (World.setB_get _ _ _ _ (by omega)).trans hP8, below_setB hB8 (by omega) o⟩
    have hq8 := World.lt_of_get hQ8
    have e1 := World.setB_self hQ8
    rw [← e1]
    clear e1 hQ8 hP8 hA8 hB8 hb8 hj0 hj1 q0 q1 r0 r1
    ((try simp only []); repeat (first | go_skip | go_guarded | go_step | go_upon | go_back))
    go_roundw
    case rel => exact ⟨n + 1, ⟨mm.cells, joinS m.rd mm.rd, joinS m.wr mm.wr⟩, out ++ [an], g', cap', _, _, by go_num, by omega, by simp; omega, by rw [List.length_append, List.length_singleton], (HE.out _).1, (HE.out _).2.1, World.setB_at _ _ _ hq8, (HE.out _).2.2.1, (HE.out _).2.2.2.1, (HE.out _).2.2.2.2.1, (HE.out _).2.2.2.2.2, by rw [World.setB_size]; omega, HSR.out, HG2.out, HR2.out⟩
    case measure => simp [intOf]; omega
theorem spec_SerialRun (v vs : Value) (cs : List CellD) (l : List StepD) (w : World) (h : RdL rCell w v cs) (hs : RdL rStepM w vs l) (hf : ∀ s ∈ l, s.fine) (hl : cs.length ≤ 1048576) (hl2 : l.length ≤ 1048576) (hfit : FitAll l ⟨cs, [], []⟩) :
  Calls Tryz.prog 6 #[v, vs] w fun e w' => ∃ v0 v1, e = .returned (.tuple #[v0, v1]) ∧ RdL rCell w' v0 ((K.runAll l).run ⟨cs, [], []⟩).2.cells ∧ RdL rAns w' v1 ((K.runAll l).run ⟨cs, [], []⟩).1 ∧ Below w.heap.size w w' := by
 have D := Lib.hid (spec_l15Run v vs cs l w h hs hf hl hl2 hfit)
 obtain ⟨res, mres, hr⟩ : ∃ res mres, (K.runAll l).run ⟨cs, [], []⟩ = (res, mres) := ⟨_, _, rfl⟩
 rw [hr] at D ⊢
 dsimp only at D ⊢
 clear hr h hs hf hfit
 go_enter Tryz.func6, Tryz.ntmps6
 (repeat (first | go_skip | go_guarded | go_step | go_upon | go_back))
 (go_at_call 20; refine D.out.mono ?_; rintro e w1 ⟨v0, v1, v2, v3, rfl, h0, h1, h2, h3, hb⟩)
 obtain ⟨a0, c0, rfl⟩ := h0.form
 obtain ⟨a1, c1, rfl⟩ := h1.form
 obtain ⟨a2, c2, rfl⟩ := h2.form
 obtain ⟨a3, c3, rfl⟩ := h3.form
 have H0 := Lib.hid h0
 have H1 := Lib.hid h1
 have HB := Lib.hid hb
 clear h0 h1 h2 h3 hb D
 ((try simp only []); repeat (first | go_skip | go_guarded | go_step | go_upon | go_back))
 refine bodyPost_ret (by simp [results, Tryz.results6, go_sem]; rfl) rfl ?_
 exact ⟨_, _, rfl, H0.out.alloc _, H1.out.alloc _, HB.out.ofAlloc _⟩
open Mp
section
variable {α β : Type}
def Mp.Yields (p : Mp α) (S : α → Prop) : Prop := ∀ m, p.fits m → S (p.run m).1
theorem Mp.Yields.any (p : Mp α) : p.Yields (fun _ => True) := fun _ _ => trivial
theorem Mp.Yields.ret {a : α} {S : α → Prop} (h : S a) : (pure a : Mp α).Yields S := fun _ _ => h
theorem Mp.Yields.bind {x : Mp α} {f : α → Mp β} {S : α → Prop} {T : β → Prop} (h : x.Yields S) (k : ∀ a, S a → (f a).Yields T) : (x >>= f).Yields T := fun m hf => by
 obtain ⟨h1, h2⟩ := (fits_bind x f m).1 hf
 rw [run_bind]
 exact k _ (h m h1) _ h2
theorem Mp.Yields.ite {p : Prop} [Decidable p] {x y : Mp α} {S : α → Prop} (h1 : p → x.Yields S) (h2 : ¬ p → y.Yields S) : (if p then x else y).Yields S := by
 by_cases h : p
 ·rw [if_pos h]; exact h1 h
 ·rw [if_neg h]; exact h2 h
theorem Mp.Yields.mono {x : Mp α} {S T : α → Prop} (h : x.Yields S) (k : ∀ a, S a → T a) : x.Yields T := fun m hf => k _ (h m hf)
theorem Mp.Yields.fold {f : β → α → Mp β} {sz : β → Nat} {c : Nat} (h : ∀ b x, (f b x).Yields (fun b' => sz b' ≤ sz b + c)) : ∀ (l : List α) (b : β), (Mp.fold f b l).Yields (fun b' => sz b' ≤ sz b + c * l.length)
 | [], b => .ret (by simp)
 | x :: l, b => by
  show (f b x >>= fun b => Mp.fold f b l).Yields _
  refine (h b x).bind fun b' hb => (Mp.Yields.fold h l b').mono fun a ha => ?_
  rw [List.length_cons, Nat.mul_add]
  omega
end
theorem y_under (p : ByteArray) : (K.under p).Yields (fun ks => ks.length ≤ 549755813888 ∧ ∀ k ∈ ks, k.size ≤ 1048576) := fun m h => by
 have hs := fits_small h
 refine ⟨?_, ?_⟩
 ·show (keysUnder p m.cells).length ≤ _
  unfold keysUnder
  rw [List.length_map]
  exact Nat.le_trans (List.length_filter_le _ _) hs.cl
 ·intro k hk
  obtain ⟨c, hc, rfl⟩ := List.mem_map.1 (show k ∈ keysUnder p m.cells from hk)
  exact (hs.cz c (List.mem_filter.1 hc).1).1
theorem unhexT_le (v : ByteArray) : (unhexT v).size ≤ 20000 := by
 unfold unhexT
 split
 ·split
  ·rename_i h
   rw [strOf_size]
   exact h.1
  ·exact Nat.zero_le _
 ·exact Nat.zero_le _
theorem messageOf_le (v : ByteArray) : (K.messageOf v).size ≤ 20000 := by
 unfold K.messageOf
 split
 ·exact unhexT_le _
 ·exact Nat.zero_le _
theorem y_message (k : ByteArray) : (K.message k).Yields (fun t => t.size ≤ 20000) := (Mp.Yields.any _).bind fun a _ => .ret (messageOf_le a)
theorem y_block (id place : Int) : (K.block id place).Yields (fun t => t.size ≤ 20000) := (Mp.Yields.any _).bind fun a _ => .ret (unhexT_le a)
theorem extract_le (s : ByteArray) (a b : Nat) : (s.extract a b).size ≤ s.size := by
 rw [ByteArray.size_extract]
 omega
theorem y_readBlock (id : Int) (a b : Nat) (out : ByteArray) (place : Nat) : (K.readBlock id a b out place).Yields (fun t => t.size ≤ out.size + 20000) := (y_block id place).bind fun s hs => .ret (by
 split
 ·rw [ByteArray.size_append]
  have := extract_le s (a - place * 8) (min (b - place * 8) (min 8 s.size))
  omega
 ·omega)
theorem places_len (a b : Nat) : (K.places a b).length ≤ (b + 7) / 8 := by
 unfold K.places
 rw [List.length_range']
 omega
theorem y_num (k : ByteArray) : (K.num k).Yields (fun n => 0 ≤ n ∧ n ≤ 999) := (Mp.Yields.any _).bind fun a _ => .ret (numOf_in a)
theorem y_readFile (id a n : Int) : (K.readFile id a n).Yields (fun t => t.size ≤ 20000000) := by
 unfold K.readFile
 refine (y_num _).bind fun size hsz => .ite (fun _ => .ret (Nat.zero_le _)) fun hc => ?_
 refine (Mp.Yields.fold (sz := ByteArray.size) (c := 20000) (y_readBlock id a.toNat (a + min n (size - a)).toNat) _ ⟨#[]⟩).mono fun t ht => ?_
 have h1 := places_len a.toNat (a + min n (size - a)).toNat
 have h2 : (⟨#[]⟩ : ByteArray).size = 0 := rfl
 have h3 : (a + min n (size - a)).toNat ≤ 999 := by omega
 have h4 : ((a + min n (size - a)).toNat + 7) / 8 ≤ 125 := by omega
 have h5 := Nat.mul_le_mul_left 20000 (Nat.le_trans h1 h4)
 omega
theorem wordsOf_le (c : Nat) : ∀ (l : List ByteArray), (∀ x ∈ l, x.size ≤ c) → ∀ t : ByteArray, (l.foldl (fun t w => t ++ (w ++ K.space)) t).size ≤ t.size + (c + 1) * l.length
 | [], _, t => by simp
 | x :: l, h, t => by
  rw [List.foldl_cons]
  have h1 := wordsOf_le c l (fun y hy => h y (List.mem_cons_of_mem _ hy)) (t ++ (x ++ K.space))
  have h2 := h x List.mem_cons_self
  have h3 : K.space.size = 1 := rfl
  rw [ByteArray.size_append, ByteArray.size_append] at h1
  rw [List.length_cons, Nat.mul_add]
  omega
theorem words_small {c : Nat} {l : List ByteArray} (hc : c ≤ 1048576) (hl : l.length ≤ 549755813888) (h : ∀ x ∈ l, x.size ≤ c) : (K.wordsOf l).size ≤ 9223372036854775807 := by
 have h1 := wordsOf_le c l h ⟨#[]⟩
 have h2 : (⟨#[]⟩ : ByteArray).size = 0 := rfl
 have h3 := Nat.mul_le_mul (show c + 1 ≤ 1048577 by omega) hl
 unfold K.wordsOf
 omega
theorem y_doNames : K.doNames.Yields AnswerD.ok := by
 unfold K.doNames K.names
 refine Mp.Yields.bind (S := fun l => l.length ≤ 549755813888 ∧ ∀ k ∈ l, k.size ≤ 1048576) ((y_under _).bind fun ks hk => .ret ⟨by rw [List.length_map]; exact hk.1, ?_⟩) fun l hl => .ret (words_small (Nat.le_refl _) hl.1 hl.2)
 intro k hk2
 obtain ⟨x, hx, rfl⟩ := List.mem_map.1 hk2
 exact Nat.le_trans (extract_le _ _ _) (hk.2 x hx)
theorem y_kid (parent : Int) (out : List Int) (key : ByteArray) (h : ∀ n ∈ out, 0 ≤ n ∧ n ≤ 999) : (K.kid parent out key).Yields (fun l => (∀ n ∈ l, 0 ≤ n ∧ n ≤ 999) ∧ l.length ≤ out.length + 1) := by
 unfold K.kid
 refine .ite (fun _ => (Mp.Yields.any _).bind fun up _ => .ret ?_) fun _ => .ret ⟨h, by omega⟩
 split
 ·refine ⟨fun n hn => ?_, by simp⟩
  rcases List.mem_append.1 hn with hn | hn
  ·exact h n hn
  ·rw [List.mem_singleton.1 hn]
   exact numOf_in _
 ·exact ⟨h, by omega⟩
theorem y_foldKid (parent : Int) : ∀ (l : List ByteArray) (out : List Int), (∀ n ∈ out, 0 ≤ n ∧ n ≤ 999) → (Mp.fold (K.kid parent) out l).Yields (fun r => (∀ n ∈ r, 0 ≤ n ∧ n ≤ 999) ∧ r.length ≤ out.length + l.length)
 | [], out, h => .ret ⟨h, by simp⟩
 | k :: l, out, h => by
  show (K.kid parent out k >>= fun b => Mp.fold (K.kid parent) b l).Yields _
  refine (y_kid parent out k h).bind fun b hb => (y_foldKid parent l b hb.1).mono fun r hr => ⟨hr.1, ?_⟩
  have h1 := hr.2
  have h2 := hb.2
  rw [List.length_cons]
  omega
theorem y_doKids (p : Int) : (K.doKids p).Yields AnswerD.ok := by
 unfold K.doKids K.kids
 refine Mp.Yields.bind (S := fun l => l.length ≤ 549755813888 ∧ ∀ n ∈ l, (0 : Int) ≤ n ∧ n ≤ 999) ((y_under _).bind fun ks hk => (y_foldKid p ks [] (fun _ h => by cases h)).mono fun r hr => ⟨?_, hr.1⟩) fun l hl => .ret (words_small (c := 100) (by decide) (by rw [List.length_map]; exact hl.1) fun x hx => ?_)
 ·have h1 := hr.2
  have h2 := hk.1
  rw [List.length_nil] at h1
  omega
 ·obtain ⟨n, hn, rfl⟩ := List.mem_map.1 hx
  have := hl.2 n hn
  have h2 := Lib.itoa_length_le n (by omega) (by omega)
  rw [strOf_size]
  omega
theorem no_text (a b : Int) : AnswerD.ok ⟨a, b, ⟨#[]⟩⟩ := Nat.zero_le _
theorem y_code (x : Mp Int) : (K.code x).Yields AnswerD.ok := (Mp.Yields.any _).bind fun _ _ => .ret (no_text _ _)
theorem y_codeN (x : Mp (Int × Int)) : (K.codeN x).Yields AnswerD.ok := (Mp.Yields.any _).bind fun _ _ => .ret (no_text _ _)
theorem y_codeT {x : Mp (ByteArray × Int)} (h : x.Yields fun p => p.1.size ≤ 20000) : (K.codeT x).Yields AnswerD.ok := h.bind fun p hp => .ret (show p.1.size ≤ _ by omega)
theorem y_takePipe (id : Int) : (K.takePipe id).Yields fun p => p.1.size ≤ 20000 := by
 unfold K.takePipe
 exact (Mp.Yields.any _).bind fun _ _ => .ite (fun _ => .ret (Nat.zero_le _)) fun _ => (Mp.Yields.any _).bind fun _ _ => (Mp.Yields.any _).bind fun _ _ => .ite (fun _ => .ret (Nat.zero_le _)) fun _ => (y_message _).bind fun t ht => (Mp.Yields.any _).bind fun _ _ => (Mp.Yields.any _).bind fun _ _ => .ret ht
theorem y_loadPage (id page : Int) : (K.loadPage id page).Yields fun p => p.1.size ≤ 20000 := by
 unfold K.loadPage
 exact .ite (fun _ => (y_message _).bind fun t ht => .ret ht) fun _ => .ret (Nat.zero_le _)
theorem y_doFile (c : CallD) : (K.doFile c).Yields AnswerD.ok := by
 unfold K.doFile
 refine (Mp.Yields.any _).bind fun id _ => .ite (fun _ => .ret (no_text _ _)) fun _ => .ite (fun _ => (y_readFile _ _ _).bind fun t ht => .ret (show t.size ≤ _ by omega)) fun _ => .ite (fun _ => (Mp.Yields.any _).bind fun _ _ => .ret (no_text _ _)) fun _ => (Mp.Yields.any _).bind fun _ _ => .ret (no_text _ _)
theorem y_doCall (p : Int) (c : CallD) : (K.doCall p c).Yields AnswerD.ok := by
 unfold K.doCall
 refine (Mp.Yields.any _).bind fun s _ => .ite (fun _ => .ret (no_text _ _)) fun _ => .ite (fun _ => .ret (no_text _ _)) fun _ => ?_
 unfold K.doKind K.doSpawn K.doEnd
 repeat' (first | exact y_code _ | exact y_codeN _ | exact y_doNames | exact y_doKids _ | exact y_doFile _ | exact y_codeT (y_takePipe _) | exact y_codeT (y_loadPage _ _) | exact .ret (no_text _ _) | refine .ite (fun _ => ?_) fun _ => ?_ | refine (Mp.Yields.any _).bind fun _ _ => ?_)
theorem run_all : ∀ (l : List StepD) (out : List AnswerD) (m : MachD), FitAll l m → (∀ a ∈ out, a.ok) → (Mp.fold K.runSteps out l).fits m ∧ (∀ a ∈ ((Mp.fold K.runSteps out l).run m).1, a.ok) ∧ ((Mp.fold K.runSteps out l).run m).1.length = out.length + l.length
 | [], out, m, h, ho => ⟨h, ho, by show out.length = _; simp⟩
 | s :: l, out, m, h, ho => by
  obtain ⟨h1, _, h3⟩ := h
  have hy := y_doCall s.proc s.call m h1
  have hout : ∀ a ∈ out ++ [((K.doCall s.proc s.call).run m).1], a.ok := fun a ha => by
   rcases List.mem_append.1 ha with ha | ha
   ·exact ho a ha
   ·rw [List.mem_singleton.1 ha]; exact hy
  obtain ⟨k1, k2, k3⟩ := run_all l (out ++ [((K.doCall s.proc s.call).run m).1]) _ h3 hout
  have e : (K.runSteps out s).run m = (out ++ [((K.doCall s.proc s.call).run m).1], ((K.doCall s.proc s.call).run m).2) := by
   unfold K.runSteps
   rw [run_bind]
   rfl
  have f : (K.runSteps out s).fits m := by
   unfold K.runSteps
   rw [fits_bind]
   exact ⟨h1, fits_small (fits_small k1 |> fun h => (fits_pure () _).2 h)⟩
  show (K.runSteps out s >>= fun b => Mp.fold K.runSteps b l).fits m ∧ (∀ a ∈ ((K.runSteps out s >>= fun b => Mp.fold K.runSteps b l).run m).1, a.ok) ∧ ((K.runSteps out s >>= fun b => Mp.fold K.runSteps b l).run m).1.length = _
  rw [fits_bind, run_bind, e]
  refine ⟨⟨f, k1⟩, k2, ?_⟩
  rw [k3]
  simp
  omega
theorem run_whole {cs : List CellD} {l : List StepD} (hz : cs.length + l.length ≤ 1048576) (hc : ∀ c ∈ cs, c.key.size ≤ 1048576 ∧ c.val.size ≤ 1048576) (hl : ∀ s ∈ l, IntR s.proc ∧ IntR s.call.a) :
  FitAll l ⟨cs, [], []⟩ ∧ (K.runAll l).fits ⟨cs, [], []⟩ ∧ (∀ a ∈ ((K.runAll l).run ⟨cs, [], []⟩).1, a.ok) ∧ ((K.runAll l).run ⟨cs, [], []⟩).1.length = l.length ∧ (∀ c ∈ ((K.runAll l).run ⟨cs, [], []⟩).2.cells, c.ok) ∧ ((K.runAll l).run ⟨cs, [], []⟩).2.cells.length ≤ 549755813888 := by
 have h := run_fits hz hc hl
 obtain ⟨h1, h2, h3⟩ := run_all l [] _ h (fun _ h => by cases h)
 have hs := fits_end h1
 exact ⟨h, h1, h2, h3.trans (Nat.zero_add _), fun c hc => ⟨by have := (hs.cz c hc).1; omega, by have := (hs.cz c hc).2; omega⟩, hs.cl⟩
end Go.Proofs.YtieenbnmfaekiaaGreatDoor
