/- Laying a record over a store: the program's and the reference's. Each condition stands in its theorem. -/
import Derived.Test.YtmhopglbgaijiaaSput
import Derived.Test.YtmhopglbgaijiaaIput
set_option linter.unusedVariables false
set_option linter.unusedSimpArgs false
namespace Go.Proofs.Ytmhopglbgaijiaa
open Go.ChangeShapes Go.WideShapes Go.ChangeAt Go.RowKit

theorem _root_.Go.OwnL.heapEq {α : Type} {R : RowOf α} {e : TypeId} {w w' : World} {B : Nat} {v : Value} {xs : List α} (h : OwnL R e w B v xs) (he : w'.heap = w.heap) : OwnL R e w' B v xs := by
  unfold OwnL World.ownsRow at *
  rwa [he]
def applyC (zs ys : List CellD) : List CellD := ys.foldl (fun s c => putC c.key c.val s) zs
theorem applyC_snoc (zs ys : List CellD) (c : CellD) : applyC zs (ys ++ [c]) = putC c.key c.val (applyC zs ys) := by
  unfold applyC
  rw [List.foldl_append]
  rfl
theorem applyC_len (zs : List CellD) : ∀ ys : List CellD, (applyC zs ys).length ≤ zs.length + ys.length := by
  intro ys
  unfold applyC
  induction ys generalizing zs with
  | nil => exact Nat.le_refl _
  | cons c ys ih =>
    have h1 := ih (putC c.key c.val zs)
    have h2 := putC_len c.key c.val zs
    rw [List.foldl_cons, List.length_cons]
    omega
theorem applyC_ok (zs ys : List CellD) (ha : ∀ c ∈ zs, c.ok) (hy : ∀ c ∈ ys, c.ok) : ∀ c ∈ applyC zs ys, c.ok := by
  unfold applyC
  induction ys generalizing zs with
  | nil => exact ha
  | cons c ys ih => exact ih _ (putC_ok ha (hy c (by simp)).1 (hy c (by simp)).2) (fun d hd => hy d (by simp [hd]))
set_option maxRecDepth 100000 in
set_option maxHeartbeats 2000000 in
theorem spec_ApplyRecord (va vy : Value) (zs ys : List CellD) (w : World) (ha : RdL rCell w va zs) (hy : RdL rCell w vy ys) (hok : ∀ c ∈ ys, c.ok) (hl : zs.length ≤ 1048576) (hl2 : ys.length ≤ 1048576) :
    Calls Try.prog 27 #[va, vy] w fun e w' => ∃ v', e = .returned v' ∧ OwnL rCell 53 w' w.heap.size v' (applyC zs ys) ∧ Below w.heap.size w w' := by
  obtain ⟨ao, cap, rfl, hc1, hc2, hnil, hne⟩ := hy.shape
  have HX := Lib.hid hne
  have HA := Lib.hid ha
  have HOK := Lib.hid hok
  obtain ⟨aa, ca, rfl⟩ := ha.form
  clear hy hne hnil ha hok
  unfold maxLen at hc2
  go_enter Try.func27, Try.ntmps27
  go_wp2_with (at_builtin; refine Stop.here ?_)
  refine wpList_appL rfl _ _ _ rfl Try.elemCellS (B := w.heap.size) (v := .slice (some ⟨w.heap.size, 0, none⟩) 0 0) (xs := []) (R := rCell) (OwnL.empty rCell _ w) rfl (ys := zs) (HA.out.alloc _) rfl (by simp only [List.length_nil]; omega) (by simp only [List.length_nil]; unfold maxLen; omega) (by simp) ?_
  intro v4 w4 hown4 hgr4 _
  have hb4 : Below w.heap.size w w4 := Below.appL (R := rCell) (e := 53) (v := .slice (some ⟨w.heap.size, 0, none⟩) 0 0) (xs := []) (by repeat (first | with_reducible exact Below.refl _ _ | with_reducible apply Below.ofExt | with_reducible apply Below.ofAlloc | with_reducible apply Below.drew | with_reducible apply Below.ofDrewN | with_reducible assumption | (with_reducible refine Below.setCell ?_ (by first | exact Nat.le_refl _ | (simp [go_sem]; done) | (simp [go_sem]; omega)) _))) hgr4 (OwnL.empty rCell _ w)
  clear hgr4
  simp only [List.nil_append] at hown4
  obtain ⟨X4, rfl⟩ := hb4.ext
  clear hb4
  have HS4 := Lib.hid hown4
  clear hown4
  obtain ⟨oa4, oc4, e4⟩ := HS4.out.rd.form
  subst e4
  go_wp2
  go_loopw [0, 5] (fun o k wr => ∃ (n : Nat) (xs : List CellD), k = .int .i64 n ∧ n ≤ ys.length ∧ Below w.heap.size w wr ∧ OwnL rCell 53 wr w.heap.size o xs ∧ xs = applyC zs (ys.take n) ∧ xs.length ≤ zs.length + n) (fun _ k _ => ys.length - (intOf k).toNat)
  case atStart => exact ⟨0, zs, rfl, by omega, (by repeat (first | with_reducible exact Below.refl _ _ | with_reducible apply Below.ofExt | with_reducible apply Below.ofAlloc | with_reducible apply Below.drew | with_reducible apply Below.ofDrewN | with_reducible assumption | (with_reducible refine Below.setCell ?_ (by first | exact Nat.le_refl _ | (simp [go_sem]; done) | (simp [go_sem]; omega)) _))), HS4.out, rfl, by omega⟩
  case round =>
    obtain ⟨n, xs, rfl, hn, hbel, ho, hxs, hxl⟩ := hrel
    obtain ⟨X, rfl⟩ := hbel.ext
    obtain ⟨oa, oc, rfl⟩ := ho.rd.form
    have HO := Lib.hid ho
    have HLO : Hid (∀ x ∈ (Value.slice oa xs.length oc).ownBlock.toList, w.heap.size ≤ x) := fun x hx => (ho.lt x (by simpa using hx)).1
    clear ho
    by_cases hlt : (n : Int) < ys.length
    case pos =>
      have hk : n < ys.length := by omega
      obtain ⟨b, off, rfl, hbl, hcell⟩ := HX.out (by intro e; simp [e] at hk)
      have hc := hcell n hk
      have hst : ys.take (n + 1) = ys.take n ++ [ys[n]] := List.take_succ_eq_append_getElem hk
      have hck := HOK.out _ (List.getElem_mem hk)
      generalize ys[n] = d at hc hst hck
      have y0 : w.cell? ⟨b, off + n * 2, none⟩ = some (.string d.key) := hc 0 _ rfl
      have y1 : w.cell? ⟨b, off + n * 2 + 1, none⟩ = some (.string d.val) := hc 1 _ rfl
      clear hc hcell
      have hbl := hbl (by decide)
      have hbl2 : b < w.heap.size + X.bs.size := by omega
      have hbl3 : b < w.heap.size + X.bs.size + 1 := by omega
      have hbl4 : ¬ b = w.heap.size + X.bs.size := by omega
      have HS : Hid (applyC zs (ys.take (n + 1)) = putC d.key d.val xs) := by show _ = _; rw [hst, applyC_snoc, hxs]
      clear hst hxs
      go_wp2
      refine wp_region_ord [(0,true),(1,true),(2,true),(3,true),(4,true),(5,true),(6,true),(7,true),(8,true),(9,true),(10,true),(11,false),(12,true)] 13 (by kernel_rfl) (by kernel_rfl) ?_
      repeat (refine wpOrd_quiet rfl (fun K hK => ?_); go_simp; (try simp (disch := omega) only [IntWalk.i64_in]); refine hK _ ?_; clear hK K)
      refine wpOrd_grow rfl (fun K hK => ?_); go_simp; go_at_call 49; refine (spec_PutKey _ xs d.key d.val _ (OwnL.rd (e := 53) (B := w.heap.size) (by (try simp only [← Array.append_assoc]); (repeat (first | with_reducible exact HO.out | with_reducible exact OwnL.drC HO.out | with_reducible apply OwnL.merge2 | with_reducible apply OwnL.ext | with_reducible apply OwnL.alloc)); all_goals exact (0 : Nat))) (by omega) hck.1).mono ?_; rintro e w' ⟨v', rfl, ho', hb'⟩; obtain ⟨Y, rfl⟩ := hb'.ext; have HP := Lib.hid (ho'.base (B' := w.heap.size) (by simp [World.ext_size])); clear ho' hb'; try go_simp; refine hK _ _ (by show Sx _ _; (try simp only [← Array.append_assoc]); repeat (first | with_reducible exact Sx.drew _ | with_reducible exact Sx.same _ _ _ _ | with_reducible exact ⟨_, rfl⟩ | with_reducible apply Sx.more | with_reducible apply Sx.ext | with_reducible apply Sx.alloc | with_reducible apply Sx.draw | with_reducible exact Sx.refl _)) ?_; clear hK K
      repeat (refine wpOrd_quiet rfl (fun K hK => ?_); go_simp; (try simp (disch := omega) only [IntWalk.i64_in]); refine hK _ ?_; clear hK K)
      refine wpOrd_nil ?_
      go_wp2
      go_roundw
      case rel => exact ⟨n + 1, _, by go_num, by omega, (by repeat (first | with_reducible exact Below.refl _ _ | with_reducible apply Below.ofExt | with_reducible apply Below.ofAlloc | with_reducible apply Below.drew | with_reducible apply Below.ofDrewN | with_reducible assumption | (with_reducible refine Below.setCell ?_ (by first | exact Nat.le_refl _ | (simp [go_sem]; done) | (simp [go_sem]; omega)) _))), OwnL.heapEq HP.out (by simp [World.ext, World.drew, Array.append_assoc]), HS.out.symm, Nat.le_trans (putC_len _ _ _) (by omega)⟩
      case measure => simp [intOf]; omega
    case neg =>
      have e : n = ys.length := by omega
      have HF : Hid (applyC zs ys = xs) := by show _ = _; rw [hxs, e, List.take_length]
      clear hxs
      go_wp2
      go_ret
      exact ⟨_, rfl, by rw [HF.out]; exact HO.out, (by repeat (first | with_reducible exact Below.refl _ _ | with_reducible apply Below.ofExt | with_reducible apply Below.ofAlloc | with_reducible apply Below.drew | with_reducible apply Below.ofDrewN | with_reducible assumption | (with_reducible refine Below.setCell ?_ (by first | exact Nat.le_refl _ | (simp [go_sem]; done) | (simp [go_sem]; omega)) _)))⟩
set_option maxRecDepth 100000 in
set_option maxHeartbeats 2000000 in
theorem impl_ApplyRecord (va vy : Value) (zs ys : List CellD) (w : World) (ha : RdL rCell w va zs) (hy : RdL rCell w vy ys) (hok : ∀ c ∈ ys, c.ok) (hl : zs.length ≤ 1048576) (hl2 : ys.length ≤ 1048576) :
    Calls Try.prog 26 #[va, vy] w fun e w' => ∃ v', e = .returned v' ∧ OwnL rCell 53 w' w.heap.size v' (applyC zs ys) ∧ Below w.heap.size w w' := by
  obtain ⟨ao, cap, rfl, hc1, hc2, hnil, hne⟩ := hy.shape
  have HX := Lib.hid hne
  have HA := Lib.hid ha
  have HOK := Lib.hid hok
  obtain ⟨aa, ca, rfl⟩ := ha.form
  clear hy hne hnil ha hok
  unfold maxLen at hc2
  go_enter Try.func26, Try.ntmps26
  go_wp2_with fail
  (go_at_call 47; refine (impl_CloneCells _ zs _ HA.out (by omega)).mono ?_; rintro e w' ⟨v4, rfl, hown4, hb4⟩; obtain ⟨X4, rfl⟩ := hb4.ext; clear hb4; have HS4 := Lib.hid hown4; clear hown4)
  obtain ⟨oa4, oc4, e4⟩ := HS4.out.rd.form
  subst e4
  go_wp2
  go_loopw [5, 12] (fun o k wr => ∃ (n : Nat) (xs : List CellD), k = .int .i64 n ∧ n ≤ ys.length ∧ Below w.heap.size w wr ∧ OwnL rCell 53 wr w.heap.size o xs ∧ xs = applyC zs (ys.take n) ∧ xs.length ≤ zs.length + n) (fun _ k _ => ys.length - (intOf k).toNat)
  case atStart => exact ⟨0, zs, rfl, by omega, (by repeat (first | with_reducible exact Below.refl _ _ | with_reducible apply Below.ofExt | with_reducible apply Below.ofAlloc | with_reducible apply Below.drew | with_reducible apply Below.ofDrewN | with_reducible assumption | (with_reducible refine Below.setCell ?_ (by first | exact Nat.le_refl _ | (simp [go_sem]; done) | (simp [go_sem]; omega)) _))), HS4.out, rfl, by omega⟩
  case round =>
    obtain ⟨n, xs, rfl, hn, hbel, ho, hxs, hxl⟩ := hrel
    obtain ⟨X, rfl⟩ := hbel.ext
    obtain ⟨oa, oc, rfl⟩ := ho.rd.form
    have HO := Lib.hid ho
    have HLO : Hid (∀ x ∈ (Value.slice oa xs.length oc).ownBlock.toList, w.heap.size ≤ x) := fun x hx => (ho.lt x (by simpa using hx)).1
    clear ho
    by_cases hlt : (n : Int) < ys.length
    case pos =>
      have hk : n < ys.length := by omega
      obtain ⟨b, off, rfl, hbl, hcell⟩ := HX.out (by intro e; simp [e] at hk)
      have hc := hcell n hk
      have hst : ys.take (n + 1) = ys.take n ++ [ys[n]] := List.take_succ_eq_append_getElem hk
      have hck := HOK.out _ (List.getElem_mem hk)
      generalize ys[n] = d at hc hst hck
      have y0 : w.cell? ⟨b, off + n * 2, none⟩ = some (.string d.key) := hc 0 _ rfl
      have y1 : w.cell? ⟨b, off + n * 2 + 1, none⟩ = some (.string d.val) := hc 1 _ rfl
      clear hc hcell
      have hbl := hbl (by decide)
      have hbl2 : b < w.heap.size + X.bs.size := by omega
      have hbl3 : b < w.heap.size + X.bs.size + 1 := by omega
      have hbl4 : ¬ b = w.heap.size + X.bs.size := by omega
      have HS : Hid (applyC zs (ys.take (n + 1)) = putC d.key d.val xs) := by show _ = _; rw [hst, applyC_snoc, hxs]
      clear hst hxs
      go_wp2_with fail
      (go_at_call 48; refine (impl_put _ xs d.key d.val w.heap.size _ (by (try simp only [← Array.append_assoc]); (repeat (first | with_reducible exact HO.out | with_reducible exact OwnL.drC HO.out | with_reducible apply OwnL.merge2 | with_reducible apply OwnL.ext | with_reducible apply OwnL.alloc)); all_goals exact (0 : Nat)) hck.1 (by omega) (by simp [World.ext_size]; try omega)).mono ?_; rintro e w' ⟨v', rfl, ho', hu'⟩; have hb' := Below.trans (show Below w.heap.size w _ from (by repeat (first | with_reducible exact Below.refl _ _ | with_reducible apply Below.ofExt | with_reducible apply Below.ofAlloc | with_reducible apply Below.drew | with_reducible apply Below.ofDrewN | with_reducible assumption | (with_reducible refine Below.setCell ?_ (by first | exact Nat.le_refl _ | (simp [go_sem]; done) | (simp [go_sem]; omega)) _)))) (hu'.toBelow (by simp [World.ext_size]; try omega) HLO.out); have HP := Lib.hid ho'; clear ho' hu')
      go_wp2
      go_roundw
      case rel => exact ⟨n + 1, _, by go_num, by omega, hb', HP.out, HS.out.symm, Nat.le_trans (putC_len _ _ _) (by omega)⟩
      case measure => simp [intOf]; omega
    case neg =>
      have e : n = ys.length := by omega
      have HF : Hid (applyC zs ys = xs) := by show _ = _; rw [hxs, e, List.take_length]
      clear hxs
      go_wp2
      go_ret
      exact ⟨_, rfl, by rw [HF.out]; exact HO.out, (by repeat (first | with_reducible exact Below.refl _ _ | with_reducible apply Below.ofExt | with_reducible apply Below.ofAlloc | with_reducible apply Below.drew | with_reducible apply Below.ofDrewN | with_reducible assumption | (with_reducible refine Below.setCell ?_ (by first | exact Nat.le_refl _ | (simp [go_sem]; done) | (simp [go_sem]; omega)) _)))⟩
end Go.Proofs.Ytmhopglbgaijiaa
