/- Laying what was written over a store: the program's and the reference's. Each condition stands in its theorem. -/
import Derived.Test.YtdgnnphghfppbaaApply
import Derived.Test.YtdgnnphghfppbaaGet
import Derived.Test.YtdgnnphghfppbaaCTouch
set_option linter.unusedVariables false
set_option linter.unusedSimpArgs false
namespace Go.Proofs.Ytdgnnphghfppbaa
open Go.ChangeShapes Go.WideShapes Go.ChangeAt Go.RowKit

theorem RdL.mergeC {α : Type} {R : RowOf α} {w : World} {v : Value} {xs : List α} {bs cs : Array Obj} {d0 dr : Nat} (h : RdL R (w.ext ⟨bs, d0⟩) v xs) : RdL R (w.ext ⟨bs ++ cs, dr⟩) v xs := by
  have := h.ext ⟨cs, dr⟩
  rwa [World.ext_ext] at this
theorem emptyAt (W : World) (n : Nat) (hn : n = W.heap.size) : OwnL rCell 50 (W.alloc (.cells #[] 50)) W.heap.size (.slice (some ⟨n, 0, none⟩) 0 0) [] := by
  subst hn
  exact OwnL.empty rCell _ W
def laidC (zs af : List CellD) (ks : List ByteArray) : List CellD := ks.foldl (fun s k => putC k (getC k af) s) zs
theorem laidC_snoc (zs af : List CellD) (ks : List ByteArray) (k : ByteArray) : laidC zs af (ks ++ [k]) = putC k (getC k af) (laidC zs af ks) := by
  unfold laidC
  rw [List.foldl_append]
  rfl
theorem laidC_len (af zs : List CellD) : ∀ ks : List ByteArray, (laidC zs af ks).length ≤ zs.length + ks.length := by
  intro ks
  unfold laidC
  induction ks generalizing zs with
  | nil => exact Nat.le_refl _
  | cons c ks ih =>
    have h1 := ih (putC c (getC c af) zs)
    have h2 := putC_len c (getC c af) zs
    rw [List.foldl_cons, List.length_cons]
    omega
theorem laidC_ok (af zs : List CellD) (ks : List ByteArray) (ha : ∀ c ∈ zs, c.ok) (hf : ∀ c ∈ af, c.ok) (hk : ∀ s ∈ ks, s.size ≤ 9223372036854775807) : ∀ c ∈ laidC zs af ks, c.ok := by
  unfold laidC
  induction ks generalizing zs with
  | nil => exact ha
  | cons c ks ih => exact ih _ (putC_ok ha (hk c (by simp)) (getC_ok c af hf)) (fun d hd => hk d (by simp [hd]))
set_option maxRecDepth 100000 in
set_option maxHeartbeats 2000000 in
theorem spec_LaidOver (va vb : Value) (zs af : List CellD) (ct : List Value) (t : TouchD) (w : World) (ha : RdL rCell w va zs) (hb : RdL rCell w vb af) (ht : vTouch.rd w ct t) (hl : zs.length ≤ 1048576) (hl2 : t.writes.length ≤ 1048576) :
    Calls Try.prog 16 #[va, vb, .agg ct.toArray] w fun e w' => ∃ v', e = .returned v' ∧ OwnL rCell 50 w' w.heap.size v' (laidC zs af t.writes) ∧ Below w.heap.size w w' := by
  obtain ⟨ts0, ts1, rfl, th0, th1⟩ := ht
  obtain ⟨ta0, tc0, rfl⟩ := vSlice.form th0
  obtain ⟨ta1, tc1, rfl, hc1, hc2, hnil, hne, hok⟩ := vStr_shape th1
  have HX := Lib.hid hne
  have HOK := Lib.hid hok
  have HA := Lib.hid ha
  have HB := Lib.hid hb
  obtain ⟨aa, ca, rfl⟩ := ha.form
  obtain ⟨ab, cb, rfl⟩ := hb.form
  clear th0 th1 hne hnil ha hb hok
  unfold maxLen at hc2
  go_enter Try.func16, Try.ntmps16
  go_wp2_with (at_builtin; refine Stop.here ?_)
  refine wpList_appL rfl _ _ _ rfl Try.elemCellS (B := (w.alloc (.cells #[.slice ta0 t.reads.length tc0, .slice ta1 t.writes.length tc1] 35)).heap.size) (v := .slice (some ⟨w.heap.size + 1, 0, none⟩) 0 0) (xs := []) (R := rCell) (emptyAt (w.alloc (.cells #[.slice ta0 t.reads.length tc0, .slice ta1 t.writes.length tc1] 35)) _ (by simp)) rfl (ys := zs) ((HA.out.alloc _).alloc _) rfl (by simp only [List.length_nil]; omega) (by simp only [List.length_nil]; unfold maxLen; omega) (by simp) ?_
  intro v4 w4 hown4 hgr4 _
  have hb4 : Below (w.alloc (.cells #[.slice ta0 t.reads.length tc0, .slice ta1 t.writes.length tc1] 35)).heap.size (w.alloc (.cells #[.slice ta0 t.reads.length tc0, .slice ta1 t.writes.length tc1] 35)) w4 := Below.appL (R := rCell) (e := 50) (v := .slice (some ⟨w.heap.size + 1, 0, none⟩) 0 0) (xs := []) (by repeat (first | with_reducible exact Below.refl _ _ | with_reducible apply Below.ofExt | with_reducible apply Below.ofAlloc | with_reducible apply Below.drew | with_reducible apply Below.ofDrewN | with_reducible assumption | (with_reducible refine Below.setCell ?_ (by first | exact Nat.le_refl _ | (simp [go_sem]; done) | (simp [go_sem]; omega)) _))) hgr4 (emptyAt (w.alloc (.cells #[.slice ta0 t.reads.length tc0, .slice ta1 t.writes.length tc1] 35)) _ (by simp))
  clear hgr4
  simp only [List.nil_append] at hown4
  obtain ⟨X4, rfl⟩ := hb4.ext
  clear hb4
  have HS4 := Lib.hid hown4
  clear hown4
  obtain ⟨oa4, oc4, e4⟩ := HS4.out.rd.form
  subst e4
  go_wp2
  go_loopw [7, 8] (fun o k wr => ∃ (n : Nat) (xs : List CellD), k = .int .i64 n ∧ n ≤ t.writes.length ∧ Below (w.alloc (.cells #[.slice ta0 t.reads.length tc0, .slice ta1 t.writes.length tc1] 35)).heap.size (w.alloc (.cells #[.slice ta0 t.reads.length tc0, .slice ta1 t.writes.length tc1] 35)) wr ∧ OwnL rCell 50 wr (w.alloc (.cells #[.slice ta0 t.reads.length tc0, .slice ta1 t.writes.length tc1] 35)).heap.size o xs ∧ xs = laidC zs af (t.writes.take n) ∧ xs.length ≤ zs.length + n) (fun _ k _ => t.writes.length - (intOf k).toNat)
  case atStart => exact ⟨0, zs, rfl, by omega, (by repeat (first | with_reducible exact Below.refl _ _ | with_reducible apply Below.ofExt | with_reducible apply Below.ofAlloc | with_reducible apply Below.drew | with_reducible apply Below.ofDrewN | with_reducible assumption | (with_reducible refine Below.setCell ?_ (by first | exact Nat.le_refl _ | (simp [go_sem]; done) | (simp [go_sem]; omega)) _))), HS4.out, rfl, by omega⟩
  case round =>
    obtain ⟨n, xs, rfl, hn, hbel, ho, hxs, hxl⟩ := hrel
    obtain ⟨X, rfl⟩ := hbel.ext
    obtain ⟨oa, oc, rfl⟩ := ho.rd.form
    have HO := Lib.hid ho
    have HLO : Hid (∀ x ∈ (Value.slice oa xs.length oc).ownBlock.toList, (w.alloc (.cells #[.slice ta0 t.reads.length tc0, .slice ta1 t.writes.length tc1] 35)).heap.size ≤ x) := fun x hx => (ho.lt x (by simpa using hx)).1
    clear ho
    by_cases hlt : (n : Int) < t.writes.length
    case pos =>
      have hk : n < t.writes.length := by omega
      obtain ⟨b, off, rfl, hbl, hcell⟩ := HX.out (by intro e; simp [e] at hk)
      have hst : t.writes.take (n + 1) = t.writes.take n ++ [t.writes[n]] := List.take_succ_eq_append_getElem hk
      have hck := HOK.out _ (List.getElem_mem hk)
      have y0 := hcell n hk
      generalize t.writes[n] = s at y0 hst hck
      clear hcell
      have hbl0 : b < w.heap.size + 1 := by omega
      have hbl1 : ¬ b = w.heap.size := by omega
      have HS : Hid (laidC zs af (t.writes.take (n + 1)) = putC s (getC s af) xs) := by show _ = _; rw [hst, laidC_snoc, hxs]
      clear hst hxs
      go_wp2
      refine wp_region_ord [(0,true),(1,true),(2,true),(3,true),(4,true),(5,true),(6,true),(7,true),(8,true),(9,true),(10,true),(11,true),(12,false),(13,false),(14,true)] 15 (by kernel_rfl) (by kernel_rfl) ?_
      repeat (refine wpOrd_quiet rfl (fun K hK => ?_); go_simp; (try simp (disch := omega) only [IntWalk.i64_in]); refine hK _ ?_; clear hK K)
      refine wpOrd_grow rfl (fun K hK => ?_); go_simp; go_at_call 37; refine (spec_GetKey _ af s _ (by (try simp only [← Array.append_assoc]); (repeat (first | with_reducible exact HB.out | with_reducible apply RdL.mergeC | with_reducible apply RdL.ext | with_reducible apply RdL.alloc)); all_goals exact (0 : Nat))).mono ?_; rintro e w' ⟨rfl, hb⟩; obtain ⟨X, rfl⟩ := hb.ext; clear hb; try go_simp; refine hK _ _ (by show Sx _ _; (try simp only [← Array.append_assoc]); repeat (first | with_reducible exact Sx.drew _ | with_reducible exact Sx.same _ _ _ _ | with_reducible exact ⟨_, rfl⟩ | with_reducible apply Sx.more | with_reducible apply Sx.ext | with_reducible apply Sx.alloc | with_reducible apply Sx.draw)) ?_; clear hK K
      refine wpOrd_grow rfl (fun K hK => ?_); go_simp; go_at_call 31; refine (spec_PutKey _ xs s (getC s af) _ (OwnL.rd (e := 50) (B := (w.alloc (.cells #[.slice ta0 t.reads.length tc0, .slice (some ⟨b, off, none⟩) t.writes.length tc1] 35)).heap.size) (by (try simp only [← Array.append_assoc]); (repeat (first | with_reducible exact HO.out | with_reducible exact OwnL.drC HO.out | with_reducible apply OwnL.merge2 | with_reducible apply OwnL.ext | with_reducible apply OwnL.alloc)); all_goals exact (0 : Nat))) (by omega) hck).mono ?_; rintro e w' ⟨v', rfl, ho', hb'⟩; obtain ⟨Y, rfl⟩ := hb'.ext; have HP := Lib.hid (ho'.base (B' := (w.alloc (.cells #[.slice ta0 t.reads.length tc0, .slice (some ⟨b, off, none⟩) t.writes.length tc1] 35)).heap.size) (by simp [World.ext_size])); clear ho' hb'; try go_simp; refine hK _ _ (by show Sx _ _; (try simp only [← Array.append_assoc]); repeat (first | with_reducible exact Sx.drew _ | with_reducible exact Sx.same _ _ _ _ | with_reducible exact ⟨_, rfl⟩ | with_reducible apply Sx.more | with_reducible apply Sx.ext | with_reducible apply Sx.alloc | with_reducible apply Sx.draw)) ?_; clear hK K
      repeat (refine wpOrd_quiet rfl (fun K hK => ?_); go_simp; (try simp (disch := omega) only [IntWalk.i64_in]); refine hK _ ?_; clear hK K)
      refine wpOrd_nil ?_
      go_wp2
      go_roundw
      case rel => exact ⟨n + 1, _, by go_num, by omega, (by repeat (first | with_reducible exact Below.refl _ _ | with_reducible apply Below.ofExt | with_reducible apply Below.ofAlloc | with_reducible apply Below.drew | with_reducible apply Below.ofDrewN | with_reducible assumption | (with_reducible refine Below.setCell ?_ (by first | exact Nat.le_refl _ | (simp [go_sem]; done) | (simp [go_sem]; omega)) _))), OwnL.heapEq HP.out (by simp only [World.ext, World.drew, World.alloc, Array.append_assoc]), HS.out.symm, Nat.le_trans (putC_len _ _ _) (by omega)⟩
      case measure => simp [intOf]; omega
    case neg =>
      have e : n = t.writes.length := by omega
      have HF : Hid (laidC zs af t.writes = xs) := by show _ = _; rw [hxs, e, List.take_length]
      clear hxs
      go_wp2
      go_ret
      exact ⟨_, rfl, by rw [HF.out]; exact HO.out.base (by simp), (by repeat (first | with_reducible exact Below.refl _ _ | with_reducible apply Below.ofExt | with_reducible apply Below.ofAlloc | with_reducible apply Below.drew | with_reducible apply Below.ofDrewN | with_reducible assumption | (with_reducible refine Below.setCell ?_ (by first | exact Nat.le_refl _ | (simp [go_sem]; done) | (simp [go_sem]; omega)) _)))⟩
set_option maxRecDepth 100000 in
set_option maxHeartbeats 2000000 in
theorem impl_LaidOver (va vb : Value) (zs af : List CellD) (ct : List Value) (t : TouchD) (w : World) (ha : RdL rCell w va zs) (hb : RdL rCell w vb af) (ht : vTouch.rd w ct t) (hl : zs.length ≤ 1048576) (hl2 : t.writes.length ≤ 1048576) :
    Calls Try.prog 18 #[va, vb, .agg ct.toArray] w fun e w' => ∃ v', e = .returned v' ∧ OwnL rCell 50 w' w.heap.size v' (laidC zs af t.writes) ∧ Below w.heap.size w w' := by
  obtain ⟨ts0, ts1, rfl, th0, th1⟩ := ht
  obtain ⟨ta0, tc0, rfl⟩ := vSlice.form th0
  obtain ⟨ta1, tc1, rfl, hc1, hc2, hnil, hne, hok⟩ := vStr_shape th1
  have HX := Lib.hid hne
  have HOK := Lib.hid hok
  have HA := Lib.hid ha
  have HB := Lib.hid hb
  obtain ⟨aa, ca, rfl⟩ := ha.form
  obtain ⟨ab, cb, rfl⟩ := hb.form
  clear th0 th1 hne hnil ha hb hok
  unfold maxLen at hc2
  go_enter Try.func18, Try.ntmps18
  go_wp2_with fail
  (go_at_call 33; refine (impl_CloneCells _ zs _ (HA.out.alloc _) (by omega)).mono ?_; rintro e w' ⟨v4, rfl, hown4, hb4⟩; obtain ⟨X4, rfl⟩ := hb4.ext; clear hb4; have HS4 := Lib.hid hown4; clear hown4)
  obtain ⟨oa4, oc4, e4⟩ := HS4.out.rd.form
  subst e4
  go_wp2
  go_loopw [7, 15] (fun o k wr => ∃ (n : Nat) (xs : List CellD), k = .int .i64 n ∧ n ≤ t.writes.length ∧ Below (w.alloc (.cells #[.slice ta0 t.reads.length tc0, .slice ta1 t.writes.length tc1] 35)).heap.size (w.alloc (.cells #[.slice ta0 t.reads.length tc0, .slice ta1 t.writes.length tc1] 35)) wr ∧ OwnL rCell 50 wr (w.alloc (.cells #[.slice ta0 t.reads.length tc0, .slice ta1 t.writes.length tc1] 35)).heap.size o xs ∧ xs = laidC zs af (t.writes.take n) ∧ xs.length ≤ zs.length + n) (fun _ k _ => t.writes.length - (intOf k).toNat)
  case atStart => exact ⟨0, zs, rfl, by omega, (by repeat (first | with_reducible exact Below.refl _ _ | with_reducible apply Below.ofExt | with_reducible apply Below.ofAlloc | with_reducible apply Below.drew | with_reducible apply Below.ofDrewN | with_reducible assumption | (with_reducible refine Below.setCell ?_ (by first | exact Nat.le_refl _ | (simp [go_sem]; done) | (simp [go_sem]; omega)) _))), HS4.out, rfl, by omega⟩
  case round =>
    obtain ⟨n, xs, rfl, hn, hbel, ho, hxs, hxl⟩ := hrel
    obtain ⟨X, rfl⟩ := hbel.ext
    obtain ⟨oa, oc, rfl⟩ := ho.rd.form
    have HO := Lib.hid ho
    have HLO : Hid (∀ x ∈ (Value.slice oa xs.length oc).ownBlock.toList, (w.alloc (.cells #[.slice ta0 t.reads.length tc0, .slice ta1 t.writes.length tc1] 35)).heap.size ≤ x) := fun x hx => (ho.lt x (by simpa using hx)).1
    clear ho
    by_cases hlt : (n : Int) < t.writes.length
    case pos =>
      have hk : n < t.writes.length := by omega
      obtain ⟨b, off, rfl, hbl, hcell⟩ := HX.out (by intro e; simp [e] at hk)
      have hst : t.writes.take (n + 1) = t.writes.take n ++ [t.writes[n]] := List.take_succ_eq_append_getElem hk
      have hck := HOK.out _ (List.getElem_mem hk)
      have y0 := hcell n hk
      generalize t.writes[n] = s at y0 hst hck
      clear hcell
      have hbl0 : b < w.heap.size + 1 := by omega
      have hbl1 : ¬ b = w.heap.size := by omega
      have HS : Hid (laidC zs af (t.writes.take (n + 1)) = putC s (getC s af) xs) := by show _ = _; rw [hst, laidC_snoc, hxs]
      clear hst hxs
      go_wp2_with fail
      (go_at_call 38; refine (impl_GetKey _ af s _ (by (try simp only [← Array.append_assoc]); (repeat (first | with_reducible exact HB.out | with_reducible apply RdL.mergeC | with_reducible apply RdL.ext | with_reducible apply RdL.alloc)); all_goals exact (0 : Nat))).mono ?_; rintro e w' ⟨rfl, hb⟩; obtain ⟨X, rfl⟩ := hb.ext; clear hb)
      go_wp2_with fail
      (go_at_call 34; refine (impl_put _ xs s (getC s af) (w.alloc (.cells #[.slice ta0 t.reads.length tc0, .slice (some ⟨b, off, none⟩) t.writes.length tc1] 35)).heap.size _ (by (try simp only [← Array.append_assoc]); (repeat (first | with_reducible exact HO.out | with_reducible exact OwnL.drC HO.out | with_reducible apply OwnL.merge2 | with_reducible apply OwnL.ext | with_reducible apply OwnL.alloc)); all_goals exact (0 : Nat)) hck (by omega) (by simp [World.ext_size]; try omega)).mono ?_; rintro e w' ⟨v', rfl, ho', hu'⟩; have hb' := Below.trans (show Below (w.alloc (.cells #[.slice ta0 t.reads.length tc0, .slice (some ⟨b, off, none⟩) t.writes.length tc1] 35)).heap.size (w.alloc (.cells #[.slice ta0 t.reads.length tc0, .slice (some ⟨b, off, none⟩) t.writes.length tc1] 35)) _ from (by repeat (first | with_reducible exact Below.refl _ _ | with_reducible apply Below.ofExt | with_reducible apply Below.ofAlloc | with_reducible apply Below.drew | with_reducible apply Below.ofDrewN | with_reducible assumption | (with_reducible refine Below.setCell ?_ (by first | exact Nat.le_refl _ | (simp [go_sem]; done) | (simp [go_sem]; omega)) _)))) (hu'.toBelow (by simp [World.ext_size]; try omega) HLO.out); have HP := Lib.hid ho'; clear ho' hu')
      go_wp2
      go_roundw
      case rel => exact ⟨n + 1, _, by go_num, by omega, hb', HP.out, HS.out.symm, Nat.le_trans (putC_len _ _ _) (by omega)⟩
      case measure => simp [intOf]; omega
    case neg =>
      have e : n = t.writes.length := by omega
      have HF : Hid (laidC zs af t.writes = xs) := by show _ = _; rw [hxs, e, List.take_length]
      clear hxs
      go_wp2
      go_ret
      exact ⟨_, rfl, by rw [HF.out]; exact HO.out.base (by simp), (by repeat (first | with_reducible exact Below.refl _ _ | with_reducible apply Below.ofExt | with_reducible apply Below.ofAlloc | with_reducible apply Below.drew | with_reducible apply Below.ofDrewN | with_reducible assumption | (with_reducible refine Below.setCell ?_ (by first | exact Nat.le_refl _ | (simp [go_sem]; done) | (simp [go_sem]; omega)) _)))⟩
end Go.Proofs.Ytdgnnphghfppbaa
