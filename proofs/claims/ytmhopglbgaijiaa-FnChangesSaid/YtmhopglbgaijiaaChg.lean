/- What has changed between two stores: the program's and the reference's. Each condition stands in its theorem. -/
import Derived.Test.YtmhopglbgaijiaaSdiff
import Derived.Test.YtmhopglbgaijiaaIdiff
import Derived.Test.YtmhopglbgaijiaaOrdT
import Derived.Test.YtmhopglbgaijiaaApply
set_option linter.unusedVariables false
set_option linter.unusedSimpArgs false
namespace Go.Proofs.Ytmhopglbgaijiaa
open Go.ChangeShapes Go.WideShapes Go.ChangeAt Go.RowKit

theorem RdL.mergeC2 {α : Type} {R : RowOf α} {w : World} {v : Value} {xs : List α} {bs cs : Array Obj} {d0 dr : Nat} (h : RdL R (w.ext ⟨bs, d0⟩) v xs) : RdL R (w.ext ⟨bs ++ cs, dr⟩) v xs := by
  have := h.ext ⟨cs, dr⟩
  rwa [World.ext_ext] at this
theorem OwnL.same' {α : Type} {R : RowOf α} {e : TypeId} {w : World} {B : Nat} {v : Value} {xs : List α} {X : Ext} {dr : Nat} (h : OwnL R e (w.ext X) B v xs) : OwnL R e (w.ext ⟨X.bs, dr⟩) B v xs := h
theorem _root_.Go.OwnL.apart {α β : Type} {R : RowOf α} {R' : RowOf β} {e e' : TypeId} {w : World} {B B' : Nat} {v v' : Value} {xs : List α} {ys : List β} (h : OwnL R e w B v xs) (h' : OwnL R' e' w B' v' ys) (he : e ≠ e') : v.ownBlock = none ∨ v.ownBlock ≠ v'.ownBlock := by
  rcases h.2 with ⟨rfl, h0⟩ | ⟨g, cap, cur, rfl, hg, hh, _⟩
  · exact .inl rfl
  · right
    rcases h'.2 with ⟨rfl, _⟩ | ⟨g', cap', cur', rfl, hg', hh', _⟩
    · simp [Value.ownBlock]
    · intro hb
      have hb : g = g' := by simpa [Value.ownBlock] using hb
      subst hb
      rw [hh] at hh'
      injection hh' with hh'
      injection hh' with _ hh'
      exact he hh'
theorem OwnL.below' {α : Type} {R : RowOf α} {e : TypeId} {w w' : World} {B : Nat} {v : Value} {xs : List α} (h : OwnL R e w B v xs) (hb : Below w.heap.size w w') : OwnL R e w' B v xs := by
  obtain ⟨X, rfl⟩ := hb.ext
  exact h.ext X
/-- what has changed: the keys that differ, each with the second store's value -/
def chgC (a b : List CellD) : List CellD := (diffC a b).map fun k => ⟨k, getC k b⟩
theorem chgC_len (a b : List CellD) : (chgC a b).length ≤ a.length + b.length := by
  unfold chgC
  rw [List.length_map]
  exact diffC_len a b
theorem chgC_ok (a b : List CellD) (ha : ∀ c ∈ a, c.ok) (hb : ∀ c ∈ b, c.ok) : ∀ c ∈ chgC a b, c.ok := by
  intro c hc
  obtain ⟨k, hk, rfl⟩ := List.mem_map.1 hc
  exact ⟨diffC_ok a b ha hb k hk, getC_ok k b hb⟩
set_option maxRecDepth 100000 in
set_option maxHeartbeats 2000000 in
theorem spec_Changes (va vb : Value) (a b : List CellD) (w : World) (ha : RdL rCell w va a) (hb : RdL rCell w vb b) (hl : a.length ≤ 1048576) (hl2 : b.length ≤ 1048576) :
    Calls Try.prog 25 #[va, vb] w fun e w' => ∃ v', e = .returned v' ∧ OwnL rCell 53 w' w.heap.size v' (chgC a b) ∧ Below w.heap.size w w' := by
  have HA := Lib.hid ha
  have HB := Lib.hid hb
  have HE0 : Hid (OwnL rCell 53 (w.alloc (.cells #[] 53)) w.heap.size (.slice (some ⟨w.heap.size, 0, none⟩) 0 0) []) := OwnL.empty rCell 53 w
  clear ha hb
  obtain ⟨ks, hks⟩ : ∃ ks, ks = diffC a b := ⟨_, rfl⟩
  have hkl : ks.length ≤ 2097152 := by rw [hks]; have := diffC_len a b; omega
  have HF : Hid (chgC a b = ks.map (fun k => ⟨k, getC k b⟩)) := by show _ = _; rw [hks]; rfl
  have HKS := Lib.hid hks
  clear hks
  go_enter Try.func25, Try.ntmps25
  go_wp2_with fail
  (go_at_call 45; refine (spec_DiffKeys _ _ a b _ (by (try simp only [← Array.append_assoc]); (repeat (first | with_reducible exact HA.out | with_reducible apply RdL.mergeC2 | with_reducible apply RdL.ext | with_reducible apply RdL.alloc)); all_goals exact (0 : Nat)) (by (try simp only [← Array.append_assoc]); (repeat (first | with_reducible exact HB.out | with_reducible apply RdL.mergeC2 | with_reducible apply RdL.ext | with_reducible apply RdL.alloc)); all_goals exact (0 : Nat)) hl hl2).mono ?_; rintro e w' ⟨v2, rfl, hown2, hb2⟩; have hbb := Below.then (show Below w.heap.size w (w.alloc (.cells #[] 53)) from (by repeat (first | with_reducible exact Below.refl _ _ | with_reducible apply Below.ofExt | with_reducible apply Below.ofAlloc | with_reducible apply Below.drew | with_reducible apply Below.ofDrewN | with_reducible assumption | (with_reducible refine Below.setCell ?_ (by first | exact Nat.le_refl _ | (simp [go_sem]; done) | (simp [go_sem]; omega)) _)))) hb2; have HK := Lib.hid (hown2.base (B' := w.heap.size) (by simp)); have HE1 := Lib.hid (OwnL.below' HE0.out hb2); clear hown2 hb2; obtain ⟨X1, rfl⟩ := hbb.ext; clear hbb; obtain ⟨ka, kc, rfl⟩ := HK.out.rd.form)
  rw [← HKS.out] at HK ⊢
  go_wp2
  go_loopw [5, 7] (fun o k wr => ∃ (n : Nat) (xs : List CellD), k = .int .i64 n ∧ n ≤ ks.length ∧ Below w.heap.size w wr ∧ OwnL rCell 53 wr w.heap.size o xs ∧ OwnL rStr 9 wr w.heap.size (.slice ka ks.length kc) ks ∧ xs = (ks.take n).map (fun k => ⟨k, getC k b⟩) ∧ xs.length = n) (fun _ k _ => ks.length - (intOf k).toNat)
  case atStart => exact ⟨0, [], rfl, by omega, (by repeat (first | with_reducible exact Below.refl _ _ | with_reducible apply Below.ofExt | with_reducible apply Below.ofAlloc | with_reducible apply Below.drew | with_reducible apply Below.ofDrewN | with_reducible assumption | (with_reducible refine Below.setCell ?_ (by first | exact Nat.le_refl _ | (simp [go_sem]; done) | (simp [go_sem]; omega)) _))), HE1.out, HK.out, rfl, rfl⟩
  case round =>
    clear HK
    obtain ⟨n, xs, rfl, hn, hbel, ho, hk, hxs, hxl⟩ := hrel
    obtain ⟨X, rfl⟩ := hbel.ext
    obtain ⟨oa, oc, rfl⟩ := ho.rd.form
    have HAP := Lib.hid (OwnL.apart hk ho (by decide))
    have HO := Lib.hid ho
    have HK := Lib.hid hk
    have hxl2 : xs.length ≤ n := by omega
    have HXS := Lib.hid hxs
    have HXL := Lib.hid hxl
    clear ho hk hxs hxl hbel
    by_cases hlt : (n : Int) < ks.length
    case pos =>
      have hk : n < ks.length := by omega
      obtain ⟨ka', kc', hkv, hc1, hc2, hnil, hcell⟩ := HK.out.rd.shapeS
      cases hkv
      obtain ⟨kb, koff, rfl, hbl, hcell⟩ := hcell (by intro e; simp [e] at hk)
      have hst : (ks.take (n + 1)).map (fun k => (⟨k, getC k b⟩ : CellD)) = (ks.take n).map (fun k => ⟨k, getC k b⟩) ++ [⟨ks[n], getC ks[n] b⟩] := by
        rw [List.take_succ_eq_append_getElem hk, List.map_append]
        rfl
      have y0 := hcell n hk
      rw [← HXS.out] at hst
      generalize ks[n] = key at y0 hst
      have y1 : ∀ dr, (w.ext ⟨X.bs, dr⟩).cell? ⟨kb, koff + n, none⟩ = some (.string key) := fun dr => y0
      have y2 : ∀ (bs : Array Obj) (dr : Nat), (w.ext ⟨X.bs ++ bs, dr⟩).cell? ⟨kb, koff + n, none⟩ = some (.string key) := fun bs dr => by
        have h := World.cell?_ext (w.ext X) ⟨bs, dr⟩ kb (koff + n) hbl
        rw [World.ext_ext] at h
        rw [h]
        exact y0
      have HST := Lib.hid hst
      have hbl2 : kb < w.heap.size + X.bs.size := by rw [World.ext_size] at hbl; exact hbl
      clear hst hcell hnil hbl
      go_wp2
      refine wp_region_ordT [(0,true),(1,true),(2,true),(3,true),(4,true),(5,true),(6,true),(7,true),(8,true),(9,true),(10,false),(11,true),(12,false),(13,false),(14,false)] 13 (by kernel_rfl) (by kernel_rfl) ?_
      repeat (refine wpOrd_quiet rfl (fun K hK => ?_); go_simp; (try simp (disch := omega) only [IntWalk.i64_in]); refine hK _ ?_; clear hK K)
      refine wpOrd_grow rfl (fun K hK => ?_); go_simp; go_at_call 46; refine (spec_GetKey _ b key _ (by (try simp only [← Array.append_assoc]); (repeat (first | with_reducible exact HB.out | with_reducible apply RdL.mergeC2 | with_reducible apply RdL.ext | with_reducible apply RdL.alloc)); all_goals exact (0 : Nat))).mono ?_; rintro e w' ⟨rfl, hb⟩; obtain ⟨X, rfl⟩ := hb.ext; clear hb; try go_simp; refine hK _ _ (by show Sx _ _; (try simp only [← Array.append_assoc]); repeat (first | with_reducible exact Sx.drew _ | with_reducible exact Sx.same _ _ _ _ | with_reducible exact ⟨_, rfl⟩ | with_reducible apply Sx.more | with_reducible apply Sx.ext | with_reducible apply Sx.alloc | with_reducible apply Sx.draw | with_reducible exact Sx.refl _)) ?_; clear hK K
      repeat (refine wpOrd_quiet rfl (fun K hK => ?_); go_simp; (try simp (disch := omega) only [IntWalk.i64_in]); refine hK _ ?_; clear hK K)
      refine wpOrd_grow rfl (fun K hK => ?_); go_simp; refine hK _ _ (by show Sx _ _; (try simp only [← Array.append_assoc]); repeat (first | with_reducible exact Sx.drew _ | with_reducible exact Sx.same _ _ _ _ | with_reducible exact ⟨_, rfl⟩ | with_reducible apply Sx.more | with_reducible apply Sx.ext | with_reducible apply Sx.alloc | with_reducible apply Sx.draw | with_reducible exact Sx.refl _)) ?_; clear hK K
      refine wpOrd_tail rfl rfl (fun K hK => ?_)
      rw [if_pos (by rfl)]
      refine wp_appL (.tmp 18) (.tmp 30) 46 rfl (R := rCell) (e := 53) Try.elemCellS (B := w.heap.size) (v := .slice oa xs.length oc) (xs := xs) (by (try simp only [← Array.append_assoc]); (repeat (first | with_reducible exact HO.out | with_reducible apply OwnL.mergeC' | with_reducible apply OwnL.same' | with_reducible apply OwnL.ext | with_reducible apply OwnL.alloc | with_reducible apply OwnL.drew)); all_goals exact (0 : Nat)) rfl (ys := [⟨key, getC key b⟩]) (RdL.oneAt rCell _ ⟨key, getC key b⟩ _ rfl _ _ (by simp [World.ext_size])) rfl (by simp only [List.length_singleton]; omega) (by simp only [List.length_singleton]; unfold maxLen; omega) (by simp [World.ext_size]; try omega) ?_
      intro v4 w4 hown4 hgr4 _
      refine hK _ _ ?_
      clear hK K
      have hb4 : Below w.heap.size w w4 := Below.appL (a := w) (R := rCell) (e := 53) (v := .slice oa xs.length oc) (xs := xs) (by repeat (first | with_reducible exact Below.refl _ _ | with_reducible apply Below.ofExt | with_reducible apply Below.ofAlloc | with_reducible apply Below.drew | with_reducible apply Below.ofDrewN | with_reducible assumption | (with_reducible refine Below.setCell ?_ (by first | exact Nat.le_refl _ | (simp [go_sem]; done) | (simp [go_sem]; omega)) _))) hgr4 (by (try simp only [← Array.append_assoc]); (repeat (first | with_reducible exact HO.out | with_reducible apply OwnL.mergeC' | with_reducible apply OwnL.same' | with_reducible apply OwnL.ext | with_reducible apply OwnL.alloc | with_reducible apply OwnL.drew)); all_goals exact (0 : Nat))
      have hk4 : OwnL rStr 9 w4 w.heap.size (.slice (some ⟨kb, koff, none⟩) ks.length kc) ks := OwnL.kept (v := .slice (some ⟨kb, koff, none⟩) ks.length kc) (by (try simp only [← Array.append_assoc]); (repeat (first | with_reducible exact HK.out | with_reducible apply OwnL.mergeC' | with_reducible apply OwnL.same' | with_reducible apply OwnL.ext | with_reducible apply OwnL.alloc | with_reducible apply OwnL.drew)); all_goals exact (0 : Nat)) hgr4 HAP.out
      repeat (refine wpOrd_tail rfl rfl (fun K hK => ?_); go_simp; refine hK _ _ ?_; clear hK K)
      refine wpOrd_nil ?_
      go_wp2
      go_roundw
      case rel => exact ⟨n + 1, _, by go_num, by omega, hb4, hown4, hk4, HST.out.symm, by have := HXL.out; simp; omega⟩
      case measure => simp [intOf]; omega
    case neg =>
      have e : n = ks.length := by omega
      have hx := HXS.out
      rw [e, List.take_length, ← HF.out] at hx
      have HX := Lib.hid hx
      clear hx
      go_wp2
      go_ret
      exact ⟨_, rfl, by rw [← HX.out]; exact HO.out, (by repeat (first | with_reducible exact Below.refl _ _ | with_reducible apply Below.ofExt | with_reducible apply Below.ofAlloc | with_reducible apply Below.drew | with_reducible apply Below.ofDrewN | with_reducible assumption | (with_reducible refine Below.setCell ?_ (by first | exact Nat.le_refl _ | (simp [go_sem]; done) | (simp [go_sem]; omega)) _)))⟩
set_option maxRecDepth 100000 in
set_option maxHeartbeats 2000000 in
theorem impl_Changes (va vb : Value) (a b : List CellD) (w : World) (ha : RdL rCell w va a) (hb : RdL rCell w vb b) (hka : ∀ c ∈ a, c.ok) (hkb : ∀ c ∈ b, c.ok) (hl : a.length ≤ 1048576) (hl2 : b.length ≤ 1048576) :
    Calls Try.prog 22 #[va, vb] w fun e w' => ∃ v', e = .returned v' ∧ OwnL rCell 53 w' w.heap.size v' (chgC a b) ∧ Below w.heap.size w w' := by
  have HA := Lib.hid ha
  have HB := Lib.hid hb
  have HKA := Lib.hid hka
  have HKB := Lib.hid hkb
  clear hka hkb
  clear ha hb
  obtain ⟨ks, hks⟩ : ∃ ks, ks = diffC a b := ⟨_, rfl⟩
  have hkl : ks.length ≤ 2097152 := by rw [hks]; have := diffC_len a b; omega
  have HF : Hid (chgC a b = ks.map (fun k => ⟨k, getC k b⟩)) := by show _ = _; rw [hks]; rfl
  have HKS := Lib.hid hks
  clear hks
  go_enter Try.func22, Try.ntmps22
  go_wp2_with fail
  (go_at_call 41; refine (impl_DiffKeys _ _ a b _ (by (try simp only [← Array.append_assoc]); (repeat (first | with_reducible exact HA.out | with_reducible apply RdL.mergeC2 | with_reducible apply RdL.ext | with_reducible apply RdL.alloc)); all_goals exact (0 : Nat)) (by (try simp only [← Array.append_assoc]); (repeat (first | with_reducible exact HB.out | with_reducible apply RdL.mergeC2 | with_reducible apply RdL.ext | with_reducible apply RdL.alloc)); all_goals exact (0 : Nat)) HKA.out HKB.out hl hl2).mono ?_; rintro e w' ⟨v2, rfl, hown2, hb2⟩; have hbb := Below.then (show Below w.heap.size w w from (by repeat (first | with_reducible exact Below.refl _ _ | with_reducible apply Below.ofExt | with_reducible apply Below.ofAlloc | with_reducible apply Below.drew | with_reducible apply Below.ofDrewN | with_reducible assumption | (with_reducible refine Below.setCell ?_ (by first | exact Nat.le_refl _ | (simp [go_sem]; done) | (simp [go_sem]; omega)) _)))) hb2; have HK := Lib.hid (hown2.base (B' := w.heap.size) (by simp)); clear hown2 hb2; obtain ⟨X1, rfl⟩ := hbb.ext; clear hbb; obtain ⟨ka, kc, rfl⟩ := HK.out.rd.form)
  rw [← HKS.out] at HK ⊢
  go_wp2
  go_loopw [5, 12] (fun o k wr => ∃ (n : Nat) (xs : List CellD), k = .int .i64 n ∧ n ≤ ks.length ∧ Below w.heap.size w wr ∧ OwnL rCell 53 wr w.heap.size o xs ∧ OwnL rStr 9 wr w.heap.size (.slice ka ks.length kc) ks ∧ xs = (ks.take n).map (fun k => ⟨k, getC k b⟩) ∧ xs.length = n) (fun _ k _ => ks.length - (intOf k).toNat)
  case atStart => exact ⟨0, [], rfl, by omega, (by repeat (first | with_reducible exact Below.refl _ _ | with_reducible apply Below.ofExt | with_reducible apply Below.ofAlloc | with_reducible apply Below.drew | with_reducible apply Below.ofDrewN | with_reducible assumption | (with_reducible refine Below.setCell ?_ (by first | exact Nat.le_refl _ | (simp [go_sem]; done) | (simp [go_sem]; omega)) _))), OwnL.nil rCell _ _ _, HK.out, rfl, rfl⟩
  case round =>
    clear HK
    obtain ⟨n, xs, rfl, hn, hbel, ho, hk, hxs, hxl⟩ := hrel
    obtain ⟨X, rfl⟩ := hbel.ext
    obtain ⟨oa, oc, rfl⟩ := ho.rd.form
    have HAP := Lib.hid (OwnL.apart hk ho (by decide))
    have HO := Lib.hid ho
    have HK := Lib.hid hk
    have hxl2 : xs.length ≤ n := by omega
    have HXS := Lib.hid hxs
    have HXL := Lib.hid hxl
    clear ho hk hxs hxl hbel
    by_cases hlt : (n : Int) < ks.length
    case pos =>
      have hk : n < ks.length := by omega
      obtain ⟨ka', kc', hkv, hc1, hc2, hnil, hcell⟩ := HK.out.rd.shapeS
      cases hkv
      obtain ⟨kb, koff, rfl, hbl, hcell⟩ := hcell (by intro e; simp [e] at hk)
      have hst : (ks.take (n + 1)).map (fun k => (⟨k, getC k b⟩ : CellD)) = (ks.take n).map (fun k => ⟨k, getC k b⟩) ++ [⟨ks[n], getC ks[n] b⟩] := by
        rw [List.take_succ_eq_append_getElem hk, List.map_append]
        rfl
      have y0 := hcell n hk
      rw [← HXS.out] at hst
      generalize ks[n] = key at y0 hst
      have y1 : ∀ dr, (w.ext ⟨X.bs, dr⟩).cell? ⟨kb, koff + n, none⟩ = some (.string key) := fun dr => y0
      have y2 : ∀ (bs : Array Obj) (dr : Nat), (w.ext ⟨X.bs ++ bs, dr⟩).cell? ⟨kb, koff + n, none⟩ = some (.string key) := fun bs dr => by
        have h := World.cell?_ext (w.ext X) ⟨bs, dr⟩ kb (koff + n) hbl
        rw [World.ext_ext] at h
        rw [h]
        exact y0
      have HST := Lib.hid hst
      have hbl2 : kb < w.heap.size + X.bs.size := by rw [World.ext_size] at hbl; exact hbl
      clear hst hcell hnil hbl
      go_wp2_with fail
      (go_at_call 42; refine (impl_GetKey _ b key _ (by (try simp only [← Array.append_assoc]); (repeat (first | with_reducible exact HB.out | with_reducible apply RdL.mergeC2 | with_reducible apply RdL.ext | with_reducible apply RdL.alloc)); all_goals exact (0 : Nat))).mono ?_; rintro e w' ⟨rfl, hb⟩; obtain ⟨X, rfl⟩ := hb.ext; clear hb)
      go_wp2_with (at_builtin; refine Stop.here ?_)
      refine wpList_appL rfl _ _ _ rfl (R := rCell) (e := 53) Try.elemCellS (B := w.heap.size) (v := .slice oa xs.length oc) (xs := xs) (by (try simp only [← Array.append_assoc]); (repeat (first | with_reducible exact HO.out | with_reducible apply OwnL.mergeC' | with_reducible apply OwnL.same' | with_reducible apply OwnL.ext | with_reducible apply OwnL.alloc | with_reducible apply OwnL.drew)); all_goals exact (0 : Nat)) rfl (ys := [⟨key, getC key b⟩]) (RdL.oneAt rCell _ ⟨key, getC key b⟩ _ rfl _ _ (by simp [World.ext_size])) rfl (by simp only [List.length_singleton]; omega) (by simp only [List.length_singleton]; unfold maxLen; omega) (by simp [World.ext_size]; try omega) ?_
      intro v4 w4 hown4 hgr4 _
      have hb4 : Below w.heap.size w w4 := Below.appL (a := w) (R := rCell) (e := 53) (v := .slice oa xs.length oc) (xs := xs) (by repeat (first | with_reducible exact Below.refl _ _ | with_reducible apply Below.ofExt | with_reducible apply Below.ofAlloc | with_reducible apply Below.drew | with_reducible apply Below.ofDrewN | with_reducible assumption | (with_reducible refine Below.setCell ?_ (by first | exact Nat.le_refl _ | (simp [go_sem]; done) | (simp [go_sem]; omega)) _))) hgr4 (by (try simp only [← Array.append_assoc]); (repeat (first | with_reducible exact HO.out | with_reducible apply OwnL.mergeC' | with_reducible apply OwnL.same' | with_reducible apply OwnL.ext | with_reducible apply OwnL.alloc | with_reducible apply OwnL.drew)); all_goals exact (0 : Nat))
      have hk4 : OwnL rStr 9 w4 w.heap.size (.slice (some ⟨kb, koff, none⟩) ks.length kc) ks := OwnL.kept (v := .slice (some ⟨kb, koff, none⟩) ks.length kc) (by (try simp only [← Array.append_assoc]); (repeat (first | with_reducible exact HK.out | with_reducible apply OwnL.mergeC' | with_reducible apply OwnL.same' | with_reducible apply OwnL.ext | with_reducible apply OwnL.alloc | with_reducible apply OwnL.drew)); all_goals exact (0 : Nat)) hgr4 HAP.out
      go_wp2
      go_roundw
      case rel => exact ⟨n + 1, _, by go_num, by omega, hb4, hown4, hk4, HST.out.symm, by have := HXL.out; simp; omega⟩
      case measure => simp [intOf]; omega
    case neg =>
      have e : n = ks.length := by omega
      have hx := HXS.out
      rw [e, List.take_length, ← HF.out] at hx
      have HX := Lib.hid hx
      clear hx
      go_wp2
      go_ret
      exact ⟨_, rfl, by rw [← HX.out]; exact HO.out, (by repeat (first | with_reducible exact Below.refl _ _ | with_reducible apply Below.ofExt | with_reducible apply Below.ofAlloc | with_reducible apply Below.drew | with_reducible apply Below.ofDrewN | with_reducible assumption | (with_reducible refine Below.setCell ?_ (by first | exact Nat.le_refl _ | (simp [go_sem]; done) | (simp [go_sem]; omega)) _)))⟩
end Go.Proofs.Ytmhopglbgaijiaa
