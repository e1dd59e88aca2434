/- The calls since a mark: the program's and the reference's. Each condition stands in its theorem. -/
import Derived.Test.YtefenfglkfdoaaaCTx
import Derived.Test.YtefenfglkfdoaaaClone
import Derived.Test.YtefenfglkfdoaaaBro
import Derived.Test.YtefenfglkfdoaaaIn
import Derived.Test.YtefenfglkfdoaaaOrdT
set_option linter.unusedVariables false
set_option linter.unusedSimpArgs false
namespace Go.Proofs.Ytefenfglkfdoaaa
open Go.ChangeShapes Go.WideShapes Go.ChangeAt Go.RowKit

def sinceOf (n : Int) (d : TxD) : List CallD :=
  if inB n 1 d.marks.length then d.calls.drop (broughtIn (d.marks.getD (n - 1).toNat 0) 0 d.calls.length).toNat else []
theorem _root_.Go.OwnL.heapEq {α : Type} {R : RowOf α} {e : TypeId} {w w' : World} {B : Nat} {v : Value} {xs : List α} (h : OwnL R e w B v xs) (he : w'.heap = w.heap) : OwnL R e w' B v xs := by
  unfold OwnL World.ownsRow at *
  rwa [he]
theorem own_empty1 (w : World) (o : Obj) : OwnL rCall 89 ((w.alloc o).alloc (.cells #[] 89)).drew w.heap.size (.slice (some ⟨w.heap.size + 1, 0, none⟩) 0 0) [] := by
  have h := ((OwnL.empty rCall 89 (w.alloc o)).heapEq (w' := ((w.alloc o).alloc (.cells #[] 89)).drew) rfl).base (B' := w.heap.size) (by simp)
  have e : (w.alloc o).heap.size = w.heap.size + 1 := by simp
  rwa [e] at h
theorem _root_.Go.RdL.tail {α : Type} {R : RowOf α} {w : World} {a0 : Option Addr} {c0 j : Nat} {xs : List α} (h : RdL R w (.slice a0 xs.length c0) xs) (hj : j ≤ xs.length) :
    RdL R w (.slice (if c0 = j then a0 else a0.map (fun x => x.add (j * R.k))) (xs.length - j) (c0 - j)) (xs.drop j) := by
  rcases h with ⟨hv, h0, _⟩ | ⟨b, off, cap, hv, h1, h2, h3⟩
  · simp only [Value.slice.injEq] at hv
    obtain ⟨rfl, _, rfl⟩ := hv
    have e : xs = [] := List.eq_nil_of_length_eq_zero h0
    subst e
    have e : j = 0 := by simpa using hj
    subst e
    simpa using RdL.nil R w
  · simp only [Value.slice.injEq, true_and] at hv
    obtain ⟨rfl, rfl⟩ := hv
    by_cases e : c0 = j
    · rw [if_pos e]
      have h0 : xs.drop j = [] := List.drop_eq_nil_of_le (by omega)
      rw [h0, show xs.length - j = 0 by omega]
      exact .inr ⟨b, off, _, rfl, by simp, by omega, fun j u hj => by simp at hj⟩
    · rw [if_neg e]
      have h := RdL.cut (R := R) (w := w) (xs := xs) (.inr ⟨b, off, c0, rfl, h1, h2, h3⟩) j xs.length (c0 - j) (Nat.le_refl _) (by omega) (by omega)
      rw [List.take_of_length_le (by simp)] at h
      by_cases e0 : j * R.k = 0
      · rw [e0] at h
        simpa [Addr.add, e0] using h
      · simpa [Addr.add, e0] using h
theorem broughtIn_le (x : Int) (n : Nat) : ∃ k : Nat, broughtIn x 0 n = k ∧ k ≤ n := by
  unfold broughtIn
  split
  · omega
  · split
    · exact ⟨0, rfl, by omega⟩
    · split
      · exact ⟨n, rfl, Nat.le_refl _⟩
      · exact ⟨x.toNat, by omega, by omega⟩
set_option maxRecDepth 100000 in
set_option maxHeartbeats 2000000 in
theorem impl_SinceMark (n : Int) (cs : List Value) (d : TxD) (w : World) (hs : vTx.rd w cs d) (hr : ∀ v, cs[4]? = some v → RdL rCall w v d.calls) (hl : d.calls.length ≤ 1048576) :
    Calls Try.prog 47 #[.agg cs.toArray, .int .i64 n] w fun e w' => ∃ v', e = .returned v' ∧ OwnL rCall 89 w' w.heap.size v' (sinceOf n d) ∧ Below w.heap.size w w' := by
  obtain ⟨s0, s1, s2, s3, s4, rfl, h0, h1, h2, h3, h4⟩ := hs
  replace hr := hr s0 rfl
  obtain ⟨a1, c1, rfl⟩ := vSlice.form h1
  obtain ⟨a2, c2, rfl⟩ := vSlice.form h2
  obtain ⟨a3, c3, rfl⟩ := vSlice.form h3
  obtain ⟨a4, c4, rfl, hm1, hm2, hmnil, hmcell⟩ := vSlice.shape h4
  obtain ⟨a0, c0, rfl, hc1, hc2, hnil, hne⟩ := RdL.shape hr
  have HR := Lib.hid hr
  have HM := Lib.hid hmcell
  clear hmcell hr h0 h1 h2 h3 h4 hne
  unfold maxLen at hc2 hm2
  cases hi : inB n 1 d.marks.length with
  | false =>
    have HQ : Hid (sinceOf n d = []) := by unfold Hid sinceOf; rw [hi]; rfl
    have CI : Hid (∀ W : World, Calls Try.prog 84 #[.int .i64 n, .int .i64 1, .int .i64 (d.marks.length : Int)] W fun e w' => e = .returned (.bool false) ∧ w' = W) := fun W => (impl_within _ _ _ W).mono fun e w' h => ⟨by rw [h.1, hi], h.2⟩
    clear hi
    go_enter Try.func47, Try.ntmps47
    go_wp2_with (go_at_call 84; refine (CI.out _).mono ?_; rintro e w' ⟨rfl, rfl⟩)
    go_wp2
    go_ret
    exact ⟨_, rfl, by rw [HQ.out]; exact OwnL.nil rCall _ _ _, (by repeat (first | with_reducible exact Below.refl _ _ | with_reducible apply Below.ofExt | with_reducible apply Below.ofAlloc | with_reducible apply Below.drew | with_reducible apply Below.ofDrewN | with_reducible assumption | (with_reducible refine Below.setCell ?_ (by first | exact Nat.le_refl _ | (simp [go_sem]; done) | (simp [go_sem]; omega)) _)))⟩
  | true =>
    have CI : Hid (∀ W : World, Calls Try.prog 84 #[.int .i64 n, .int .i64 1, .int .i64 (d.marks.length : Int)] W fun e w' => e = .returned (.bool true) ∧ w' = W) := fun W => (impl_within _ _ _ W).mono fun e w' h => ⟨by rw [h.1, hi], h.2⟩
    have hq : sinceOf n d = d.calls.drop (broughtIn (d.marks.getD (n - 1).toNat 0) 0 d.calls.length).toNat := by unfold sinceOf; rw [hi]; rfl
    have hb : 1 ≤ n ∧ n ≤ d.marks.length := by unfold inB at hi; simpa using hi
    clear hi
    obtain ⟨hb1, hb2⟩ := hb
    obtain ⟨k, rfl⟩ : ∃ k : Nat, n = k + 1 := ⟨(n - 1).toNat, by omega⟩
    have hk : k < d.marks.length := by omega
    obtain ⟨b, off, csx, rfl, hblx, hrdx, hcellx⟩ := HM.out k hk
    have hgd : d.marks.getD ((k : Int) + 1 - 1).toNat 0 = d.marks[k] := by
      rw [show ((k : Int) + 1 - 1).toNat = k by omega, List.getD_eq_getElem?_getD, List.getElem?_eq_getElem hk]; rfl
    rw [hgd] at hq
    clear hgd
    generalize d.marks[k] = m at hrdx hq
    obtain ⟨rfl, _⟩ := hrdx
    have y0 := hcellx 0 _ rfl
    clear hcellx
    simp only [show vInt.k = 1 from rfl, Nat.add_zero, Nat.mul_one] at y0
    obtain ⟨j, hj, hjl⟩ := broughtIn_le m d.calls.length
    rw [hj, Int.toNat_natCast] at hq
    have HQ : Hid (sinceOf ((k : Int) + 1) d = d.calls.drop j) := hq
    have CB : Hid (∀ W : World, Calls Try.prog 101 #[.int .i64 m, .int .i64 0, .int .i64 (d.calls.length : Int)] W fun e w' => e = .returned (.int .i64 (j : Int)) ∧ w' = W) := fun W => (impl_Brought _ _ _ W).mono fun e w' h => ⟨by rw [h.1, hj], h.2⟩
    clear hq hj
    go_enter Try.func47, Try.ntmps47
    go_wp2_with (go_at_call 84; refine (CI.out _).mono ?_; rintro e w' ⟨rfl, rfl⟩)
    go_wp2
    refine wp_region_ord [(0,true),(1,true),(2,true),(3,true),(4,true),(5,true),(6,true),(7,true),(8,true),(9,true),(10,true),(11,false),(12,true),(13,false),(14,true)] 15 (by kernel_rfl) (by kernel_rfl) ?_
    repeat (refine wpOrd_quiet rfl (fun K hK => ?_); go_simp; (try simp (disch := omega) only [IntWalk.i64_in]); refine hK _ ?_; clear hK K)
    refine wpOrd_grow rfl (fun K hK => ?_)
    go_simp
    go_at_call 101
    refine (CB.out _).mono ?_
    rintro e w' ⟨rfl, rfl⟩
    try go_simp
    refine hK _ _ (by show Sx _ _; (try simp only [← Array.append_assoc]); repeat (first | with_reducible exact Sx.drew _ | with_reducible exact Sx.same _ _ _ _ | with_reducible exact ⟨_, rfl⟩ | with_reducible apply Sx.more | with_reducible apply Sx.ext | with_reducible apply Sx.alloc | with_reducible apply Sx.draw)) ?_
    clear hK K
    repeat (refine wpOrd_quiet rfl (fun K hK => ?_); go_simp; (try simp (disch := omega) only [IntWalk.i64_in]); refine hK _ ?_; clear hK K)
    have hsv : RdL rCall w (Value.slice (if c0 = j then a0 else Option.map (fun x => x.add (j * 6)) a0) (d.calls.length - j) (c0 - j)) (d.calls.drop j) := RdL.tail HR.out hjl
    generalize (Value.slice (if c0 = j then a0 else Option.map (fun x => x.add (j * 6)) a0) (d.calls.length - j) (c0 - j)) = sv at hsv ⊢
    have HSV := Lib.hid hsv
    clear hsv
    refine wpOrd_grow rfl (fun K hK => ?_)
    go_simp
    go_at_call 100
    refine (impl_CloneCalls _ (d.calls.drop j) _ ((HSV.out.alloc _).drew) (by simp; omega)).mono ?_
    rintro e w' ⟨v', rfl, hown, hb⟩
    obtain ⟨X, rfl⟩ := hb.ext
    clear hb
    have HO := Lib.hid hown
    clear hown
    try go_simp
    refine hK _ _ ⟨X, rfl⟩ ?_
    clear hK K
    repeat (refine wpOrd_quiet rfl (fun K hK => ?_); go_simp; (try simp (disch := omega) only [IntWalk.i64_in]); refine hK _ ?_; clear hK K)
    refine wpOrd_nil ?_
    go_wp2
    go_ret
    exact ⟨_, rfl, by rw [HQ.out]; exact (HO.out.base (B' := w.heap.size) (by show w.heap.size ≤ (w.alloc _).heap.size; simp)).heapEq rfl, (by repeat (first | with_reducible exact Below.refl _ _ | with_reducible apply Below.ofExt | with_reducible apply Below.ofAlloc | with_reducible apply Below.drew | with_reducible apply Below.ofDrewN | with_reducible assumption | (with_reducible refine Below.setCell ?_ (by first | exact Nat.le_refl _ | (simp [go_sem]; done) | (simp [go_sem]; omega)) _)))⟩
set_option maxRecDepth 100000 in
set_option maxHeartbeats 2000000 in
theorem spec_SinceMark (n : Int) (cs : List Value) (d : TxD) (w : World) (hs : vTx.rd w cs d) (hr : ∀ v, cs[4]? = some v → RdL rCall w v d.calls) (hl : d.calls.length ≤ 1048576) :
    Calls Try.prog 46 #[.agg cs.toArray, .int .i64 n] w fun e w' => ∃ v', e = .returned v' ∧ OwnL rCall 89 w' w.heap.size v' (sinceOf n d) ∧ Below w.heap.size w w' := by
  obtain ⟨s0, s1, s2, s3, s4, rfl, h0, h1, h2, h3, h4⟩ := hs
  replace hr := hr s0 rfl
  obtain ⟨a1, c1, rfl⟩ := vSlice.form h1
  obtain ⟨a2, c2, rfl⟩ := vSlice.form h2
  obtain ⟨a3, c3, rfl⟩ := vSlice.form h3
  obtain ⟨a4, c4, rfl, hm1, hm2, hmnil, hmcell⟩ := vSlice.shape h4
  obtain ⟨a0, c0, rfl, hc1, hc2, hnil, hne⟩ := RdL.shape hr
  have HR := Lib.hid hr
  have HM := Lib.hid hmcell
  clear hmcell hr h0 h1 h2 h3 h4 hne
  unfold maxLen at hc2 hm2
  cases hi : inB n 1 d.marks.length with
  | false =>
    have HQ : Hid (sinceOf n d = []) := by unfold Hid sinceOf; rw [hi]; rfl
    have CI : Hid (∀ W : World, Calls Try.prog 80 #[.int .i64 n, .int .i64 1, .int .i64 (d.marks.length : Int)] W fun e w' => e = .returned (.bool false) ∧ w' = W) := fun W => (spec_l01In _ _ _ W).mono fun e w' h => ⟨by rw [h.1, hi], h.2⟩
    clear hi
    go_enter Try.func46, Try.ntmps46
    go_wp2_with (go_at_call 80; refine (CI.out _).mono ?_; rintro e w' ⟨rfl, rfl⟩)
    go_wp2
    go_ret
    exact ⟨_, rfl, by rw [HQ.out]; exact (own_empty1 w _).heapEq rfl, (by repeat (first | with_reducible exact Below.refl _ _ | with_reducible apply Below.ofExt | with_reducible apply Below.ofAlloc | with_reducible apply Below.drew | with_reducible apply Below.ofDrewN | with_reducible assumption | (with_reducible refine Below.setCell ?_ (by first | exact Nat.le_refl _ | (simp [go_sem]; done) | (simp [go_sem]; omega)) _)))⟩
  | true =>
    have CI : Hid (∀ W : World, Calls Try.prog 80 #[.int .i64 n, .int .i64 1, .int .i64 (d.marks.length : Int)] W fun e w' => e = .returned (.bool true) ∧ w' = W) := fun W => (spec_l01In _ _ _ W).mono fun e w' h => ⟨by rw [h.1, hi], h.2⟩
    have hq : sinceOf n d = d.calls.drop (broughtIn (d.marks.getD (n - 1).toNat 0) 0 d.calls.length).toNat := by unfold sinceOf; rw [hi]; rfl
    have hb : 1 ≤ n ∧ n ≤ d.marks.length := by unfold inB at hi; simpa using hi
    clear hi
    obtain ⟨hb1, hb2⟩ := hb
    obtain ⟨k, rfl⟩ : ∃ k : Nat, n = k + 1 := ⟨(n - 1).toNat, by omega⟩
    have hk : k < d.marks.length := by omega
    obtain ⟨b, off, csx, rfl, hblx, hrdx, hcellx⟩ := HM.out k hk
    have hgd : d.marks.getD ((k : Int) + 1 - 1).toNat 0 = d.marks[k] := by
      rw [show ((k : Int) + 1 - 1).toNat = k by omega, List.getD_eq_getElem?_getD, List.getElem?_eq_getElem hk]; rfl
    rw [hgd] at hq
    clear hgd
    generalize d.marks[k] = m at hrdx hq
    obtain ⟨rfl, _⟩ := hrdx
    have y0 := hcellx 0 _ rfl
    clear hcellx
    simp only [show vInt.k = 1 from rfl, Nat.add_zero, Nat.mul_one] at y0
    obtain ⟨j, hj, hjl⟩ := broughtIn_le m d.calls.length
    rw [hj, Int.toNat_natCast] at hq
    have HQ : Hid (sinceOf ((k : Int) + 1) d = d.calls.drop j) := hq
    have CB : Hid (∀ W : World, Calls Try.prog 99 #[.int .i64 m, .int .i64 0, .int .i64 (d.calls.length : Int)] W fun e w' => e = .returned (.int .i64 (j : Int)) ∧ w' = W) := fun W => (spec_Brought _ _ _ W).mono fun e w' h => ⟨by rw [h.1, hj], h.2⟩
    clear hq hj
    go_enter Try.func46, Try.ntmps46
    go_wp2_with (go_at_call 80; refine (CI.out _).mono ?_; rintro e w' ⟨rfl, rfl⟩)
    go_wp2
    refine wp_region_ordT [(1,true),(2,true),(3,true),(4,true),(5,true),(6,true),(7,true),(8,true),(9,true),(10,true),(11,true),(12,true),(13,true),(0,false),(14,false),(15,false)] 14 (by kernel_rfl) (by kernel_rfl) ?_
    repeat (refine wpOrd_quiet rfl (fun K hK => ?_); go_simp; (try simp (disch := omega) only [IntWalk.i64_in]); refine hK _ ?_; clear hK K)
    refine wpOrd_look rfl (fun K hK => ?_); go_simp; refine ⟨.int .i64 (j : Int), fun x => ?_, ?_⟩; (go_at_call 99; exact (CB.out _)); (try go_simp); refine hK _ ?_; clear hK K
    repeat (refine wpOrd_quiet rfl (fun K hK => ?_); go_simp; (try simp (disch := omega) only [IntWalk.i64_in]); refine hK _ ?_; clear hK K)
    have hsv : RdL rCall w (Value.slice (if c0 = j then a0 else Option.map (fun x => x.add (j * 6)) a0) (d.calls.length - j) (c0 - j)) (d.calls.drop j) := RdL.tail HR.out hjl
    generalize (Value.slice (if c0 = j then a0 else Option.map (fun x => x.add (j * 6)) a0) (d.calls.length - j) (c0 - j)) = sv at hsv ⊢
    have HSV := Lib.hid hsv
    clear hsv
    refine wpOrd_grow rfl (fun K hK => ?_); go_simp; refine hK _ _ (by first | exact Sx.draw (Sx.alloc (Sx.refl _) _) | exact Sx.alloc (Sx.refl _) _) ?_; clear hK K
    refine wpOrd_tail rfl rfl (fun K hK => ?_)
    rw [if_pos (by rfl)]
    refine wp_appL (.tmp 12) (.tmp 25) 22 rfl (R := rCall) (e := 89) Try.elemCallS (v := .slice (some ⟨w.heap.size + 1, 0, none⟩) 0 0) (xs := []) (own_empty1 w _) rfl (ys := d.calls.drop j) ((HSV.out.alloc _).alloc _).drew rfl (by simp; omega) (by simp; unfold maxLen; omega) (by simp; omega) ?_
    intro v4 w4 hown4 hgr4 _
    refine hK _ _ ?_
    clear hK K
    have hb4 : Below w.heap.size w w4 := Below.appL (a := w) (R := rCall) (e := 89) (v := .slice (some ⟨w.heap.size + 1, 0, none⟩) 0 0) (xs := []) (by repeat (first | with_reducible exact Below.refl _ _ | with_reducible apply Below.ofExt | with_reducible apply Below.ofAlloc | with_reducible apply Below.drew | with_reducible apply Below.ofDrewN | with_reducible assumption | (with_reducible refine Below.setCell ?_ (by first | exact Nat.le_refl _ | (simp [go_sem]; done) | (simp [go_sem]; omega)) _))) hgr4 (own_empty1 w _)
    repeat (refine wpOrd_tail rfl rfl (fun K hK => ?_); go_simp; refine hK _ _ ?_; clear hK K)
    refine wpOrd_nil ?_
    go_wp2
    go_ret
    exact ⟨_, rfl, by rw [HQ.out]; exact hown4, hb4⟩
end Go.Proofs.Ytefenfglkfdoaaa
