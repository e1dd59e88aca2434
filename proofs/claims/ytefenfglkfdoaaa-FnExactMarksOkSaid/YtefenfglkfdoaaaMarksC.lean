/- Whether the marks of a transaction are in order: the program's and the reference's. Each condition stands in its theorem. -/
import Derived.Test.YtefenfglkfdoaaaMarksB
import Derived.Test.YtefenfglkfdoaaaCTx
import Derived.Test.YtefenfglkfdoaaaMarked
set_option linter.unusedVariables false
set_option linter.unusedSimpArgs false
namespace Go.Proofs.Ytefenfglkfdoaaa
open Go.ChangeShapes Go.WideShapes Go.ChangeAt Go.RowKit

def outOf (c : Int) (k : Int) : Bool := !inB k 0 c
theorem impl_MarksOk1 (k c : Int) (ao : Option Addr) (cap n : Nat) (b : Nat) (w : World) (hn : (n : Int) = c) (hbl : b < w.heap.size) (hb : w.cell? ⟨b, 4, none⟩ = some (.slice ao n cap)) :
    Calls Try.prog 83 #[.int .i64 k, .pointer (some ⟨b, 0, none⟩)] w fun e w' => e = .returned (.bool (outOf c k)) ∧ Below w.heap.size w w' := by
  subst hn
  have hq : outOf n k = !inB k 0 n := rfl
  have HQ := Lib.hid hq
  clear hq
  go_enter Try.func83, Try.ntmps83
  go_wp2_with fail
  (go_at_call 84; refine (impl_within _ _ _ _).mono ?_; rintro e w' ⟨rfl, rfl⟩)
  go_wp2
  go_ret
  exact ⟨by rw [HQ.out]; rfl, (by repeat (first | with_reducible exact Below.refl _ _ | with_reducible apply Below.ofExt | with_reducible apply Below.ofAlloc | with_reducible apply Below.drew | with_reducible apply Below.ofDrewN | with_reducible assumption | (with_reducible refine Below.setCell ?_ (by first | exact Nat.le_refl _ | (simp [go_sem]; done) | (simp [go_sem]; omega)) _)))⟩
set_option maxRecDepth 100000 in
theorem marks_IndexFunc (v : Value) (xs : List Int) (c : Int) (ao1 : Option Addr) (cap1 n1 q : Nat) (w : World) {e : TypeId} (hs : (vSlice vInt e).rd w [v] xs) (hn1 : (n1 : Int) = c) (hq : q < w.heap.size) (hqc : w.cell? ⟨q, 4, none⟩ = some (.slice ao1 n1 cap1)) :
    Calls Try.prog 121 #[v, .func (Fn.func 83) #[] #[.pointer (some ⟨q, 0, none⟩)]] w fun e w' => e = .returned (.int .i64 (firstIdx (outOf c) xs)) ∧ Below w.heap.size w w' := by
  obtain ⟨ao, cap, rfl, hc1, hc2, hnil, hcell, _⟩ := vInt_shape hs
  have HX := Lib.hid hcell
  have HQC := Lib.hid hqc
  have HN1 := Lib.hid hn1
  clear hcell hnil hs hqc hn1
  unfold maxLen at hc2
  go_enter Try.func121, Try.ntmps121
  go_wp2
  go_loopw [8] (fun k wr => ∃ (n : Nat), k = .int .i64 n ∧ n ≤ xs.length ∧ Below w.heap.size w wr ∧ (xs.take n).any (outOf c) = false) (fun k _ => xs.length - (intOf k).toNat)
  case atStart => exact ⟨0, rfl, by omega, (by repeat (first | with_reducible exact Below.refl _ _ | with_reducible apply Below.ofExt | with_reducible apply Below.ofAlloc | with_reducible apply Below.drew | with_reducible apply Below.ofDrewN | with_reducible assumption | (with_reducible refine Below.setCell ?_ (by first | exact Nat.le_refl _ | (simp [go_sem]; done) | (simp [go_sem]; omega)) _))), rfl⟩
  case round =>
    obtain ⟨n, rfl, hn, hbel, hany⟩ := hrel
    obtain ⟨X, rfl⟩ := hbel.ext
    have HA := Lib.hid hany
    clear hany
    by_cases hlt : (n : Int) < xs.length
    · have hk : n < xs.length := by omega
      obtain ⟨b, off, rfl, hbl, hcell⟩ := HX.out (by intro e; simp [e] at hk)
      have hcc := hcell n hk
      have hst := any_take_step (outOf c) xs n hk
      have hff : (xs.take n).any (outOf c) = false → outOf c xs[n] = true → firstIdx (outOf c) xs = n := fun h h2 => firstIdx_found (outOf c) xs n hk h h2
      clear hcell
      generalize xs[n] = x at hcc hst hff
      have HT := Lib.hid hst
      have HF := Lib.hid hff
      clear hst hff
      cases hm : outOf c x with
      | true =>
        have HM := Lib.hid hm
        clear hm
        go_wp2_with fail
        (go_at_call 83; refine (impl_MarksOk1 x c ao1 cap1 n1 q _ HN1.out (by simp [go_sem]; omega) ((Grew.ext _ _).cell HQC.out)).mono ?_; rintro e w' ⟨rfl, hb⟩; obtain ⟨X, rfl⟩ := hb.ext; clear hb)
        rw [HM.out]
        go_wp2
        go_ret
        exact ⟨by rw [HF.out HA.out HM.out]; rfl, (by repeat (first | with_reducible exact Below.refl _ _ | with_reducible apply Below.ofExt | with_reducible apply Below.ofAlloc | with_reducible apply Below.drew | with_reducible apply Below.ofDrewN | with_reducible assumption | (with_reducible refine Below.setCell ?_ (by first | exact Nat.le_refl _ | (simp [go_sem]; done) | (simp [go_sem]; omega)) _)))⟩
      | false =>
        have HM := Lib.hid hm
        clear hm
        go_wp2_with fail
        (go_at_call 83; refine (impl_MarksOk1 x c ao1 cap1 n1 q _ HN1.out (by simp [go_sem]; omega) ((Grew.ext _ _).cell HQC.out)).mono ?_; rintro e w' ⟨rfl, hb⟩; obtain ⟨X, rfl⟩ := hb.ext; clear hb)
        rw [HM.out]
        go_wp2
        go_roundw
        case rel => exact ⟨n + 1, by go_num, by omega, (by repeat (first | with_reducible exact Below.refl _ _ | with_reducible apply Below.ofExt | with_reducible apply Below.ofAlloc | with_reducible apply Below.drew | with_reducible apply Below.ofDrewN | with_reducible assumption | (with_reducible refine Below.setCell ?_ (by first | exact Nat.le_refl _ | (simp [go_sem]; done) | (simp [go_sem]; omega)) _))), by rw [HT.out, HA.out, HM.out]; rfl⟩
        case measure => simp [intOf]; omega
    · go_wp2
      go_ret
      have e : n = xs.length := by omega
      subst e
      have ha := HA.out
      rw [List.take_length] at ha
      exact ⟨by rw [firstIdx_none (outOf c) xs ha]; rfl, (by repeat (first | with_reducible exact Below.refl _ _ | with_reducible apply Below.ofExt | with_reducible apply Below.ofAlloc | with_reducible apply Below.drew | with_reducible apply Below.ofDrewN | with_reducible assumption | (with_reducible refine Below.setCell ?_ (by first | exact Nat.le_refl _ | (simp [go_sem]; done) | (simp [go_sem]; omega)) _)))⟩
theorem marks_ContainsFunc (v : Value) (xs : List Int) (c : Int) (ao1 : Option Addr) (cap1 n1 q : Nat) (w : World) {e : TypeId} (hs : (vSlice vInt e).rd w [v] xs) (hn1 : (n1 : Int) = c) (hq : q < w.heap.size) (hqc : w.cell? ⟨q, 4, none⟩ = some (.slice ao1 n1 cap1)) :
    Calls Try.prog 82 #[v, .func (Fn.func 83) #[] #[.pointer (some ⟨q, 0, none⟩)]] w fun e w' => e = .returned (.bool (xs.any (outOf c))) ∧ Below w.heap.size w w' := by
  have hg := firstIdx_ge (outOf c) xs
  have HG := Lib.hid hg
  obtain ⟨a0, c0, rfl⟩ := vSlice.form hs
  have HS := Lib.hid hs
  have HQC := Lib.hid hqc
  have HN1 := Lib.hid hn1
  clear hg hs hqc hn1
  go_enter Try.func82, Try.ntmps82
  go_wp2_with fail
  (go_at_call 121; refine (marks_IndexFunc _ xs c ao1 cap1 n1 q _ HS.out HN1.out hq HQC.out).mono ?_; rintro e w' ⟨rfl, hb⟩; obtain ⟨X, rfl⟩ := hb.ext; clear hb)
  go_wp2
  go_ret
  exact ⟨by rw [← HG.out]; rfl, (by repeat (first | with_reducible exact Below.refl _ _ | with_reducible apply Below.ofExt | with_reducible apply Below.ofAlloc | with_reducible apply Below.drew | with_reducible apply Below.ofDrewN | with_reducible assumption | (with_reducible refine Below.setCell ?_ (by first | exact Nat.le_refl _ | (simp [go_sem]; done) | (simp [go_sem]; omega)) _)))⟩
def marksOk (d : TxD) : Bool := decide ((d.marks.length : Int) ≤ 4) && (sorted d.marks && !d.marks.any (outOf d.calls.length))
theorem impl_MarksOk (cs : List Value) (d : TxD) (w : World) (hs : vTx.rd w cs d) :
    Calls Try.prog 30 #[.agg cs.toArray] w fun e w' => e = .returned (.bool (marksOk d)) ∧ Below w.heap.size w w' := by
  obtain ⟨s0, s1, s2, s3, s4, rfl, h0, h1, h2, h3, h4⟩ := hs
  obtain ⟨a0, c0, rfl⟩ := vSlice.form h0
  obtain ⟨a1, c1, rfl⟩ := vSlice.form h1
  obtain ⟨a2, c2, rfl⟩ := vSlice.form h2
  obtain ⟨a3, c3, rfl⟩ := vSlice.form h3
  obtain ⟨a4, c4, rfl⟩ := vSlice.form h4
  have H4 := Lib.hid h4
  clear h0 h1 h2 h3 h4
  have hq : marksOk d = marksOk d := rfl
  conv at hq => rhs; unfold marksOk
  by_cases f1 : (d.marks.length : Int) ≤ 4
  case neg =>
    rw [decide_eq_false f1, Bool.false_and] at hq
    rw [hq]
    clear hq
    go_enter Try.func30, Try.ntmps30
    go_wp2
    go_ret
    exact ⟨rfl, (by repeat (first | with_reducible exact Below.refl _ _ | with_reducible apply Below.ofExt | with_reducible apply Below.ofAlloc | with_reducible apply Below.drew | with_reducible apply Below.ofDrewN | with_reducible assumption | (with_reducible refine Below.setCell ?_ (by first | exact Nat.le_refl _ | (simp [go_sem]; done) | (simp [go_sem]; omega)) _)))⟩
  rw [decide_eq_true f1, Bool.true_and] at hq
  cases hs : sorted d.marks with
  | false =>
    rw [hs, Bool.false_and] at hq
    rw [hq]
    have HS := Lib.hid hs
    clear hq hs
    go_enter Try.func30, Try.ntmps30
    go_wp2_with fail
    (go_at_call 81; refine (ints_IsSorted _ d.marks _ (by (try simp only [← Array.append_assoc]); (repeat (first | with_reducible exact H4.out | with_reducible apply View.rdMerge | with_reducible apply View.rdExt | with_reducible apply View.rdAlloc | with_reducible apply View.rdDrew | with_reducible apply View.rdDrewN)); all_goals exact (0 : Nat))).mono ?_; rintro e w' ⟨rfl, hb⟩; obtain ⟨X, rfl⟩ := hb.ext; clear hb)
    rw [HS.out]
    go_wp2
    go_ret
    exact ⟨rfl, (by repeat (first | with_reducible exact Below.refl _ _ | with_reducible apply Below.ofExt | with_reducible apply Below.ofAlloc | with_reducible apply Below.drew | with_reducible apply Below.ofDrewN | with_reducible assumption | (with_reducible refine Below.setCell ?_ (by first | exact Nat.le_refl _ | (simp [go_sem]; done) | (simp [go_sem]; omega)) _)))⟩
  | true =>
    rw [hs, Bool.true_and] at hq
    rw [hq]
    have HS := Lib.hid hs
    clear hq hs
    go_enter Try.func30, Try.ntmps30
    go_wp2_with fail
    (go_at_call 81; refine (ints_IsSorted _ d.marks _ (by (try simp only [← Array.append_assoc]); (repeat (first | with_reducible exact H4.out | with_reducible apply View.rdMerge | with_reducible apply View.rdExt | with_reducible apply View.rdAlloc | with_reducible apply View.rdDrew | with_reducible apply View.rdDrewN)); all_goals exact (0 : Nat))).mono ?_; rintro e w' ⟨rfl, hb⟩; obtain ⟨X, rfl⟩ := hb.ext; clear hb)
    rw [HS.out]
    go_wp2_with fail
    (go_at_call 82; refine (marks_ContainsFunc _ d.marks d.calls.length a0 c0 d.calls.length _ _ (by (try simp only [← Array.append_assoc]); (repeat (first | with_reducible exact H4.out | with_reducible apply View.rdMerge | with_reducible apply View.rdExt | with_reducible apply View.rdAlloc | with_reducible apply View.rdDrew | with_reducible apply View.rdDrewN)); all_goals exact (0 : Nat)) rfl (by simp [go_sem]) (by simp [go_sem])).mono ?_; rintro e w' ⟨rfl, hb⟩; obtain ⟨X, rfl⟩ := hb.ext; clear hb)
    go_wp2
    go_ret
    exact ⟨rfl, (by repeat (first | with_reducible exact Below.refl _ _ | with_reducible apply Below.ofExt | with_reducible apply Below.ofAlloc | with_reducible apply Below.drew | with_reducible apply Below.ofDrewN | with_reducible assumption | (with_reducible refine Below.setCell ?_ (by first | exact Nat.le_refl _ | (simp [go_sem]; done) | (simp [go_sem]; omega)) _)))⟩
def mUp (m : List Int) (c : Int) : Nat → Bool
  | 0 => true
  | n + 1 => mUp m c n && match m[n]? with
    | none => true
    | some x => inB x 0 c && pairOk m n
theorem mUp_step (m : List Int) (c : Int) (n : Nat) (h : n < m.length) : mUp m c (n + 1) = (mUp m c n && (inB m[n] 0 c && pairOk m n)) := by
  conv => lhs; unfold mUp
  rw [List.getElem?_eq_getElem h]
theorem mUp_all (m : List Int) (c : Int) : ∀ n, n ≤ m.length → mUp m c n = ((List.range n).all (pairOk m) && !(m.take n).any (outOf c))
  | 0, _ => rfl
  | n + 1, h => by
    have hn : n < m.length := by omega
    rw [mUp_step m c n hn, mUp_all m c n (by omega), List.range_succ, List.all_append, List.take_succ_eq_append_getElem hn, List.any_append]
    have : outOf c m[n] = !inB m[n] 0 c := rfl
    simp only [List.all_cons, List.all_nil, Bool.and_true, List.any_cons, List.any_nil, Bool.or_false, this]
    cases (List.range n).all (pairOk m) <;> cases (m.take n).any (outOf c) <;> cases inB m[n] 0 c <;> cases pairOk m n <;> rfl
theorem marksOk_up (d : TxD) : marksOk d = (decide ((d.marks.length : Int) ≤ 4) && mUp d.marks d.calls.length d.marks.length) := by
  rw [mUp_all _ _ _ (Nat.le_refl _), List.take_length]
  rfl
theorem mUp_mono (m : List Int) (c : Int) : ∀ (k n : Nat), mUp m c n = false → mUp m c (n + k) = false
  | 0, _, h => h
  | k + 1, n, h => by
    rw [← Nat.add_assoc]
    unfold mUp
    rw [mUp_mono m c k n h]
    rfl
theorem marksOk_no (d : TxD) (n : Nat) (hl : n ≤ d.marks.length) (h : mUp d.marks d.calls.length n = false) : marksOk d = false := by
  rw [marksOk_up]
  have := mUp_mono d.marks d.calls.length (d.marks.length - n) n h
  rw [show n + (d.marks.length - n) = d.marks.length by omega] at this
  rw [this, Bool.and_false]
end Go.Proofs.Ytefenfglkfdoaaa
