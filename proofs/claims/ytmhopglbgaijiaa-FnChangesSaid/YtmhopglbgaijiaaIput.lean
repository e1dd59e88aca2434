/- put, in place: the program's and the reference's. Each condition stands in its theorem. -/
import Derived.Test.YtmhopglbgaijiaaCins
set_option linter.unusedVariables false
set_option linter.unusedSimpArgs false
namespace Go.Proofs.Ytmhopglbgaijiaa
open Go.ChangeShapes Go.WideShapes Go.ChangeAt Go.RowKit

theorem insC_at (key val : ByteArray) (ys : List CellD) (n : Nat) (hn : n < ys.length) (h : (ys.take n).any (gtKey key) = false) (h2 : gtKey key ys[n] = true) : insC key val ys = ys.take n ++ CellD.mk key val :: ys.drop n := by
  unfold insC
  have e : ys = ys.take n ++ ys[n] :: ys.drop (n + 1) := by rw [← List.drop_eq_getElem_cons hn, List.take_append_drop]
  have ha : ∀ x ∈ ys.take n, (!gtKey key x) = true := fun x hx => by
    rw [List.any_eq_false] at h
    simpa using h x hx
  have e1 : (ys.takeWhile fun c => !gtKey key c) = ys.take n := by
    conv => lhs; rw [e]
    rw [List.takeWhile_append_of_pos ha, List.takeWhile_cons, h2, Bool.not_true, if_neg (by decide), List.append_nil]
  have e2 : (ys.dropWhile fun c => !gtKey key c) = ys.drop n := by
    conv => lhs; rw [e]
    rw [List.dropWhile_append_of_pos ha, List.dropWhile_cons, h2, Bool.not_true, if_neg (by decide)]
    exact (List.drop_eq_getElem_cons hn).symm
  rw [e1, e2]
set_option maxRecDepth 100000 in
set_option maxHeartbeats 4000000 in
theorem impl_put (v : Value) (ds : List CellD) (key val : ByteArray) (B : Nat) (w : World) (ho : OwnL rCell 53 w B v ds) (hks : key.size ≤ 9223372036854775807) (hl : ds.length ≤ 4194304) (hB : B ≤ w.heap.size) :
    Calls Try.prog 48 #[v, .string key, .string val] w fun e w' => ∃ v', e = .returned v' ∧ OwnL rCell 53 w' B v' (putC key val ds) ∧ Upon v.ownBlock.toList w w' := by
  obtain ⟨ao, cap, rfl⟩ := ho.rd.form
  have HO := Lib.hid ho
  have HSB := Lib.hid hB
  have hnb : (Value.slice ao ds.length cap).ownBlock ≠ some w.heap.size := fun e => absurd (ho.lt _ e).2 (Nat.lt_irrefl _)
  clear ho hB
  have hwl := without_len key ds
  cases hk0 : keyOk key with
  | false =>
    have HK0 := Lib.hid hk0
    have HF : Hid (putC key val ds = ds) := by show _ = _; unfold putC; rw [if_pos (.inl hk0)]
    clear hk0
    go_enter Try.func48, Try.ntmps48
    go_wp2_with fail
    (go_at_call 74; refine (impl_KeyOk key _ hks).mono ?_; rintro e w' ⟨rfl, rfl⟩)
    rw [HK0.out]
    go_wp2
    go_ret
    exact ⟨_, rfl, by rw [HF.out]; exact HO.out.alloc _, Upon.below (by repeat (first | with_reducible exact Below.refl _ _ | with_reducible apply Below.ofExt | with_reducible apply Below.ofAlloc | with_reducible apply Below.drew | with_reducible apply Below.ofDrewN | with_reducible assumption | (with_reducible refine Below.setCell ?_ (by first | exact Nat.le_refl _ | (simp [go_sem]; done) | (simp [go_sem]; omega)) _)))⟩
  | true =>
    have HK0 := Lib.hid hk0
    clear hk0
    by_cases hv60 : (60 : Int) < val.size
    case pos =>
      have HF : Hid (putC key val ds = ds) := by show _ = _; unfold putC; rw [if_pos (.inr (by omega))]
      go_enter Try.func48, Try.ntmps48
      go_wp2_with fail
      (go_at_call 74; refine (impl_KeyOk key _ hks).mono ?_; rintro e w' ⟨rfl, rfl⟩)
      rw [HK0.out]
      go_wp2
      go_ret
      exact ⟨_, rfl, by rw [HF.out]; exact HO.out.alloc _, Upon.below (by repeat (first | with_reducible exact Below.refl _ _ | with_reducible apply Below.ofExt | with_reducible apply Below.ofAlloc | with_reducible apply Below.drew | with_reducible apply Below.ofDrewN | with_reducible assumption | (with_reducible refine Below.setCell ?_ (by first | exact Nat.le_refl _ | (simp [go_sem]; done) | (simp [go_sem]; omega)) _)))⟩
    case neg =>
      by_cases hv : val.size = 0
      case pos =>
        obtain rfl : val = ⟨#[]⟩ := by
          obtain ⟨⟨l⟩⟩ := val
          have : l = [] := List.eq_nil_of_length_eq_zero hv
          subst this
          rfl
        have HF : Hid (putC key ⟨#[]⟩ ds = without key ds) := by show _ = _; unfold putC; rw [if_neg (fun h => h.elim (fun h => by rw [HK0.out] at h; cases h) (fun h => absurd h (by decide))), if_pos hv]
        go_enter Try.func48, Try.ntmps48
        go_wp2_with fail
        (go_at_call 74; refine (impl_KeyOk key _ hks).mono ?_; rintro e w' ⟨rfl, rfl⟩)
        rw [HK0.out]
        go_wp2_with fail
        (go_at_call 75; refine (cells_DeleteFunc _ ds key w.heap.size B (w.alloc (.cells #[.string key] 9)) (HO.out.alloc _) (by simp) hnb (by simp [go_sem])).mono ?_; rintro e w1 ⟨v1, rfl, ho1, hob1, hu1⟩)
        obtain ⟨ao1, ac1, e1⟩ := ho1.rd.form
        have hlt1 : w.heap.size < w1.heap.size := Nat.lt_of_lt_of_le (by simp) hu1.size
        have hc1 : w1.cell? ⟨w.heap.size, 0, none⟩ = some (.string key) := by
          have hq : w1.heap[w.heap.size]? = some (.cells #[.string key] 9) := (hu1.block _ (by simp) (fun h => hnb (by simpa using h))).trans (alloc_new w _ _ rfl)
          exact (World.cell?_of_get hq).trans rfl
        have HO1 := Lib.hid ho1
        have HU1 := Lib.hid (Upon.trans (Upon.below ((Below.refl w.heap.size w).ofAlloc (.cells #[.string key] 9))) hu1)
        have HOB := Lib.hid hob1
        clear ho1 hu1 hob1
        subst e1
        go_wp2
        go_ret
        exact ⟨_, rfl, by rw [HF.out]; exact HO1.out, HU1.out⟩
      case neg =>
        have hve : (val.toList == []) = false := by
          obtain ⟨⟨l⟩⟩ := val
          cases l with
          | nil => exact absurd rfl hv
          | cons a l => exact beq_false_of_ne (by rw [show (ByteArray.mk ⟨a :: l⟩).toList = _ from ByteArray.toList_eq _]; exact List.cons_ne_nil _ _)
        have hp : putC key val ds = insC key val (without key ds) := by unfold putC; rw [if_neg (fun h => h.elim (fun h => by rw [HK0.out] at h; cases h) (fun h => absurd h (by omega))), if_neg hv]
        cases hany : (without key ds).any (gtKey key) with
        | false =>
          have HI : Hid (firstIdx (gtKey key) (without key ds) = -1) := firstIdx_none _ _ hany
          have HF : Hid (putC key val ds = (without key ds).take (without key ds).length ++ CellD.mk key val :: (without key ds).drop (without key ds).length) := by show _ = _; rw [hp, insC_none hany, List.take_length, List.drop_length]
          clear hany hp
          go_enter Try.func48, Try.ntmps48
          go_wp2_with fail
          (go_at_call 74; refine (impl_KeyOk key _ hks).mono ?_; rintro e w' ⟨rfl, rfl⟩)
          rw [HK0.out]
          go_wp2_with fail
          (go_at_call 75; refine (cells_DeleteFunc _ ds key w.heap.size B (w.alloc (.cells #[.string key] 9)) (HO.out.alloc _) (by simp) hnb (by simp [go_sem])).mono ?_; rintro e w1 ⟨v1, rfl, ho1, hob1, hu1⟩)
          obtain ⟨ao1, ac1, e1⟩ := ho1.rd.form
          have hlt1 : w.heap.size < w1.heap.size := Nat.lt_of_lt_of_le (by simp) hu1.size
          have hc1 : w1.cell? ⟨w.heap.size, 0, none⟩ = some (.string key) := by
            have hq : w1.heap[w.heap.size]? = some (.cells #[.string key] 9) := (hu1.block _ (by simp) (fun h => hnb (by simpa using h))).trans (alloc_new w _ _ rfl)
            exact (World.cell?_of_get hq).trans rfl
          have HO1 := Lib.hid ho1
          have HU1 := Lib.hid (Upon.trans (Upon.below ((Below.refl w.heap.size w).ofAlloc (.cells #[.string key] 9))) hu1)
          have HOB := Lib.hid hob1
          clear ho1 hu1 hob1
          subst e1
          go_wp2_with fail
          (go_at_call 77; refine (cells_IndexFunc2 _ (without key ds) key w.heap.size _ HO1.out.rd hlt1 hc1).mono ?_; rintro e w' ⟨rfl, hb⟩; obtain ⟨X, rfl⟩ := hb.ext; clear hb)
          rw [HI.out]
          go_wp2_with fail
          (go_at_call 79; refine (cells_Insert _ (without key ds) (without key ds).length (CellD.mk key val) _ B _ (by repeat (first | exact HO1.out | exact OwnL.ext HO1.out _ | apply OwnL.alloc | apply OwnL.ext)) (by omega) (alloc_new _ _ _ (by simp [World.ext_size])) (fun e => by rw [HOB.out] at e; have := (HO.out.lt _ e).2; (try simp [World.ext_size] at this); omega) (by omega) (by simp [World.ext_size]; have := HSB.out; omega)).mono ?_; rintro e w2 ⟨v2, rfl, ho2, hu2⟩)
          have HO2 := Lib.hid ho2
          rw [HOB.out] at hu2
          have hut : Upon (Value.slice ao ds.length cap).ownBlock.toList w w2 := by
            refine Upon.trans (Upon.trans HU1.out (Upon.below ?_)) hu2
            exact (by repeat (first | with_reducible exact Below.refl _ _ | with_reducible apply Below.ofExt | with_reducible apply Below.ofAlloc | with_reducible apply Below.drew | with_reducible apply Below.ofDrewN | with_reducible assumption | (with_reducible refine Below.setCell ?_ (by first | exact Nat.le_refl _ | (simp [go_sem]; done) | (simp [go_sem]; omega)) _)))
          have HU2 := Lib.hid hut
          clear ho2 hu2 hut
          go_wp2
          go_ret
          exact ⟨_, rfl, by rw [HF.out]; exact HO2.out, HU2.out⟩
        | true =>
          obtain ⟨n, hn, hbef, hat⟩ := any_first _ _ hany
          have HI : Hid (firstIdx (gtKey key) (without key ds) = n) := firstIdx_found _ _ n hn hbef hat
          have HF : Hid (putC key val ds = (without key ds).take n ++ CellD.mk key val :: (without key ds).drop n) := by show _ = _; rw [hp, insC_at key val _ n hn hbef hat]
          clear hany hp hbef hat
          go_enter Try.func48, Try.ntmps48
          go_wp2_with fail
          (go_at_call 74; refine (impl_KeyOk key _ hks).mono ?_; rintro e w' ⟨rfl, rfl⟩)
          rw [HK0.out]
          go_wp2_with fail
          (go_at_call 75; refine (cells_DeleteFunc _ ds key w.heap.size B (w.alloc (.cells #[.string key] 9)) (HO.out.alloc _) (by simp) hnb (by simp [go_sem])).mono ?_; rintro e w1 ⟨v1, rfl, ho1, hob1, hu1⟩)
          obtain ⟨ao1, ac1, e1⟩ := ho1.rd.form
          have hlt1 : w.heap.size < w1.heap.size := Nat.lt_of_lt_of_le (by simp) hu1.size
          have hc1 : w1.cell? ⟨w.heap.size, 0, none⟩ = some (.string key) := by
            have hq : w1.heap[w.heap.size]? = some (.cells #[.string key] 9) := (hu1.block _ (by simp) (fun h => hnb (by simpa using h))).trans (alloc_new w _ _ rfl)
            exact (World.cell?_of_get hq).trans rfl
          have HO1 := Lib.hid ho1
          have HU1 := Lib.hid (Upon.trans (Upon.below ((Below.refl w.heap.size w).ofAlloc (.cells #[.string key] 9))) hu1)
          have HOB := Lib.hid hob1
          clear ho1 hu1 hob1
          subst e1
          go_wp2_with fail
          (go_at_call 77; refine (cells_IndexFunc2 _ (without key ds) key w.heap.size _ HO1.out.rd hlt1 hc1).mono ?_; rintro e w' ⟨rfl, hb⟩; obtain ⟨X, rfl⟩ := hb.ext; clear hb)
          rw [HI.out]
          go_wp2_with fail
          (go_at_call 79; refine (cells_Insert _ (without key ds) n (CellD.mk key val) _ B _ (by repeat (first | exact HO1.out | exact OwnL.ext HO1.out _ | apply OwnL.alloc | apply OwnL.ext)) (by omega) (alloc_new _ _ _ (by simp [World.ext_size])) (fun e => by rw [HOB.out] at e; have := (HO.out.lt _ e).2; (try simp [World.ext_size] at this); omega) (by omega) (by simp [World.ext_size]; have := HSB.out; omega)).mono ?_; rintro e w2 ⟨v2, rfl, ho2, hu2⟩)
          have HO2 := Lib.hid ho2
          rw [HOB.out] at hu2
          have hut : Upon (Value.slice ao ds.length cap).ownBlock.toList w w2 := by
            refine Upon.trans (Upon.trans HU1.out (Upon.below ?_)) hu2
            exact (by repeat (first | with_reducible exact Below.refl _ _ | with_reducible apply Below.ofExt | with_reducible apply Below.ofAlloc | with_reducible apply Below.drew | with_reducible apply Below.ofDrewN | with_reducible assumption | (with_reducible refine Below.setCell ?_ (by first | exact Nat.le_refl _ | (simp [go_sem]; done) | (simp [go_sem]; omega)) _)))
          have HU2 := Lib.hid hut
          clear ho2 hu2 hut
          go_wp2
          go_ret
          exact ⟨_, rfl, by rw [HF.out]; exact HO2.out, HU2.out⟩
end Go.Proofs.Ytmhopglbgaijiaa
