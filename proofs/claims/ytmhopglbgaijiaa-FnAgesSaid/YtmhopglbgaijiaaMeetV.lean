/- Do spans of two lists meet; do two access sets clash: the program's and the reference's. Each condition stands in its theorem. -/
import Derived.Test.YtmhopglbgaijiaaSpan
import Derived.Test.YtmhopglbgaijiaaCTouch
import Derived.Test.YtmhopglbgaijiaaFirst
set_option linter.unusedVariables false
set_option linter.unusedSimpArgs false
namespace Go.Proofs.Ytmhopglbgaijiaa
open Go.ChangeShapes Go.WideShapes Go.ChangeAt Go.RowKit

structure TouchOk (d : TouchD) : Prop where
  r : ∀ s ∈ d.reads, s.size ≤ maxLen
  w : ∀ s ∈ d.writes, s.size ≤ maxLen
theorem vStrs_ok {v : Value} {xs : List ByteArray} {w : World} {e : TypeId} (h : (vSlice vStr e).rd w [v] xs) : ∀ s ∈ xs, s.size ≤ maxLen := by
  obtain ⟨_, _, _, _, _, _, _, h⟩ := vStr_shape h
  exact h
theorem vTouch_ok {cs : List Value} {d : TouchD} {w : World} (h : vTouch.rd w cs d) : TouchOk d := by
  obtain ⟨_, _, _, h0, h1⟩ := h
  exact ⟨vStrs_ok h0, vStrs_ok h1⟩
def meetAny (xs ys : List ByteArray) : Bool := xs.any fun x => ys.any fun y => spansMeet x y
theorem impl_MeetAny1 (b : Nat) (x y : ByteArray) (w : World) (hx : x.size ≤ maxLen) (hy : y.size ≤ maxLen) (hb : w.cell? ⟨b, 0, none⟩ = some (.string x)) :
    Calls Try.prog 92 #[.string y, .pointer (some ⟨b, 0, none⟩)] w fun e w' => e = .returned (.bool (spansMeet x y)) ∧ w = w' := by
  go_enter Try.func92, Try.ntmps92
  go_wp2_with fail
  (go_at_call 93; refine (impl_SpansMeet x y _ hx hy).mono ?_; rintro e w' ⟨rfl, rfl⟩)
  go_wp2
  go_ret
  exact ⟨rfl, rfl⟩
theorem strs_IndexFunc (v : Value) (ys : List ByteArray) (c : Nat) (x : ByteArray) (w : World) (hs : (vSlice vStr 9).rd w [v] ys) (hx : x.size ≤ maxLen) (hz : ∀ s ∈ ys, s.size ≤ maxLen) (hcl : c < w.heap.size) (hc : w.cell? ⟨c, 0, none⟩ = some (.string x)) :
    Calls Try.prog 99 #[v, .func (Fn.func 92) #[] #[.pointer (some ⟨c, 0, none⟩)]] w fun e w' => ∃ r : Int, e = .returned (.int .i64 r) ∧ (decide (0 ≤ r) = ys.any fun y => spansMeet x y) ∧ Below w.heap.size w w' := by
  obtain ⟨ao, cap, rfl, hc1, hc2, hnil, hcell, _⟩ := vStr_shape hs
  have HX := Lib.hid hcell
  have HZ := Lib.hid hz
  clear hcell hs hnil hz
  unfold maxLen at hc2
  go_enter Try.func99, Try.ntmps99
  go_wp2
  go_loopw [8] (fun k wr => ∃ (n : Nat) (X : Ext), k = .int .i64 n ∧ n ≤ ys.length ∧ wr = w.ext X ∧ (ys.take n).any (fun y => spansMeet x y) = false) (fun k _ => ys.length - (intOf k).toNat)
  case atStart => exact ⟨0, ⟨#[], _⟩, rfl, by omega, (World.ext_nil _ _ rfl).symm, rfl⟩
  case round =>
    obtain ⟨n, X, rfl, hn, rfl, hany⟩ := hrel
    have HA := Lib.hid hany
    clear hany
    by_cases hlt : (n : Int) < ys.length
    · have hk : n < ys.length := by omega
      obtain ⟨b, off, rfl, hbl, hcell⟩ := HX.out (by intro e; simp [e] at hk)
      have hcc := hcell n hk
      have hstep := any_take_step (fun y => spansMeet x y) ys n hk
      have hyz := HZ.out _ (List.getElem_mem hk)
      generalize ys[n] = y at hcc hstep hyz
      have HT := Lib.hid hstep
      clear hcell hstep
      cases hm : spansMeet x y with
      | true =>
        go_wp2_with fail
        (go_at_call 92; refine (impl_MeetAny1 c x y _ hx hyz (by simp [go_sem, hcl, hc])).mono ?_; rintro e w' ⟨rfl, rfl⟩)
        rw [hm]
        go_wp2
        go_ret
        refine ⟨n, rfl, ?_, (by repeat (first | with_reducible exact Below.refl _ _ | with_reducible apply Below.ofExt | with_reducible apply Below.ofAlloc | with_reducible apply Below.drew | with_reducible apply Below.ofDrewN | with_reducible assumption | (with_reducible refine Below.setCell ?_ (by first | exact Nat.le_refl _ | (simp [go_sem]; done) | (simp [go_sem]; omega)) _)))⟩
        rw [any_take_true _ ys (n + 1) (by rw [HT.out, hm, Bool.or_true])]
        simp
      | false =>
        go_wp2_with fail
        (go_at_call 92; refine (impl_MeetAny1 c x y _ hx hyz (by simp [go_sem, hcl, hc])).mono ?_; rintro e w' ⟨rfl, rfl⟩)
        rw [hm]
        go_wp2
        go_roundw
        case rel => exact ⟨n + 1, _, by go_num, by omega, rfl, by rw [HT.out, HA.out, hm]; rfl⟩
        case measure => simp [intOf]; omega
    · go_wp2
      go_ret
      have e : n = ys.length := by omega
      subst e
      have ha := HA.out
      rw [List.take_length] at ha
      refine ⟨-1, rfl, ?_, (by repeat (first | with_reducible exact Below.refl _ _ | with_reducible apply Below.ofExt | with_reducible apply Below.ofAlloc | with_reducible apply Below.drew | with_reducible apply Below.ofDrewN | with_reducible assumption | (with_reducible refine Below.setCell ?_ (by first | exact Nat.le_refl _ | (simp [go_sem]; done) | (simp [go_sem]; omega)) _)))⟩
      rw [ha]
      rfl
theorem strs_ContainsFunc (v : Value) (ys : List ByteArray) (c : Nat) (x : ByteArray) (w : World) (hs : (vSlice vStr 9).rd w [v] ys) (hx : x.size ≤ maxLen) (hz : ∀ s ∈ ys, s.size ≤ maxLen) (hcl : c < w.heap.size) (hc : w.cell? ⟨c, 0, none⟩ = some (.string x)) :
    Calls Try.prog 91 #[v, .func (Fn.func 92) #[] #[.pointer (some ⟨c, 0, none⟩)]] w fun e w' => e = .returned (.bool (ys.any fun y => spansMeet x y)) ∧ Below w.heap.size w w' := by
  go_enter Try.func91, Try.ntmps91
  go_wp2_with fail
  (go_at_call 99; refine (strs_IndexFunc v ys c x _ hs hx hz hcl hc).mono ?_; rintro e w' ⟨r, rfl, hr, hb⟩; obtain ⟨X, rfl⟩ := hb.ext; clear hb)
  go_wp2
  go_ret
  exact ⟨by rw [← hr]; rfl, (by repeat (first | with_reducible exact Below.refl _ _ | with_reducible apply Below.ofExt | with_reducible apply Below.ofAlloc | with_reducible apply Below.drew | with_reducible apply Below.ofDrewN | with_reducible assumption | (with_reducible refine Below.setCell ?_ (by first | exact Nat.le_refl _ | (simp [go_sem]; done) | (simp [go_sem]; omega)) _)))⟩
theorem impl_MeetAny (v v' : Value) (xs ys : List ByteArray) (w : World) (hs : (vSlice vStr 9).rd w [v] xs) (hs' : (vSlice vStr 9).rd w [v'] ys) (hz : ∀ s ∈ xs, s.size ≤ maxLen) (hz' : ∀ s ∈ ys, s.size ≤ maxLen) :
    Calls Try.prog 82 #[v, v'] w fun e w' => e = .returned (.bool (meetAny xs ys)) ∧ Below w.heap.size w w' := by
  obtain ⟨ao, cap, rfl, hc1, hc2, hnil, hcell, _⟩ := vStr_shape hs
  have HX := Lib.hid hcell
  have HZ := Lib.hid hz
  have HZ' := Lib.hid hz'
  have HS' := Lib.hid hs'
  clear hcell hs hnil hz hz' hs'
  unfold maxLen at hc2
  go_enter Try.func82, Try.ntmps82
  go_wp2
  go_loopw [9] (fun k wr => ∃ (n : Nat), k = .int .i64 n ∧ n ≤ xs.length ∧ Below w.heap.size w wr ∧ (xs.take n).any (fun x => ys.any fun y => spansMeet x y) = false) (fun k _ => xs.length - (intOf k).toNat)
  case atStart => exact ⟨0, rfl, by omega, (by repeat (first | with_reducible exact Below.refl _ _ | with_reducible apply Below.ofExt | with_reducible apply Below.ofAlloc | with_reducible apply Below.drew | with_reducible apply Below.ofDrewN | with_reducible assumption | (with_reducible refine Below.setCell ?_ (by first | exact Nat.le_refl _ | (simp [go_sem]; done) | (simp [go_sem]; omega)) _))), rfl⟩
  case round =>
    obtain ⟨n, rfl, hn, hbel, hany⟩ := hrel
    obtain ⟨X, rfl⟩ := hbel.ext
    have HA := Lib.hid hany
    clear hany
    by_cases hlt : (n : Int) < xs.length
    · have hk : n < xs.length := by omega
      obtain ⟨b, off, rfl, hbl, hcell⟩ := HX.out (by intro e; simp [e] at hk)
      have hcc := hcell n hk
      have hstep := any_take_step (fun x => ys.any fun y => spansMeet x y) xs n hk
      have hyz := HZ.out _ (List.getElem_mem hk)
      generalize xs[n] = x at hcc hstep hyz
      have HT := Lib.hid hstep
      clear hcell hstep
      cases hm : ys.any fun y => spansMeet x y with
      | true =>
        go_wp2_with fail
        (go_at_call 91; refine (strs_ContainsFunc v' ys _ x _ (by (try simp only [← Array.append_assoc]); (repeat (first | with_reducible exact HS'.out | with_reducible apply View.rdMerge | with_reducible apply View.rdExt | with_reducible apply View.rdAlloc | with_reducible apply View.rdDrew | with_reducible apply View.rdDrewN)); all_goals exact (0 : Nat)) hyz HZ'.out (by simp [go_sem]) (by simp [go_sem])).mono ?_; rintro e w' ⟨rfl, hb⟩; obtain ⟨X, rfl⟩ := hb.ext; clear hb)
        rw [hm]
        go_wp2
        go_ret
        exact ⟨by unfold meetAny; rw [any_take_true _ xs (n + 1) (by rw [HT.out, hm, Bool.or_true])]; rfl, (by repeat (first | with_reducible exact Below.refl _ _ | with_reducible apply Below.ofExt | with_reducible apply Below.ofAlloc | with_reducible apply Below.drew | with_reducible apply Below.ofDrewN | with_reducible assumption | (with_reducible refine Below.setCell ?_ (by first | exact Nat.le_refl _ | (simp [go_sem]; done) | (simp [go_sem]; omega)) _)))⟩
      | false =>
        go_wp2_with fail
        (go_at_call 91; refine (strs_ContainsFunc v' ys _ x _ (by (try simp only [← Array.append_assoc]); (repeat (first | with_reducible exact HS'.out | with_reducible apply View.rdMerge | with_reducible apply View.rdExt | with_reducible apply View.rdAlloc | with_reducible apply View.rdDrew | with_reducible apply View.rdDrewN)); all_goals exact (0 : Nat)) hyz HZ'.out (by simp [go_sem]) (by simp [go_sem])).mono ?_; rintro e w' ⟨rfl, hb⟩; obtain ⟨X, rfl⟩ := hb.ext; clear hb)
        rw [hm]
        go_wp2
        go_roundw
        case rel =>
          exact ⟨n + 1, by go_num, by omega, (by repeat (first | with_reducible exact Below.refl _ _ | with_reducible apply Below.ofExt | with_reducible apply Below.ofAlloc | with_reducible apply Below.drew | with_reducible apply Below.ofDrewN | with_reducible assumption | (with_reducible refine Below.setCell ?_ (by first | exact Nat.le_refl _ | (simp [go_sem]; done) | (simp [go_sem]; omega)) _))), by rw [HT.out, HA.out, hm]; rfl⟩
        case measure => simp [intOf]; omega
    · go_wp2
      go_ret
      have e : n = xs.length := by omega
      subst e
      have ha := HA.out
      rw [List.take_length] at ha
      exact ⟨by unfold meetAny; rw [ha]; rfl, (by repeat (first | with_reducible exact Below.refl _ _ | with_reducible apply Below.ofExt | with_reducible apply Below.ofAlloc | with_reducible apply Below.drew | with_reducible apply Below.ofDrewN | with_reducible assumption | (with_reducible refine Below.setCell ?_ (by first | exact Nat.le_refl _ | (simp [go_sem]; done) | (simp [go_sem]; omega)) _)))⟩
set_option maxRecDepth 100000 in
theorem spec_MeetAny (v v' : Value) (xs ys : List ByteArray) (w : World) (hs : (vSlice vStr 9).rd w [v] xs) (hs' : (vSlice vStr 9).rd w [v'] ys) (hz : ∀ s ∈ xs, s.size ≤ maxLen) (hz' : ∀ s ∈ ys, s.size ≤ maxLen) :
    Calls Try.prog 83 #[v, v'] w fun e w' => e = .returned (.bool (meetAny xs ys)) ∧ Below w.heap.size w w' := by
  obtain ⟨ao, cap, rfl, hc1, hc2, hnil, hcell, _⟩ := vStr_shape hs
  obtain ⟨ao', cap', rfl, hc1', hc2', hnil', hcell', _⟩ := vStr_shape hs'
  have HX := Lib.hid hcell
  have HX' := Lib.hid hcell'
  have HZ := Lib.hid hz
  have HZ' := Lib.hid hz'
  clear hcell hs hnil hz hz' hs' hnil' hcell'
  unfold maxLen at hc2 hc2'
  go_enter Try.func83, Try.ntmps83
  go_wp2
  go_loopw [5] (fun k wr => ∃ (n : Nat), k = .int .i64 n ∧ n ≤ xs.length ∧ Below w.heap.size w wr ∧ (xs.take n).any (fun x => ys.any fun y => spansMeet x y) = false) (fun k _ => xs.length - (intOf k).toNat)
  case atStart => exact ⟨0, rfl, by omega, (by repeat (first | with_reducible exact Below.refl _ _ | with_reducible apply Below.ofExt | with_reducible apply Below.ofAlloc | with_reducible apply Below.drew | with_reducible apply Below.ofDrewN | with_reducible assumption | (with_reducible refine Below.setCell ?_ (by first | exact Nat.le_refl _ | (simp [go_sem]; done) | (simp [go_sem]; omega)) _))), rfl⟩
  case round =>
    obtain ⟨n, rfl, hn, hbel, hany⟩ := hrel
    obtain ⟨X, rfl⟩ := hbel.ext
    have HA := Lib.hid hany
    clear hany
    by_cases hlt : (n : Int) < xs.length
    · have hk : n < xs.length := by omega
      obtain ⟨b, off, rfl, hbl, hcell⟩ := HX.out (by intro e; simp [e] at hk)
      have hcc := hcell n hk
      have hstep := any_take_step (fun x => ys.any fun y => spansMeet x y) xs n hk
      have hxz := HZ.out _ (List.getElem_mem hk)
      generalize xs[n] = x at hcc hstep hxz
      have HT := Lib.hid hstep
      have HXZ := Lib.hid hxz
      clear hcell hstep hxz
      go_wp2
      go_loopw [6] (fun k wr => ∃ (m : Nat), k = .int .i64 m ∧ m ≤ ys.length ∧ Below w.heap.size w wr ∧ (ys.take m).any (fun y => spansMeet x y) = false) (fun k _ => ys.length - (intOf k).toNat)
      case atStart => exact ⟨0, rfl, by omega, (by repeat (first | with_reducible exact Below.refl _ _ | with_reducible apply Below.ofExt | with_reducible apply Below.ofAlloc | with_reducible apply Below.drew | with_reducible apply Below.ofDrewN | with_reducible assumption | (with_reducible refine Below.setCell ?_ (by first | exact Nat.le_refl _ | (simp [go_sem]; done) | (simp [go_sem]; omega)) _))), rfl⟩
      case round =>
        obtain ⟨m, rfl, hm, hbel2, hany2⟩ := hrel
        obtain ⟨Y, rfl⟩ := hbel2.ext
        have HA2 := Lib.hid hany2
        clear hany2
        by_cases hlt2 : (m : Int) < ys.length
        · have hk2 : m < ys.length := by omega
          obtain ⟨b', off', rfl, hbl', hcell'⟩ := HX'.out (by intro e; simp [e] at hk2)
          have hcc' := hcell' m hk2
          have hstep2 := any_take_step (fun y => spansMeet x y) ys m hk2
          have hyz := HZ'.out _ (List.getElem_mem hk2)
          generalize ys[m] = y at hcc' hstep2 hyz
          have HT2 := Lib.hid hstep2
          have HYZ := Lib.hid hyz
          clear hcell' hstep2 hyz
          cases hmt : spansMeet x y with
          | true =>
            go_wp2
            refine wp_region_ord [(0,true),(1,true),(2,true),(3,true),(4,true),(5,true),(6,true),(7,true),(8,false)] 9 (by kernel_rfl) (by kernel_rfl) ?_
            repeat (refine wpOrd_quiet rfl (fun K hK => ?_); go_simp; (try simp (disch := omega) only [IntWalk.i64_in]); refine hK _ ?_; clear hK K)
            refine wpOrd_grow rfl (fun K hK => ?_); go_simp; go_at_call 94; refine (spec_SpansMeet x y _ HXZ.out HYZ.out).mono ?_; rintro e w' ⟨rfl, rfl⟩; try go_simp; refine hK _ _ (by show Sx _ _; (try simp only [← Array.append_assoc]); repeat (first | with_reducible exact Sx.drew _ | with_reducible exact Sx.same _ _ _ _ | with_reducible exact ⟨_, rfl⟩ | with_reducible apply Sx.more | with_reducible apply Sx.ext | with_reducible apply Sx.alloc | with_reducible apply Sx.draw | with_reducible exact Sx.refl _)) ?_; clear hK K
            refine wpOrd_nil ?_
            go_wp2
            go_ret
            have h2 := any_take_true _ ys (m + 1) (by rw [HT2.out, hmt, Bool.or_true])
            exact ⟨by unfold meetAny; rw [any_take_true _ xs (n + 1) (by rw [HT.out, h2, Bool.or_true])]; rfl, (by repeat (first | with_reducible exact Below.refl _ _ | with_reducible apply Below.ofExt | with_reducible apply Below.ofAlloc | with_reducible apply Below.drew | with_reducible apply Below.ofDrewN | with_reducible assumption | (with_reducible refine Below.setCell ?_ (by first | exact Nat.le_refl _ | (simp [go_sem]; done) | (simp [go_sem]; omega)) _)))⟩
          | false =>
            go_wp2
            refine wp_region_ord [(0,true),(1,true),(2,true),(3,true),(4,true),(5,true),(6,true),(7,true),(8,false)] 9 (by kernel_rfl) (by kernel_rfl) ?_
            repeat (refine wpOrd_quiet rfl (fun K hK => ?_); go_simp; (try simp (disch := omega) only [IntWalk.i64_in]); refine hK _ ?_; clear hK K)
            refine wpOrd_grow rfl (fun K hK => ?_); go_simp; go_at_call 94; refine (spec_SpansMeet x y _ HXZ.out HYZ.out).mono ?_; rintro e w' ⟨rfl, rfl⟩; try go_simp; refine hK _ _ (by show Sx _ _; (try simp only [← Array.append_assoc]); repeat (first | with_reducible exact Sx.drew _ | with_reducible exact Sx.same _ _ _ _ | with_reducible exact ⟨_, rfl⟩ | with_reducible apply Sx.more | with_reducible apply Sx.ext | with_reducible apply Sx.alloc | with_reducible apply Sx.draw | with_reducible exact Sx.refl _)) ?_; clear hK K
            refine wpOrd_nil ?_
            go_wp2
            go_roundw
            case rel => exact ⟨m + 1, by go_num, by omega, (by repeat (first | with_reducible exact Below.refl _ _ | with_reducible apply Below.ofExt | with_reducible apply Below.ofAlloc | with_reducible apply Below.drew | with_reducible apply Below.ofDrewN | with_reducible assumption | (with_reducible refine Below.setCell ?_ (by first | exact Nat.le_refl _ | (simp [go_sem]; done) | (simp [go_sem]; omega)) _))), by rw [HT2.out, HA2.out, hmt]; rfl⟩
            case measure => simp [intOf]; omega
        · go_wp2
          go_roundw
          case rel =>
            have e : m = ys.length := by omega
            subst e
            have ha := HA2.out
            rw [List.take_length] at ha
            exact ⟨n + 1, by go_num, by omega, (by repeat (first | with_reducible exact Below.refl _ _ | with_reducible apply Below.ofExt | with_reducible apply Below.ofAlloc | with_reducible apply Below.drew | with_reducible apply Below.ofDrewN | with_reducible assumption | (with_reducible refine Below.setCell ?_ (by first | exact Nat.le_refl _ | (simp [go_sem]; done) | (simp [go_sem]; omega)) _))), by rw [HT.out, HA.out, ha]; rfl⟩
          case measure => simp [intOf]; omega
    · go_wp2
      go_ret
      have e : n = xs.length := by omega
      subst e
      have ha := HA.out
      rw [List.take_length] at ha
      exact ⟨by unfold meetAny; rw [ha]; rfl, (by repeat (first | with_reducible exact Below.refl _ _ | with_reducible apply Below.ofExt | with_reducible apply Below.ofAlloc | with_reducible apply Below.drew | with_reducible apply Below.ofDrewN | with_reducible assumption | (with_reducible refine Below.setCell ?_ (by first | exact Nat.le_refl _ | (simp [go_sem]; done) | (simp [go_sem]; omega)) _)))⟩
def clash (d e : TouchD) : Bool := meetAny d.writes e.reads || (meetAny d.writes e.writes || meetAny d.reads e.writes)
theorem meetAny_comm (xs ys : List ByteArray) : meetAny xs ys = meetAny ys xs := by
  unfold meetAny
  rw [Bool.eq_iff_iff]
  simp only [List.any_eq_true]
  constructor
  · rintro ⟨x, hx, y, hy, h⟩
    exact ⟨y, hy, x, hx, by rw [spansMeet_comm]; exact h⟩
  · rintro ⟨x, hx, y, hy, h⟩
    exact ⟨y, hy, x, hx, by rw [spansMeet_comm]; exact h⟩
theorem spec_Clash (cs : List Value) (d : TouchD) (cs' : List Value) (e : TouchD) (w : World) (hs : vTouch.rd w cs d) (hs' : vTouch.rd w cs' e) :
    Calls Try.prog 59 #[.agg cs.toArray, .agg cs'.toArray] w fun x w' => x = .returned (.bool (clash d e)) ∧ Below w.heap.size w w' := by
  have hd := vTouch_ok hs
  have he := vTouch_ok hs'
  obtain ⟨u1, u2, rfl, hu1, hu2⟩ := hs
  obtain ⟨v1, v2, rfl, hv1, hv2⟩ := hs'
  have HU1 := Lib.hid hu1
  have HU2 := Lib.hid hu2
  have HV1 := Lib.hid hv1
  have HV2 := Lib.hid hv2
  clear hu1 hu2 hv1 hv2
  cases h1 : meetAny d.writes e.reads with
  | true =>
    go_enter Try.func59, Try.ntmps59
    go_wp2_with fail
    (go_at_call 83; refine (spec_MeetAny _ _ d.writes e.reads _ (by (try simp only [← Array.append_assoc]); (repeat (first | with_reducible exact HU2.out | with_reducible apply View.rdMerge | with_reducible apply View.rdExt | with_reducible apply View.rdAlloc | with_reducible apply View.rdDrew | with_reducible apply View.rdDrewN)); all_goals exact (0 : Nat)) (by (try simp only [← Array.append_assoc]); (repeat (first | with_reducible exact HV1.out | with_reducible apply View.rdMerge | with_reducible apply View.rdExt | with_reducible apply View.rdAlloc | with_reducible apply View.rdDrew | with_reducible apply View.rdDrewN)); all_goals exact (0 : Nat)) hd.w he.r).mono ?_; rintro e w' ⟨rfl, hb⟩; obtain ⟨X, rfl⟩ := hb.ext; clear hb)
    rw [h1]
    go_wp2
    go_ret
    exact ⟨by simp [clash, h1], (by repeat (first | with_reducible exact Below.refl _ _ | with_reducible apply Below.ofExt | with_reducible apply Below.ofAlloc | with_reducible apply Below.drew | with_reducible apply Below.ofDrewN | with_reducible assumption | (with_reducible refine Below.setCell ?_ (by first | exact Nat.le_refl _ | (simp [go_sem]; done) | (simp [go_sem]; omega)) _)))⟩
  | false =>
    cases h2 : meetAny d.writes e.writes with
    | true =>
      go_enter Try.func59, Try.ntmps59
      go_wp2_with fail
      (go_at_call 83; refine (spec_MeetAny _ _ d.writes e.reads _ (by (try simp only [← Array.append_assoc]); (repeat (first | with_reducible exact HU2.out | with_reducible apply View.rdMerge | with_reducible apply View.rdExt | with_reducible apply View.rdAlloc | with_reducible apply View.rdDrew | with_reducible apply View.rdDrewN)); all_goals exact (0 : Nat)) (by (try simp only [← Array.append_assoc]); (repeat (first | with_reducible exact HV1.out | with_reducible apply View.rdMerge | with_reducible apply View.rdExt | with_reducible apply View.rdAlloc | with_reducible apply View.rdDrew | with_reducible apply View.rdDrewN)); all_goals exact (0 : Nat)) hd.w he.r).mono ?_; rintro e w' ⟨rfl, hb⟩; obtain ⟨X, rfl⟩ := hb.ext; clear hb)
      rw [h1]
      go_wp2_with fail
      (go_at_call 83; refine (spec_MeetAny _ _ d.writes e.writes _ (by (try simp only [← Array.append_assoc]); (repeat (first | with_reducible exact HU2.out | with_reducible apply View.rdMerge | with_reducible apply View.rdExt | with_reducible apply View.rdAlloc | with_reducible apply View.rdDrew | with_reducible apply View.rdDrewN)); all_goals exact (0 : Nat)) (by (try simp only [← Array.append_assoc]); (repeat (first | with_reducible exact HV2.out | with_reducible apply View.rdMerge | with_reducible apply View.rdExt | with_reducible apply View.rdAlloc | with_reducible apply View.rdDrew | with_reducible apply View.rdDrewN)); all_goals exact (0 : Nat)) hd.w he.w).mono ?_; rintro e w' ⟨rfl, hb⟩; obtain ⟨X, rfl⟩ := hb.ext; clear hb)
      rw [h2]
      go_wp2
      go_ret
      exact ⟨by simp [clash, h1, h2], (by repeat (first | with_reducible exact Below.refl _ _ | with_reducible apply Below.ofExt | with_reducible apply Below.ofAlloc | with_reducible apply Below.drew | with_reducible apply Below.ofDrewN | with_reducible assumption | (with_reducible refine Below.setCell ?_ (by first | exact Nat.le_refl _ | (simp [go_sem]; done) | (simp [go_sem]; omega)) _)))⟩
    | false =>
      go_enter Try.func59, Try.ntmps59
      go_wp2_with fail
      (go_at_call 83; refine (spec_MeetAny _ _ d.writes e.reads _ (by (try simp only [← Array.append_assoc]); (repeat (first | with_reducible exact HU2.out | with_reducible apply View.rdMerge | with_reducible apply View.rdExt | with_reducible apply View.rdAlloc | with_reducible apply View.rdDrew | with_reducible apply View.rdDrewN)); all_goals exact (0 : Nat)) (by (try simp only [← Array.append_assoc]); (repeat (first | with_reducible exact HV1.out | with_reducible apply View.rdMerge | with_reducible apply View.rdExt | with_reducible apply View.rdAlloc | with_reducible apply View.rdDrew | with_reducible apply View.rdDrewN)); all_goals exact (0 : Nat)) hd.w he.r).mono ?_; rintro e w' ⟨rfl, hb⟩; obtain ⟨X, rfl⟩ := hb.ext; clear hb)
      rw [h1]
      go_wp2_with fail
      (go_at_call 83; refine (spec_MeetAny _ _ d.writes e.writes _ (by (try simp only [← Array.append_assoc]); (repeat (first | with_reducible exact HU2.out | with_reducible apply View.rdMerge | with_reducible apply View.rdExt | with_reducible apply View.rdAlloc | with_reducible apply View.rdDrew | with_reducible apply View.rdDrewN)); all_goals exact (0 : Nat)) (by (try simp only [← Array.append_assoc]); (repeat (first | with_reducible exact HV2.out | with_reducible apply View.rdMerge | with_reducible apply View.rdExt | with_reducible apply View.rdAlloc | with_reducible apply View.rdDrew | with_reducible apply View.rdDrewN)); all_goals exact (0 : Nat)) hd.w he.w).mono ?_; rintro e w' ⟨rfl, hb⟩; obtain ⟨X, rfl⟩ := hb.ext; clear hb)
      rw [h2]
      go_wp2_with fail
      (go_at_call 83; refine (spec_MeetAny _ _ d.reads e.writes _ (by (try simp only [← Array.append_assoc]); (repeat (first | with_reducible exact HU1.out | with_reducible apply View.rdMerge | with_reducible apply View.rdExt | with_reducible apply View.rdAlloc | with_reducible apply View.rdDrew | with_reducible apply View.rdDrewN)); all_goals exact (0 : Nat)) (by (try simp only [← Array.append_assoc]); (repeat (first | with_reducible exact HV2.out | with_reducible apply View.rdMerge | with_reducible apply View.rdExt | with_reducible apply View.rdAlloc | with_reducible apply View.rdDrew | with_reducible apply View.rdDrewN)); all_goals exact (0 : Nat)) hd.r he.w).mono ?_; rintro e w' ⟨rfl, hb⟩; obtain ⟨X, rfl⟩ := hb.ext; clear hb)
      go_wp2
      go_ret
      exact ⟨by simp [clash, h1, h2], (by repeat (first | with_reducible exact Below.refl _ _ | with_reducible apply Below.ofExt | with_reducible apply Below.ofAlloc | with_reducible apply Below.drew | with_reducible apply Below.ofDrewN | with_reducible assumption | (with_reducible refine Below.setCell ?_ (by first | exact Nat.le_refl _ | (simp [go_sem]; done) | (simp [go_sem]; omega)) _)))⟩
theorem impl_Clash (cs : List Value) (d : TouchD) (cs' : List Value) (e : TouchD) (w : World) (hs : vTouch.rd w cs d) (hs' : vTouch.rd w cs' e) :
    Calls Try.prog 58 #[.agg cs.toArray, .agg cs'.toArray] w fun x w' => x = .returned (.bool (clash d e)) ∧ Below w.heap.size w w' := by
  have hd := vTouch_ok hs
  have he := vTouch_ok hs'
  obtain ⟨u1, u2, rfl, hu1, hu2⟩ := hs
  obtain ⟨v1, v2, rfl, hv1, hv2⟩ := hs'
  have HU1 := Lib.hid hu1
  have HU2 := Lib.hid hu2
  have HV1 := Lib.hid hv1
  have HV2 := Lib.hid hv2
  clear hu1 hu2 hv1 hv2
  have h3c : meetAny e.writes d.reads = meetAny d.reads e.writes := meetAny_comm _ _
  cases h1 : meetAny d.writes e.reads with
  | true =>
    go_enter Try.func58, Try.ntmps58
    go_wp2_with fail
    (go_at_call 82; refine (impl_MeetAny _ _ d.writes e.reads _ (by (try simp only [← Array.append_assoc]); (repeat (first | with_reducible exact HU2.out | with_reducible apply View.rdMerge | with_reducible apply View.rdExt | with_reducible apply View.rdAlloc | with_reducible apply View.rdDrew | with_reducible apply View.rdDrewN)); all_goals exact (0 : Nat)) (by (try simp only [← Array.append_assoc]); (repeat (first | with_reducible exact HV1.out | with_reducible apply View.rdMerge | with_reducible apply View.rdExt | with_reducible apply View.rdAlloc | with_reducible apply View.rdDrew | with_reducible apply View.rdDrewN)); all_goals exact (0 : Nat)) hd.w he.r).mono ?_; rintro e w' ⟨rfl, hb⟩; obtain ⟨X, rfl⟩ := hb.ext; clear hb)
    rw [h1]
    go_wp2
    go_ret
    exact ⟨by simp [clash, h1], (by repeat (first | with_reducible exact Below.refl _ _ | with_reducible apply Below.ofExt | with_reducible apply Below.ofAlloc | with_reducible apply Below.drew | with_reducible apply Below.ofDrewN | with_reducible assumption | (with_reducible refine Below.setCell ?_ (by first | exact Nat.le_refl _ | (simp [go_sem]; done) | (simp [go_sem]; omega)) _)))⟩
  | false =>
    cases h2 : meetAny d.writes e.writes with
    | true =>
      go_enter Try.func58, Try.ntmps58
      go_wp2_with fail
      (go_at_call 82; refine (impl_MeetAny _ _ d.writes e.reads _ (by (try simp only [← Array.append_assoc]); (repeat (first | with_reducible exact HU2.out | with_reducible apply View.rdMerge | with_reducible apply View.rdExt | with_reducible apply View.rdAlloc | with_reducible apply View.rdDrew | with_reducible apply View.rdDrewN)); all_goals exact (0 : Nat)) (by (try simp only [← Array.append_assoc]); (repeat (first | with_reducible exact HV1.out | with_reducible apply View.rdMerge | with_reducible apply View.rdExt | with_reducible apply View.rdAlloc | with_reducible apply View.rdDrew | with_reducible apply View.rdDrewN)); all_goals exact (0 : Nat)) hd.w he.r).mono ?_; rintro e w' ⟨rfl, hb⟩; obtain ⟨X, rfl⟩ := hb.ext; clear hb)
      rw [h1]
      go_wp2_with fail
      (go_at_call 82; refine (impl_MeetAny _ _ d.writes e.writes _ (by (try simp only [← Array.append_assoc]); (repeat (first | with_reducible exact HU2.out | with_reducible apply View.rdMerge | with_reducible apply View.rdExt | with_reducible apply View.rdAlloc | with_reducible apply View.rdDrew | with_reducible apply View.rdDrewN)); all_goals exact (0 : Nat)) (by (try simp only [← Array.append_assoc]); (repeat (first | with_reducible exact HV2.out | with_reducible apply View.rdMerge | with_reducible apply View.rdExt | with_reducible apply View.rdAlloc | with_reducible apply View.rdDrew | with_reducible apply View.rdDrewN)); all_goals exact (0 : Nat)) hd.w he.w).mono ?_; rintro e w' ⟨rfl, hb⟩; obtain ⟨X, rfl⟩ := hb.ext; clear hb)
      rw [h2]
      go_wp2
      go_ret
      exact ⟨by simp [clash, h1, h2], (by repeat (first | with_reducible exact Below.refl _ _ | with_reducible apply Below.ofExt | with_reducible apply Below.ofAlloc | with_reducible apply Below.drew | with_reducible apply Below.ofDrewN | with_reducible assumption | (with_reducible refine Below.setCell ?_ (by first | exact Nat.le_refl _ | (simp [go_sem]; done) | (simp [go_sem]; omega)) _)))⟩
    | false =>
      go_enter Try.func58, Try.ntmps58
      go_wp2_with fail
      (go_at_call 82; refine (impl_MeetAny _ _ d.writes e.reads _ (by (try simp only [← Array.append_assoc]); (repeat (first | with_reducible exact HU2.out | with_reducible apply View.rdMerge | with_reducible apply View.rdExt | with_reducible apply View.rdAlloc | with_reducible apply View.rdDrew | with_reducible apply View.rdDrewN)); all_goals exact (0 : Nat)) (by (try simp only [← Array.append_assoc]); (repeat (first | with_reducible exact HV1.out | with_reducible apply View.rdMerge | with_reducible apply View.rdExt | with_reducible apply View.rdAlloc | with_reducible apply View.rdDrew | with_reducible apply View.rdDrewN)); all_goals exact (0 : Nat)) hd.w he.r).mono ?_; rintro e w' ⟨rfl, hb⟩; obtain ⟨X, rfl⟩ := hb.ext; clear hb)
      rw [h1]
      go_wp2_with fail
      (go_at_call 82; refine (impl_MeetAny _ _ d.writes e.writes _ (by (try simp only [← Array.append_assoc]); (repeat (first | with_reducible exact HU2.out | with_reducible apply View.rdMerge | with_reducible apply View.rdExt | with_reducible apply View.rdAlloc | with_reducible apply View.rdDrew | with_reducible apply View.rdDrewN)); all_goals exact (0 : Nat)) (by (try simp only [← Array.append_assoc]); (repeat (first | with_reducible exact HV2.out | with_reducible apply View.rdMerge | with_reducible apply View.rdExt | with_reducible apply View.rdAlloc | with_reducible apply View.rdDrew | with_reducible apply View.rdDrewN)); all_goals exact (0 : Nat)) hd.w he.w).mono ?_; rintro e w' ⟨rfl, hb⟩; obtain ⟨X, rfl⟩ := hb.ext; clear hb)
      rw [h2]
      go_wp2_with fail
      (go_at_call 82; refine (impl_MeetAny _ _ e.writes d.reads _ (by (try simp only [← Array.append_assoc]); (repeat (first | with_reducible exact HV2.out | with_reducible apply View.rdMerge | with_reducible apply View.rdExt | with_reducible apply View.rdAlloc | with_reducible apply View.rdDrew | with_reducible apply View.rdDrewN)); all_goals exact (0 : Nat)) (by (try simp only [← Array.append_assoc]); (repeat (first | with_reducible exact HU1.out | with_reducible apply View.rdMerge | with_reducible apply View.rdExt | with_reducible apply View.rdAlloc | with_reducible apply View.rdDrew | with_reducible apply View.rdDrewN)); all_goals exact (0 : Nat)) he.w hd.r).mono ?_; rintro e w' ⟨rfl, hb⟩; obtain ⟨X, rfl⟩ := hb.ext; clear hb)
      rw [h3c]
      go_wp2
      go_ret
      exact ⟨by simp [clash, h1, h2], (by repeat (first | with_reducible exact Below.refl _ _ | with_reducible apply Below.ofExt | with_reducible apply Below.ofAlloc | with_reducible apply Below.drew | with_reducible apply Below.ofDrewN | with_reducible assumption | (with_reducible refine Below.setCell ?_ (by first | exact Nat.le_refl _ | (simp [go_sem]; done) | (simp [go_sem]; omega)) _)))⟩
end Go.Proofs.Ytmhopglbgaijiaa
