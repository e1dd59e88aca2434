/- Whether spans cover keys: the program's and the reference's. Each condition stands in its theorem. -/
import Derived.Test.YtdgnnphghfppbaaSpan
import Derived.Test.YtdgnnphghfppbaaTStr
import Derived.Test.YtdgnnphghfppbaaFirst
import Derived.Test.YtdgnnphghfppbaaIn
set_option linter.unusedVariables false
set_option linter.unusedSimpArgs false
namespace Go.Proofs.Ytdgnnphghfppbaa
open Go.ChangeShapes Go.WideShapes Go.ChangeAt Go.RowKit

/-- what a slice of strings reads as -/
def RdS (w : World) (v : Value) (xs : List ByteArray) : Prop := ∃ ao cap, v = .slice ao xs.length cap ∧ xs.length ≤ cap ∧ cap ≤ maxLen ∧ (ao = none → cap = 0 ∧ xs = []) ∧
    (xs ≠ [] → ∃ b off, ao = some ⟨b, off, none⟩ ∧ b < w.heap.size ∧ ∀ (i : Nat) (hi : i < xs.length), w.cell? ⟨b, off + i, none⟩ = some (Value.string xs[i])) ∧ ∀ s ∈ xs, s.size ≤ 9223372036854775807
theorem RdS.ext {w : World} {v : Value} {xs : List ByteArray} (h : RdS w v xs) (X : Ext) : RdS (w.ext X) v xs := by
  obtain ⟨ao, cap, rfl, h1, h2, h3, h4, h5⟩ := h
  refine ⟨ao, cap, rfl, h1, h2, h3, fun hne => ?_, h5⟩
  obtain ⟨b, off, e, hb, hc⟩ := h4 hne
  exact ⟨b, off, e, by rw [World.ext_size]; omega, fun i hi => by rw [World.cell?_ext _ _ _ _ hb]; exact hc i hi⟩
theorem RdS.alloc {w : World} {v : Value} {xs : List ByteArray} (h : RdS w v xs) (o : Obj) : RdS (w.alloc o) v xs := by
  obtain ⟨X, hX⟩ := (Below.alloc (Below.refl w.heap.size w) (Nat.le_refl _) o).ext
  rw [hX]
  exact h.ext X
theorem RdS.drew {w : World} {v : Value} {xs : List ByteArray} (h : RdS w v xs) : RdS w.drew v xs := h
theorem RdS.merge {w : World} {v : Value} {xs : List ByteArray} {bs cs : Array Obj} {d0 dr : Nat} (h : RdS (w.ext ⟨bs, d0⟩) v xs) : RdS (w.ext ⟨bs ++ cs, dr⟩) v xs := by
  have := h.ext ⟨cs, dr⟩
  rwa [World.ext_ext] at this
theorem RdS.ofRd {w : World} {v : Value} {xs : List ByteArray} {e : TypeId} (h : (vSlice vStr e).rd w [v] xs) : RdS w v xs := vStr_shape h
theorem RdS.ofL {w : World} {v : Value} {xs : List ByteArray} (h : RdL rStr w v xs) (hok : ∀ s ∈ xs, s.size ≤ 9223372036854775807) : RdS w v xs := by
  obtain ⟨ao, cap, rfl, h1, h2, h3, h4⟩ := h.shapeS
  exact ⟨ao, cap, rfl, h1, h2, h3, h4, hok⟩
theorem cov_step {α : Type} (p : α → Bool) (xs : List α) (n : Nat) (h : n < xs.length) : (xs.take (n + 1)).all p = ((xs.take n).all p && p xs[n]) := by
  simp only [List.take_succ_eq_append_getElem h, List.all_append, List.all_cons, List.all_nil, Bool.and_true]
theorem cov_false {α : Type} (p : α → Bool) (xs : List α) (n : Nat) (h : (xs.take n).all p = false) : xs.all p = false := by
  rw [List.all_eq_false] at h ⊢
  obtain ⟨x, hx, hp⟩ := h
  exact ⟨x, List.mem_of_mem_take hx, hp⟩
def spansHave (ss : List ByteArray) (k : ByteArray) : Bool := ss.any fun s => spanHas s k
def covers (ss ks : List ByteArray) : Bool := ks.all (spansHave ss)
theorem impl_spansHave1 (b : Nat) (x y : ByteArray) (w : World) (hx : x.size ≤ 9223372036854775807) (hy : y.size ≤ 9223372036854775807) (hb : w.cell? ⟨b, 0, none⟩ = some (.string x)) :
    Calls Try.prog 61 #[.string y, .pointer (some ⟨b, 0, none⟩)] w fun e w' => e = .returned (.bool (spanHas y x)) ∧ w = w' := by
  go_enter Try.func61, Try.ntmps61
  go_wp2_with fail
  (go_at_call 62; refine (impl_SpanHas y x _ hy hx).mono ?_; rintro e w' ⟨rfl, rfl⟩)
  go_wp2
  go_ret
  exact ⟨rfl, rfl⟩
theorem IndexFunc_H (v : Value) (ys : List ByteArray) (c : Nat) (x : ByteArray) (w : World) (hs : RdS w v ys) (hx : x.size ≤ 9223372036854775807) (hcl : c < w.heap.size) (hc : w.cell? ⟨c, 0, none⟩ = some (.string x)) :
    Calls Try.prog 60 #[v, .func (Fn.func 61) #[] #[.pointer (some ⟨c, 0, none⟩)]] w fun e w' => ∃ r : Int, e = .returned (.int .i64 r) ∧ (decide (0 ≤ r) = ys.any (fun y => spanHas y x)) ∧ Below w.heap.size w w' := by
  obtain ⟨ao, cap, rfl, hc1, hc2, hnil, hcell, hz⟩ := hs
  have HX := Lib.hid hcell
  have HZ := Lib.hid hz
  clear hcell hnil hz
  unfold maxLen at hc2
  go_enter Try.func60, Try.ntmps60
  go_wp2
  go_loopw [8] (fun k wr => ∃ (n : Nat), k = .int .i64 n ∧ n ≤ ys.length ∧ Below w.heap.size w wr ∧ (ys.take n).any (fun y => spanHas y x) = false) (fun k _ => ys.length - (intOf k).toNat)
  case atStart => exact ⟨0, rfl, by omega, (by repeat (first | with_reducible exact Below.refl _ _ | with_reducible apply Below.ofExt | with_reducible apply Below.ofAlloc | with_reducible apply Below.drew | with_reducible apply Below.ofDrewN | with_reducible assumption | (with_reducible refine Below.setCell ?_ (by first | exact Nat.le_refl _ | (simp [go_sem]; done) | (simp [go_sem]; omega)) _))), rfl⟩
  case round =>
    obtain ⟨n, rfl, hn, hbel, hany⟩ := hrel
    obtain ⟨X, rfl⟩ := hbel.ext
    have HA := Lib.hid hany
    clear hany hbel
    by_cases hlt : (n : Int) < ys.length
    · have hk : n < ys.length := by omega
      obtain ⟨b, off, rfl, hbl, hcell⟩ := HX.out (by intro e; simp [e] at hk)
      have hcc := hcell n hk
      have hstep := any_take_step (fun y => spanHas y x) ys n hk
      have hyz := HZ.out _ (List.getElem_mem hk)
      generalize ys[n] = y at hcc hstep hyz
      have HT := Lib.hid hstep
      clear hcell hstep
      cases hm : (fun y => spanHas y x) y with
      | true =>
        go_wp2_with fail
        (go_at_call 61; refine (impl_spansHave1 c x y _ hx hyz (by simp [go_sem, hcl, hc])).mono ?_; rintro e w' ⟨rfl, rfl⟩)
        rw [show _ = true from hm]
        go_wp2
        go_ret
        refine ⟨n, rfl, ?_, (by repeat (first | with_reducible exact Below.refl _ _ | with_reducible apply Below.ofExt | with_reducible apply Below.ofAlloc | with_reducible apply Below.drew | with_reducible apply Below.ofDrewN | with_reducible assumption | (with_reducible refine Below.setCell ?_ (by first | exact Nat.le_refl _ | (simp [go_sem]; done) | (simp [go_sem]; omega)) _)))⟩
        rw [any_take_true _ ys (n + 1) (by rw [HT.out, hm, Bool.or_true])]
        simp
      | false =>
        go_wp2_with fail
        (go_at_call 61; refine (impl_spansHave1 c x y _ hx hyz (by simp [go_sem, hcl, hc])).mono ?_; rintro e w' ⟨rfl, rfl⟩)
        rw [show _ = false from hm]
        go_wp2
        go_roundw
        case rel => exact ⟨n + 1, by go_num, by omega, (by repeat (first | with_reducible exact Below.refl _ _ | with_reducible apply Below.ofExt | with_reducible apply Below.ofAlloc | with_reducible apply Below.drew | with_reducible apply Below.ofDrewN | with_reducible assumption | (with_reducible refine Below.setCell ?_ (by first | exact Nat.le_refl _ | (simp [go_sem]; done) | (simp [go_sem]; omega)) _))), by rw [HT.out, HA.out, hm]; rfl⟩
        case measure => simp [intOf]; omega
    · go_wp2
      go_ret
      have e : n = ys.length := by omega
      subst e
      have ha := HA.out
      rw [List.take_length] at ha
      refine ⟨-1, rfl, ?_, (by repeat (first | with_reducible exact Below.refl _ _ | with_reducible apply Below.ofExt | with_reducible apply Below.ofAlloc | with_reducible apply Below.drew | with_reducible apply Below.ofDrewN | with_reducible assumption | (with_reducible refine Below.setCell ?_ (by first | exact Nat.le_refl _ | (simp [go_sem]; done) | (simp [go_sem]; omega)) _)))⟩
      rw [ha]
      rfl
theorem ContainsFunc_H (v : Value) (ys : List ByteArray) (c : Nat) (x : ByteArray) (w : World) (hs : RdS w v ys) (hx : x.size ≤ 9223372036854775807) (hcl : c < w.heap.size) (hc : w.cell? ⟨c, 0, none⟩ = some (.string x)) :
    Calls Try.prog 43 #[v, .func (Fn.func 61) #[] #[.pointer (some ⟨c, 0, none⟩)]] w fun e w' => e = .returned (.bool (ys.any (fun y => spanHas y x))) ∧ Below w.heap.size w w' := by
  go_enter Try.func43, Try.ntmps43
  go_wp2_with fail
  (go_at_call 60; refine (IndexFunc_H v ys c x _ hs hx hcl hc).mono ?_; rintro e w' ⟨r, rfl, hr, hb⟩; obtain ⟨X, rfl⟩ := hb.ext; clear hb)
  go_wp2
  go_ret
  exact ⟨by rw [← hr]; rfl, (by repeat (first | with_reducible exact Below.refl _ _ | with_reducible apply Below.ofExt | with_reducible apply Below.ofAlloc | with_reducible apply Below.drew | with_reducible apply Below.ofDrewN | with_reducible assumption | (with_reducible refine Below.setCell ?_ (by first | exact Nat.le_refl _ | (simp [go_sem]; done) | (simp [go_sem]; omega)) _)))⟩
theorem impl_spansHave (v : Value) (ss : List ByteArray) (x : ByteArray) (w : World) (hs : RdS w v ss) (hx : x.size ≤ 9223372036854775807) :
    Calls Try.prog 45 #[v, .string x] w fun e w' => e = .returned (.bool (spansHave ss x)) ∧ Below w.heap.size w w' := by
  have HS := Lib.hid hs
  clear hs
  go_enter Try.func45, Try.ntmps45
  go_wp2_with fail
  (go_at_call 43; refine (ContainsFunc_H v ss _ x _ (by (try simp only [← Array.append_assoc]); (repeat (first | with_reducible exact HS.out | with_reducible apply RdS.merge | with_reducible apply RdS.ext | with_reducible apply RdS.alloc | with_reducible apply RdS.drew)); all_goals exact (0 : Nat)) hx (by simp [go_sem]) (by simp [go_sem])).mono ?_; rintro e w' ⟨rfl, hb⟩; obtain ⟨X, rfl⟩ := hb.ext; clear hb)
  go_wp2
  go_ret
  exact ⟨rfl, (by repeat (first | with_reducible exact Below.refl _ _ | with_reducible apply Below.ofExt | with_reducible apply Below.ofAlloc | with_reducible apply Below.drew | with_reducible apply Below.ofDrewN | with_reducible assumption | (with_reducible refine Below.setCell ?_ (by first | exact Nat.le_refl _ | (simp [go_sem]; done) | (simp [go_sem]; omega)) _)))⟩
set_option maxRecDepth 100000 in
theorem impl_Covers (v v' : Value) (ss ks : List ByteArray) (w : World) (hs : RdS w v ss) (hk : RdS w v' ks) :
    Calls Try.prog 46 #[v, v'] w fun e w' => e = .returned (.bool (covers ss ks)) ∧ Below w.heap.size w w' := by
  have HS := Lib.hid hs
  obtain ⟨ao, cap, rfl, hc1, hc2, hnil, hcell, hz⟩ := hk
  have HX := Lib.hid hcell
  have HZ := Lib.hid hz
  clear hcell hs hnil hz
  unfold maxLen at hc2
  go_enter Try.func46, Try.ntmps46
  go_wp2
  go_loopw [9] (fun k wr => ∃ (n : Nat), k = .int .i64 n ∧ n ≤ ks.length ∧ Below w.heap.size w wr ∧ (ks.take n).all (spansHave ss) = true) (fun k _ => ks.length - (intOf k).toNat)
  case atStart => exact ⟨0, rfl, by omega, (by repeat (first | with_reducible exact Below.refl _ _ | with_reducible apply Below.ofExt | with_reducible apply Below.ofAlloc | with_reducible apply Below.drew | with_reducible apply Below.ofDrewN | with_reducible assumption | (with_reducible refine Below.setCell ?_ (by first | exact Nat.le_refl _ | (simp [go_sem]; done) | (simp [go_sem]; omega)) _))), rfl⟩
  case round =>
    obtain ⟨n, rfl, hn, hbel, hall⟩ := hrel
    obtain ⟨X, rfl⟩ := hbel.ext
    have HA := Lib.hid hall
    clear hall hbel
    by_cases hlt : (n : Int) < ks.length
    · have hk : n < ks.length := by omega
      obtain ⟨b, off, rfl, hbl, hcell⟩ := HX.out (by intro e; simp [e] at hk)
      have hcc := hcell n hk
      have hstep := cov_step (spansHave ss) ks n hk
      have hyz := HZ.out _ (List.getElem_mem hk)
      generalize ks[n] = x at hcc hstep hyz
      have HT := Lib.hid hstep
      clear hcell hstep
      cases hm : spansHave ss x with
      | true =>
        go_wp2_with fail
        (go_at_call 45; refine (impl_spansHave v ss x _ (by (try simp only [← Array.append_assoc]); (repeat (first | with_reducible exact HS.out | with_reducible apply RdS.merge | with_reducible apply RdS.ext | with_reducible apply RdS.alloc | with_reducible apply RdS.drew)); all_goals exact (0 : Nat)) hyz).mono ?_; rintro e w' ⟨rfl, hb⟩; obtain ⟨X, rfl⟩ := hb.ext; clear hb)
        rw [hm]
        go_wp2
        go_roundw
        case rel => exact ⟨n + 1, by go_num, by omega, (by repeat (first | with_reducible exact Below.refl _ _ | with_reducible apply Below.ofExt | with_reducible apply Below.ofAlloc | with_reducible apply Below.drew | with_reducible apply Below.ofDrewN | with_reducible assumption | (with_reducible refine Below.setCell ?_ (by first | exact Nat.le_refl _ | (simp [go_sem]; done) | (simp [go_sem]; omega)) _))), by rw [HT.out, HA.out, hm]; rfl⟩
        case measure => simp [intOf]; omega
      | false =>
        go_wp2_with fail
        (go_at_call 45; refine (impl_spansHave v ss x _ (by (try simp only [← Array.append_assoc]); (repeat (first | with_reducible exact HS.out | with_reducible apply RdS.merge | with_reducible apply RdS.ext | with_reducible apply RdS.alloc | with_reducible apply RdS.drew)); all_goals exact (0 : Nat)) hyz).mono ?_; rintro e w' ⟨rfl, hb⟩; obtain ⟨X, rfl⟩ := hb.ext; clear hb)
        rw [hm]
        go_wp2
        go_ret
        exact ⟨by unfold covers; rw [cov_false _ ks (n + 1) (by rw [HT.out, hm, Bool.and_false])]; rfl, (by repeat (first | with_reducible exact Below.refl _ _ | with_reducible apply Below.ofExt | with_reducible apply Below.ofAlloc | with_reducible apply Below.drew | with_reducible apply Below.ofDrewN | with_reducible assumption | (with_reducible refine Below.setCell ?_ (by first | exact Nat.le_refl _ | (simp [go_sem]; done) | (simp [go_sem]; omega)) _)))⟩
    · go_wp2
      go_ret
      have e : n = ks.length := by omega
      subst e
      have ha := HA.out
      rw [List.take_length] at ha
      exact ⟨by unfold covers; rw [ha]; rfl, (by repeat (first | with_reducible exact Below.refl _ _ | with_reducible apply Below.ofExt | with_reducible apply Below.ofAlloc | with_reducible apply Below.drew | with_reducible apply Below.ofDrewN | with_reducible assumption | (with_reducible refine Below.setCell ?_ (by first | exact Nat.le_refl _ | (simp [go_sem]; done) | (simp [go_sem]; omega)) _)))⟩
set_option maxRecDepth 100000 in
set_option maxHeartbeats 1000000 in
theorem spec_Covers (v v' : Value) (ss ks : List ByteArray) (w : World) (hs : RdS w v ss) (hk : RdS w v' ks) :
    Calls Try.prog 42 #[v, v'] w fun e w' => e = .returned (.bool (covers ss ks)) ∧ Below w.heap.size w w' := by
  obtain ⟨ao', cap', rfl, hc1', hc2', hnil', hcell', hz'⟩ := hs
  obtain ⟨ao, cap, rfl, hc1, hc2, hnil, hcell, hz⟩ := hk
  have HX := Lib.hid hcell
  have HZ := Lib.hid hz
  have HX' := Lib.hid hcell'
  have HZ' := Lib.hid hz'
  clear hcell hnil hz hcell' hnil' hz'
  unfold maxLen at hc2 hc2'
  go_enter Try.func42, Try.ntmps42
  go_wp2
  go_loopw [5] (fun k wr => ∃ (n : Nat), k = .int .i64 n ∧ n ≤ ks.length ∧ Below w.heap.size w wr ∧ (ks.take n).all (spansHave ss) = true) (fun k _ => ks.length - (intOf k).toNat)
  case atStart => exact ⟨0, rfl, by omega, (by repeat (first | with_reducible exact Below.refl _ _ | with_reducible apply Below.ofExt | with_reducible apply Below.ofAlloc | with_reducible apply Below.drew | with_reducible apply Below.ofDrewN | with_reducible assumption | (with_reducible refine Below.setCell ?_ (by first | exact Nat.le_refl _ | (simp [go_sem]; done) | (simp [go_sem]; omega)) _))), rfl⟩
  case round =>
    obtain ⟨n, rfl, hn, hbel, hall⟩ := hrel
    obtain ⟨X, rfl⟩ := hbel.ext
    have HA := Lib.hid hall
    clear hall hbel
    by_cases hlt : (n : Int) < ks.length
    · have hk : n < ks.length := by omega
      obtain ⟨b, off, rfl, hbl, hcell⟩ := HX.out (by intro e; simp [e] at hk)
      have hcc := hcell n hk
      have hstep := cov_step (spansHave ss) ks n hk
      have hyz := HZ.out _ (List.getElem_mem hk)
      generalize ks[n] = x at hcc hstep hyz
      have HT := Lib.hid hstep
      have HXZ := Lib.hid hyz
      clear hcell hstep hyz
      go_wp2
      go_loopw [6, 7] (fun h k wr => ∃ (m : Nat) (bb : Bool), h = .bool bb ∧ k = .int .i64 m ∧ m ≤ ss.length ∧ Below w.heap.size w wr ∧ (ss.take m).any (fun s => spanHas s x) = bb) (fun _ k _ => ss.length - (intOf k).toNat)
      case atStart => exact ⟨0, false, rfl, rfl, by omega, (by repeat (first | with_reducible exact Below.refl _ _ | with_reducible apply Below.ofExt | with_reducible apply Below.ofAlloc | with_reducible apply Below.drew | with_reducible apply Below.ofDrewN | with_reducible assumption | (with_reducible refine Below.setCell ?_ (by first | exact Nat.le_refl _ | (simp [go_sem]; done) | (simp [go_sem]; omega)) _))), rfl⟩
      case round =>
        obtain ⟨m, bb, rfl, rfl, hm, hbel2, hany2⟩ := hrel
        obtain ⟨Y, rfl⟩ := hbel2.ext
        have HA2 := Lib.hid hany2
        clear hany2 hbel2
        by_cases hlt2 : (m : Int) < ss.length
        · have hk2 : m < ss.length := by omega
          obtain ⟨b', off', rfl, hbl', hcell'⟩ := HX'.out (by intro e; simp [e] at hk2)
          have hcc' := hcell' m hk2
          have hstep2 := any_take_step (fun s => spanHas s x) ss m hk2
          have hyz := HZ'.out _ (List.getElem_mem hk2)
          generalize ss[m] = y at hcc' hstep2 hyz
          have HT2 := Lib.hid hstep2
          have CK : Hid (∀ W : World, Calls Try.prog 59 #[.string y, .string x] W fun e w' => e = .returned (.bool (spanHas y x)) ∧ w' = W) := fun W => (spec_SpanHas y x W hyz HXZ.out).mono fun e w' h => ⟨h.1, h.2.symm⟩
          clear hcell' hstep2 hyz
          cases bb with
          | true =>
            go_wp2
            go_quiet (fail)
            go_wp2
            go_roundw
            case rel => exact ⟨m + 1, true, rfl, by go_num, by omega, (by repeat (first | with_reducible exact Below.refl _ _ | with_reducible apply Below.ofExt | with_reducible apply Below.ofAlloc | with_reducible apply Below.drew | with_reducible apply Below.ofDrewN | with_reducible assumption | (with_reducible refine Below.setCell ?_ (by first | exact Nat.le_refl _ | (simp [go_sem]; done) | (simp [go_sem]; omega)) _))), by rw [HT2.out, HA2.out]; rfl⟩
            case measure => simp [intOf]; omega
          | false =>
            go_wp2
            go_quiet ((go_at_call 59; (first | exact Calls.quiet_of_same (CK.out _) | exact quietE (CK.out _))))
            go_wp2
            go_roundw
            case rel => exact ⟨m + 1, _, rfl, by go_num, by omega, (by repeat (first | with_reducible exact Below.refl _ _ | with_reducible apply Below.ofExt | with_reducible apply Below.ofAlloc | with_reducible apply Below.drew | with_reducible apply Below.ofDrewN | with_reducible assumption | (with_reducible refine Below.setCell ?_ (by first | exact Nat.le_refl _ | (simp [go_sem]; done) | (simp [go_sem]; omega)) _))), by rw [HT2.out, HA2.out]; rfl⟩
            case measure => simp [intOf]; omega
        · have e : m = ss.length := by omega
          subst e
          have ha2 := HA2.out
          rw [List.take_length] at ha2
          have HB : Hid (spansHave ss x = bb) := ha2
          clear ha2
          cases bb with
          | true =>
            go_wp2
            go_roundw
            case rel => exact ⟨n + 1, by go_num, by omega, (by repeat (first | with_reducible exact Below.refl _ _ | with_reducible apply Below.ofExt | with_reducible apply Below.ofAlloc | with_reducible apply Below.drew | with_reducible apply Below.ofDrewN | with_reducible assumption | (with_reducible refine Below.setCell ?_ (by first | exact Nat.le_refl _ | (simp [go_sem]; done) | (simp [go_sem]; omega)) _))), by rw [HT.out, HA.out, HB.out]; rfl⟩
            case measure => simp [intOf]; omega
          | false =>
            go_wp2
            go_ret
            exact ⟨by unfold covers; rw [cov_false _ ks (n + 1) (by rw [HT.out, HB.out, Bool.and_false])]; rfl, (by repeat (first | with_reducible exact Below.refl _ _ | with_reducible apply Below.ofExt | with_reducible apply Below.ofAlloc | with_reducible apply Below.drew | with_reducible apply Below.ofDrewN | with_reducible assumption | (with_reducible refine Below.setCell ?_ (by first | exact Nat.le_refl _ | (simp [go_sem]; done) | (simp [go_sem]; omega)) _)))⟩
    · go_wp2
      go_ret
      have e : n = ks.length := by omega
      subst e
      have ha := HA.out
      rw [List.take_length] at ha
      exact ⟨by unfold covers; rw [ha]; rfl, (by repeat (first | with_reducible exact Below.refl _ _ | with_reducible apply Below.ofExt | with_reducible apply Below.ofAlloc | with_reducible apply Below.drew | with_reducible apply Below.ofDrewN | with_reducible assumption | (with_reducible refine Below.setCell ?_ (by first | exact Nat.le_refl _ | (simp [go_sem]; done) | (simp [go_sem]; omega)) _)))⟩
end Go.Proofs.Ytdgnnphghfppbaa
