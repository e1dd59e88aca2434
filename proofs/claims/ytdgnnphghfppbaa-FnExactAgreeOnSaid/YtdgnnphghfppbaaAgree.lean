/- Whether two stores agree on spans: the program's and the reference's. Each condition stands in its theorem. -/
import Derived.Test.YtdgnnphghfppbaaCov
import Derived.Test.YtdgnnphghfppbaaChg
set_option linter.unusedVariables false
set_option linter.unusedSimpArgs false
namespace Go.Proofs.Ytdgnnphghfppbaa
open Go.ChangeShapes Go.WideShapes Go.ChangeAt Go.RowKit

theorem impl_AgreeOn1 (b : Nat) (av : Option Addr) (cv : Nat) (ss : List ByteArray) (y : ByteArray) (w : World) (hv : RdS w (.slice av ss.length cv) ss) (hy : y.size ≤ 9223372036854775807) (hb : w.cell? ⟨b, 0, none⟩ = some (.slice av ss.length cv)) :
    Calls Try.prog 44 #[.string y, .pointer (some ⟨b, 0, none⟩)] w fun e w' => e = .returned (.bool (spansHave ss y)) ∧ Below w.heap.size w w' := by
  have HV := Lib.hid hv
  clear hv
  go_enter Try.func44, Try.ntmps44
  go_wp2_with fail
  (go_at_call 45; refine (impl_spansHave _ ss y _ HV.out hy).mono ?_; rintro e w' ⟨rfl, hb⟩; obtain ⟨X, rfl⟩ := hb.ext; clear hb)
  go_wp2
  go_ret
  exact ⟨rfl, (by repeat (first | with_reducible exact Below.refl _ _ | with_reducible apply Below.ofExt | with_reducible apply Below.ofAlloc | with_reducible apply Below.drew | with_reducible apply Below.ofDrewN | with_reducible assumption | (with_reducible refine Below.setCell ?_ (by first | exact Nat.le_refl _ | (simp [go_sem]; done) | (simp [go_sem]; omega)) _)))⟩
theorem IndexFunc_A (v : Value) (ys : List ByteArray) (c : Nat) (av : Option Addr) (cv : Nat) (ss : List ByteArray) (w : World) (hs : RdS w v ys) (hv : RdS w (.slice av ss.length cv) ss) (hcl : c < w.heap.size) (hc : w.cell? ⟨c, 0, none⟩ = some (.slice av ss.length cv)) :
    Calls Try.prog 60 #[v, .func (Fn.func 44) #[] #[.pointer (some ⟨c, 0, none⟩)]] w fun e w' => ∃ r : Int, e = .returned (.int .i64 r) ∧ (decide (0 ≤ r) = ys.any (spansHave ss)) ∧ Below w.heap.size w w' := by
  have HV := Lib.hid hv
  clear hv
  obtain ⟨ao, cap, rfl, hc1, hc2, hnil, hcell, hz⟩ := hs
  have HX := Lib.hid hcell
  have HZ := Lib.hid hz
  clear hcell hnil hz
  unfold maxLen at hc2
  go_enter Try.func60, Try.ntmps60
  go_wp2
  go_loopw [8] (fun k wr => ∃ (n : Nat), k = .int .i64 n ∧ n ≤ ys.length ∧ Below w.heap.size w wr ∧ (ys.take n).any (spansHave ss) = false) (fun k _ => ys.length - (intOf k).toNat)
  case atStart => exact ⟨0, rfl, by omega, (by repeat (first | with_reducible exact Below.refl _ _ | with_reducible apply Below.ofExt | with_reducible apply Below.ofAlloc | with_reducible apply Below.drew | with_reducible apply Below.ofDrewN | with_reducible assumption | (with_reducible refine Below.setCell ?_ (by first | exact Nat.le_refl _ | (simp [go_sem]; done) | (simp [go_sem]; omega)) _))), rfl⟩
  case round =>
    obtain ⟨n, rfl, hn, hbel, hany⟩ := hrel
    obtain ⟨X, rfl⟩ := hbel.ext
    have HA := Lib.hid hany
    clear hany hbel
    by_cases hlt : (n : Int) < ys.length
    · have hk : n < ys.length := by omega
      obtain ⟨b, off, rfl, hbl, hcell⟩ := HX.out (by intro e; simp [e] at hk)
      have hcc := hcell n hk
      have hstep := any_take_step (spansHave ss) ys n hk
      have hyz := HZ.out _ (List.getElem_mem hk)
      generalize ys[n] = y at hcc hstep hyz
      have HT := Lib.hid hstep
      clear hcell hstep
      cases hm : (spansHave ss) y with
      | true =>
        go_wp2_with fail
        (go_at_call 44; refine (impl_AgreeOn1 c av cv ss y _ (by (try simp only [← Array.append_assoc]); (repeat (first | with_reducible exact HV.out | with_reducible apply RdS.merge | with_reducible apply RdS.ext | with_reducible apply RdS.alloc | with_reducible apply RdS.drew)); all_goals exact (0 : Nat)) hyz (by simp [go_sem, hcl, hc])).mono ?_; rintro e w' ⟨rfl, hb⟩; obtain ⟨X, rfl⟩ := hb.ext; clear hb)
        rw [show _ = true from hm]
        go_wp2
        go_ret
        refine ⟨n, rfl, ?_, (by repeat (first | with_reducible exact Below.refl _ _ | with_reducible apply Below.ofExt | with_reducible apply Below.ofAlloc | with_reducible apply Below.drew | with_reducible apply Below.ofDrewN | with_reducible assumption | (with_reducible refine Below.setCell ?_ (by first | exact Nat.le_refl _ | (simp [go_sem]; done) | (simp [go_sem]; omega)) _)))⟩
        rw [any_take_true _ ys (n + 1) (by rw [HT.out, hm, Bool.or_true])]
        simp
      | false =>
        go_wp2_with fail
        (go_at_call 44; refine (impl_AgreeOn1 c av cv ss y _ (by (try simp only [← Array.append_assoc]); (repeat (first | with_reducible exact HV.out | with_reducible apply RdS.merge | with_reducible apply RdS.ext | with_reducible apply RdS.alloc | with_reducible apply RdS.drew)); all_goals exact (0 : Nat)) hyz (by simp [go_sem, hcl, hc])).mono ?_; rintro e w' ⟨rfl, hb⟩; obtain ⟨X, rfl⟩ := hb.ext; clear hb)
        rw [show _ = false from hm]
        go_wp2
        go_roundw
        case rel => exact ⟨n + 1, by go_num, by omega, (by repeat (first | with_reducible exact Below.refl _ _ | with_reducible apply Below.ofExt | with_reducible apply Below.ofAlloc | with_reducible apply Below.drew | with_reducible apply Below.ofDrewN | with_reducible assumption | (with_reducible refine Below.setCell ?_ (by first | exact Nat.le_refl _ | (simp [go_sem]; done) | (simp [go_sem]; omega)) _))), by rw [HT.out, HA.out, hm]; rfl⟩
        case measure => simp [intOf]; omega
    · go_wp2
      go_ret
      have e : n = ys.length := by omega
      subst e
      have ha := HA.out
      rw [List.take_length] at ha
      refine ⟨-1, rfl, ?_, (by repeat (first | with_reducible exact Below.refl _ _ | with_reducible apply Below.ofExt | with_reducible apply Below.ofAlloc | with_reducible apply Below.drew | with_reducible apply Below.ofDrewN | with_reducible assumption | (with_reducible refine Below.setCell ?_ (by first | exact Nat.le_refl _ | (simp [go_sem]; done) | (simp [go_sem]; omega)) _)))⟩
      rw [ha]
      rfl
theorem ContainsFunc_A (v : Value) (ys : List ByteArray) (c : Nat) (av : Option Addr) (cv : Nat) (ss : List ByteArray) (w : World) (hs : RdS w v ys) (hv : RdS w (.slice av ss.length cv) ss) (hcl : c < w.heap.size) (hc : w.cell? ⟨c, 0, none⟩ = some (.slice av ss.length cv)) :
    Calls Try.prog 43 #[v, .func (Fn.func 44) #[] #[.pointer (some ⟨c, 0, none⟩)]] w fun e w' => e = .returned (.bool (ys.any (spansHave ss))) ∧ Below w.heap.size w w' := by
  go_enter Try.func43, Try.ntmps43
  go_wp2_with fail
  (go_at_call 60; refine (IndexFunc_A v ys c av cv ss _ hs hv hcl hc).mono ?_; rintro e w' ⟨r, rfl, hr, hb⟩; obtain ⟨X, rfl⟩ := hb.ext; clear hb)
  go_wp2
  go_ret
  exact ⟨by rw [← hr]; rfl, (by repeat (first | with_reducible exact Below.refl _ _ | with_reducible apply Below.ofExt | with_reducible apply Below.ofAlloc | with_reducible apply Below.drew | with_reducible apply Below.ofDrewN | with_reducible assumption | (with_reducible refine Below.setCell ?_ (by first | exact Nat.le_refl _ | (simp [go_sem]; done) | (simp [go_sem]; omega)) _)))⟩
set_option maxRecDepth 100000 in
set_option maxHeartbeats 1000000 in
theorem spec_AgreeOn (va vb vs : Value) (a b : List CellD) (ss : List ByteArray) (w : World) (ha : RdL rCell w va a) (hb : RdL rCell w vb b) (hs : RdS w vs ss) (hka : ∀ c ∈ a, c.ok) (hkb : ∀ c ∈ b, c.ok) (hl : a.length ≤ 1048576) (hl2 : b.length ≤ 1048576) :
    Calls Try.prog 24 #[va, vb, vs] w fun e w' => e = .returned (.bool !((diffC a b).any (spansHave ss))) ∧ Below w.heap.size w w' := by
  have HS := Lib.hid hs
  have HA := Lib.hid ha
  have HB := Lib.hid hb
  have HKA := Lib.hid hka
  have HKB := Lib.hid hkb
  obtain ⟨aa, ca, rfl⟩ := ha.form
  obtain ⟨ab, cb, rfl⟩ := hb.form
  obtain ⟨sa, sc, rfl, hs1, hs2, _⟩ := hs
  clear ha hb hka hkb
  obtain ⟨ks, hks⟩ : ∃ ks, ks = diffC a b := ⟨_, rfl⟩
  have HKS := Lib.hid hks
  have HKZ : Hid (∀ s ∈ ks, s.size ≤ 9223372036854775807) := (by rw [hks]; exact diffC_ok a b HKA.out HKB.out)
  have hkl : ks.length ≤ 2097152 := by rw [hks]; have := diffC_len a b; omega
  rw [← hks]
  clear hks
  go_enter Try.func24, Try.ntmps24
  go_wp2_with fail
  (go_at_call 40; refine (spec_DiffKeys _ _ a b _ (by (try simp only [← Array.append_assoc]); (repeat (first | with_reducible exact HA.out | with_reducible apply RdL.mergeC2 | with_reducible apply RdL.ext | with_reducible apply RdL.alloc | with_reducible apply RdL.drew)); all_goals exact (0 : Nat)) (by (try simp only [← Array.append_assoc]); (repeat (first | with_reducible exact HB.out | with_reducible apply RdL.mergeC2 | with_reducible apply RdL.ext | with_reducible apply RdL.alloc | with_reducible apply RdL.drew)); all_goals exact (0 : Nat)) hl hl2).mono ?_; rintro e w' ⟨v', rfl, ho', hb'⟩; rw [← HKS.out] at ho'; have HP := Lib.hid (RdS.ofL ho'.rd HKZ.out); obtain ⟨Y, rfl⟩ := hb'.ext; clear ho' hb')
  obtain ⟨ka, kc, rfl, hk1, hk2, _⟩ := HP.out
  go_wp2
  go_loopw [8] (fun k wr => ∃ (n : Nat), k = .int .i64 n ∧ n ≤ ks.length ∧ Below w.heap.size w wr ∧ RdS wr (.slice ka ks.length kc) ks ∧ (ks.take n).any (spansHave ss) = false) (fun k _ => ks.length - (intOf k).toNat)
  case atStart => exact ⟨0, rfl, by omega, (by repeat (first | with_reducible exact Below.refl _ _ | with_reducible apply Below.ofExt | with_reducible apply Below.ofAlloc | with_reducible apply Below.drew | with_reducible apply Below.ofDrewN | with_reducible assumption | (with_reducible refine Below.setCell ?_ (by first | exact Nat.le_refl _ | (simp [go_sem]; done) | (simp [go_sem]; omega)) _))), HP.out, rfl⟩
  case round =>
    clear HP
    obtain ⟨n, rfl, hn, hbel, hrd, hany⟩ := hrel
    obtain ⟨X, rfl⟩ := hbel.ext
    have HA2 := Lib.hid hany
    have HP := Lib.hid hrd
    clear hany hbel hrd
    by_cases hlt : (n : Int) < ks.length
    · have hk : n < ks.length := by omega
      obtain ⟨ka', kc', hkv, hc1, hc2, hnil, hcell, _⟩ := HP.out
      cases hkv
      obtain ⟨kb, koff, rfl, hbl, hcell⟩ := hcell (by intro e; simp [e] at hk)
      have y0 := hcell n hk
      have hst := any_take_step (spansHave ss) ks n hk
      have hyz := HKZ.out _ (List.getElem_mem hk)
      generalize ks[n] = key at y0 hst hyz
      have y1 : ∀ dr, (w.ext ⟨X.bs, dr⟩).cell? ⟨kb, koff + n, none⟩ = some (.string key) := fun dr => y0
      have hbl2 : kb < w.heap.size + X.bs.size := by rw [World.ext_size] at hbl; exact hbl
      have HT := Lib.hid hst
      have HYZ := Lib.hid hyz
      clear hst hcell hnil hbl hyz
      have hc : covers ss [key] = spansHave ss key := by simp [covers]
      have HC := Lib.hid hc
      clear hc
      cases hm : spansHave ss key with
      | true =>
        go_wp2_with fail
        (go_at_call 42; refine (spec_Covers _ _ ss [key] _ (by (try simp only [← Array.append_assoc]); (repeat (first | with_reducible exact HS.out | with_reducible apply RdS.merge | with_reducible apply RdS.ext | with_reducible apply RdS.alloc | with_reducible apply RdS.drew)); all_goals exact (0 : Nat)) (RdS.ofL (RdL.oneAt rStr _ key _ rfl _ _ (by simp [World.ext_size])) (by simpa using HYZ.out))).mono ?_; rintro e w' ⟨rfl, hb⟩; obtain ⟨X, rfl⟩ := hb.ext; clear hb)
        rw [HC.out, hm]
        go_wp2
        go_ret
        exact ⟨by rw [any_take_true _ ks (n + 1) (by rw [HT.out, hm, Bool.or_true])]; rfl, (by repeat (first | with_reducible exact Below.refl _ _ | with_reducible apply Below.ofExt | with_reducible apply Below.ofAlloc | with_reducible apply Below.drew | with_reducible apply Below.ofDrewN | with_reducible assumption | (with_reducible refine Below.setCell ?_ (by first | exact Nat.le_refl _ | (simp [go_sem]; done) | (simp [go_sem]; omega)) _)))⟩
      | false =>
        go_wp2_with fail
        (go_at_call 42; refine (spec_Covers _ _ ss [key] _ (by (try simp only [← Array.append_assoc]); (repeat (first | with_reducible exact HS.out | with_reducible apply RdS.merge | with_reducible apply RdS.ext | with_reducible apply RdS.alloc | with_reducible apply RdS.drew)); all_goals exact (0 : Nat)) (RdS.ofL (RdL.oneAt rStr _ key _ rfl _ _ (by simp [World.ext_size])) (by simpa using HYZ.out))).mono ?_; rintro e w' ⟨rfl, hb⟩; obtain ⟨X, rfl⟩ := hb.ext; clear hb)
        rw [HC.out, hm]
        go_wp2
        go_roundw
        case rel => exact ⟨n + 1, by go_num, by omega, (by repeat (first | with_reducible exact Below.refl _ _ | with_reducible apply Below.ofExt | with_reducible apply Below.ofAlloc | with_reducible apply Below.drew | with_reducible apply Below.ofDrewN | with_reducible assumption | (with_reducible refine Below.setCell ?_ (by first | exact Nat.le_refl _ | (simp [go_sem]; done) | (simp [go_sem]; omega)) _))), (by (try simp only [← Array.append_assoc]); (repeat (first | with_reducible exact HP.out | with_reducible apply RdS.merge | with_reducible apply RdS.ext | with_reducible apply RdS.alloc | with_reducible apply RdS.drew)); all_goals exact (0 : Nat)), by rw [HT.out, HA2.out, hm]; rfl⟩
        case measure => simp [intOf]; omega
    · go_wp2
      go_ret
      have e : n = ks.length := by omega
      subst e
      have ha := HA2.out
      rw [List.take_length] at ha
      exact ⟨by rw [ha]; rfl, (by repeat (first | with_reducible exact Below.refl _ _ | with_reducible apply Below.ofExt | with_reducible apply Below.ofAlloc | with_reducible apply Below.drew | with_reducible apply Below.ofDrewN | with_reducible assumption | (with_reducible refine Below.setCell ?_ (by first | exact Nat.le_refl _ | (simp [go_sem]; done) | (simp [go_sem]; omega)) _)))⟩
set_option maxRecDepth 100000 in
set_option maxHeartbeats 1000000 in
theorem impl_AgreeOn (va vb vs : Value) (a b : List CellD) (ss : List ByteArray) (w : World) (ha : RdL rCell w va a) (hb : RdL rCell w vb b) (hs : RdS w vs ss) (hka : ∀ c ∈ a, c.ok) (hkb : ∀ c ∈ b, c.ok) (hl : a.length ≤ 1048576) (hl2 : b.length ≤ 1048576) :
    Calls Try.prog 26 #[va, vb, vs] w fun e w' => e = .returned (.bool !((diffC a b).any (spansHave ss))) ∧ Below w.heap.size w w' := by
  have HS := Lib.hid hs
  have HA := Lib.hid ha
  have HB := Lib.hid hb
  have HKA := Lib.hid hka
  have HKB := Lib.hid hkb
  obtain ⟨aa, ca, rfl⟩ := ha.form
  obtain ⟨ab, cb, rfl⟩ := hb.form
  obtain ⟨sa, sc, rfl, hs1, hs2, _⟩ := hs
  clear ha hb hka hkb
  go_enter Try.func26, Try.ntmps26
  go_wp2_with fail
  (go_at_call 41; refine (impl_DiffKeys _ _ a b _ (by (try simp only [← Array.append_assoc]); (repeat (first | with_reducible exact HA.out | with_reducible apply RdL.mergeC2 | with_reducible apply RdL.ext | with_reducible apply RdL.alloc | with_reducible apply RdL.drew)); all_goals exact (0 : Nat)) (by (try simp only [← Array.append_assoc]); (repeat (first | with_reducible exact HB.out | with_reducible apply RdL.mergeC2 | with_reducible apply RdL.ext | with_reducible apply RdL.alloc | with_reducible apply RdL.drew)); all_goals exact (0 : Nat)) HKA.out HKB.out hl hl2).mono ?_; rintro e w' ⟨v', rfl, ho', hb'⟩; have HP := Lib.hid (RdS.ofL ho'.rd (diffC_ok a b HKA.out HKB.out)); obtain ⟨Y, rfl⟩ := hb'.ext; clear ho' hb')
  go_wp2_with fail
  (go_at_call 43; refine (ContainsFunc_A _ (diffC a b) _ sa sc ss _ (by (try simp only [← Array.append_assoc]); (repeat (first | with_reducible exact HP.out | with_reducible apply RdS.merge | with_reducible apply RdS.ext | with_reducible apply RdS.alloc | with_reducible apply RdS.drew)); all_goals exact (0 : Nat)) (by (try simp only [← Array.append_assoc]); (repeat (first | with_reducible exact HS.out | with_reducible apply RdS.merge | with_reducible apply RdS.ext | with_reducible apply RdS.alloc | with_reducible apply RdS.drew)); all_goals exact (0 : Nat)) (by simp [go_sem, World.ext_size]; try omega) (by simp [go_sem])).mono ?_; rintro e w' ⟨rfl, hb⟩; obtain ⟨X, rfl⟩ := hb.ext; clear hb)
  go_wp2
  go_ret
  exact ⟨rfl, (by repeat (first | with_reducible exact Below.refl _ _ | with_reducible apply Below.ofExt | with_reducible apply Below.ofAlloc | with_reducible apply Below.drew | with_reducible apply Below.ofDrewN | with_reducible assumption | (with_reducible refine Below.setCell ?_ (by first | exact Nat.le_refl _ | (simp [go_sem]; done) | (simp [go_sem]; omega)) _)))⟩
end Go.Proofs.Ytdgnnphghfppbaa
