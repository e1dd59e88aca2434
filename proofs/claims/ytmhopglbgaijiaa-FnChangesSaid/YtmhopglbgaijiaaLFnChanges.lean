/- The law FnChanges: its walk. Each condition stands in its theorem. -/
import Derived.Test.YtmhopglbgaijiaaDrawS
import Derived.Test.YtmhopglbgaijiaaChgLaw
set_option linter.unusedVariables false
set_option linter.unusedSimpArgs false
namespace Go.Proofs.Ytmhopglbgaijiaa
open Go.ChangeShapes Go.WideShapes Go.ChangeAt Go.RowKit
theorem smalls_ok {a : List CellD} (h : ∀ x ∈ a, SmallC x) : ∀ c ∈ a, c.ok := fun c hc => by
  have := h c hc
  unfold SmallC at this
  exact ⟨by omega, by omega⟩
theorem cells_rdS {w : World} {B : Nat} {v : Value} {xs : List CellD} (h : OwnL rCell 53 w B v xs) (hs : ∀ x ∈ xs, SmallC x) : (vSlice vCell 53).rd w [v] xs := by
  obtain ⟨fp, ho, _⟩ := own_of_cells h (smalls_ok hs)
  exact View.toRd _ ho
set_option maxRecDepth 100000 in
set_option maxHeartbeats 4000000 in
theorem law_FnChanges (v : Value) (bs : List UInt8) (W : World) (hs : Sl W v bs.length (bytesOf bs)) (hb : ∀ b, v.ownBlock = some b → b < W.heap.size) : Calls Try.prog 4 #[v] W (Yes W) := by
  have HS := Lib.hid hs
  have HB := Lib.hid hb
  unfold Yes
  by_cases hbig : 1048576 < bs.length
  · go_enter Try.func4, Try.ntmps4
    go_wp2_with fail
    (go_at_call 5; refine (laws_big v bs.length _ _ hs).mono ?_; rintro e w' ⟨rfl, rfl⟩)
    go_wp2
    go_ret
    exact ⟨rfl, (by repeat (first | with_reducible exact Below.refl _ _ | with_reducible apply Below.ofExt | with_reducible apply Below.ofAlloc | with_reducible apply Below.drew | with_reducible apply Below.ofDrewN | with_reducible assumption | (with_reducible refine Below.setCell ?_ (by first | exact Nat.le_refl _ | (simp [go_sem]; done) | (simp [go_sem]; omega)) _)))⟩
  clear hs hb
  go_enter Try.func4, Try.ntmps4
  go_wp2_with fail
  (go_at_call 5; refine (laws_big v bs.length _ _ HS.out).mono ?_; rintro e w' ⟨rfl, rfl⟩)
  go_wp2_with fail
  (go_at_call 21; refine (spec_DrawChanges v bs _ HS.out (by omega) HB.out).mono ?_; rintro e w1 ⟨va, vb, rfl, a, b, Ba, Bb, hoa, hob, hla, hlb, hsa, hsb, hb1⟩)
  obtain ⟨aa, ca, rfl⟩ := hoa.rd.form
  obtain ⟨ab, cb, rfl⟩ := hob.rd.form
  have HA1 := Lib.hid hoa; have HB1 := Lib.hid hob; have HSA := Lib.hid hsa; have HSB := Lib.hid hsb
  clear hoa hob hsa hsb
  go_wp2_with fail
  (go_at_call 22; refine (impl_Changes _ _ a b _ HA1.out.rd HB1.out.rd (smalls_ok HSA.out) (smalls_ok HSB.out) (by omega) (by omega)).mono ?_; rintro e w2 ⟨vl, rfl, hol, hb2⟩)
  obtain ⟨al, cl, rfl⟩ := hol.rd.form
  have HL2 := Lib.hid hol
  have HA2 := Lib.hid (own_belowC HA1.out hb2); have HB2 := Lib.hid (own_belowC HB1.out hb2)
  have hW2 := Below.then hb1 hb2
  have hz2 := hW2.size
  have hcl := chgC_len a b
  have HCO := Lib.hid (chgC_ok a b (smalls_ok HSA.out) (smalls_ok HSB.out))
  clear hol HA1 HB1 hb1 hb2
  go_wp2_with fail
  (go_at_call 23; refine (spec_DrawApplyRecord v bs _ (Sl.below HS.out hW2) (by omega) (fun b hb => by have := HB.out b hb; omega)).mono ?_; rintro e w3 ⟨vs, vm, rfl, s, m, Bs, Bm, hos, hom, hls, hlm, hss, hsm, hb3⟩)
  obtain ⟨as_, cs_, rfl⟩ := hos.rd.form
  obtain ⟨am, cm, rfl⟩ := hom.rd.form
  have HS3 := Lib.hid hos; have HM3 := Lib.hid hom; have HSS := Lib.hid hss; have HSM := Lib.hid hsm
  have HA3 := Lib.hid (own_belowC HA2.out hb3); have HB3 := Lib.hid (own_belowC HB2.out hb3); have HL3 := Lib.hid (own_belowC HL2.out hb3)
  have hW3 := Below.then hW2 hb3
  clear hos hom hss hsm HA2 HB2 HL2 hW2 hb3
  go_wp2_with fail
  (go_at_call 25; refine (spec_Changes _ _ a b _ HA3.out.rd HB3.out.rd (by omega) (by omega)).mono ?_; rintro e w4 ⟨vk, rfl, hok, hb4⟩)
  obtain ⟨ak, ck, rfl⟩ := hok.rd.form
  have HK4 := Lib.hid hok
  have HA4 := Lib.hid (own_belowC HA3.out hb4); have HB4 := Lib.hid (own_belowC HB3.out hb4); have HL4 := Lib.hid (own_belowC HL3.out hb4); have HS4 := Lib.hid (own_belowC HS3.out hb4); have HM4 := Lib.hid (own_belowC HM3.out hb4)
  have hW4 := Below.then hW3 hb4
  clear hok HA3 HB3 HL3 HS3 HM3 hW3 hb4
  go_wp2_with fail
  (go_at_call 24; refine (laws_sameCells _ _ (chgC a b) _ HL4.out.rd HK4.out.rd).mono ?_; rintro e w5 ⟨rfl, hb5⟩)
  have HA5 := Lib.hid (own_belowC HA4.out hb5); have HB5 := Lib.hid (own_belowC HB4.out hb5); have HL5 := Lib.hid (own_belowC HL4.out hb5); have HS5 := Lib.hid (own_belowC HS4.out hb5); have HM5 := Lib.hid (own_belowC HM4.out hb5)
  have hW5 := Below.then hW4 hb5
  clear HK4 HA4 HB4 HL4 HS4 HM4 hW4 hb5
  go_wp2_with fail
  (go_at_call 26; refine (impl_ApplyRecord _ _ s m _ HS5.out.rd HM5.out.rd (smalls_ok HSM.out) (by omega) (by omega)).mono ?_; rintro e w6 ⟨vx, rfl, hox, hb6⟩)
  obtain ⟨ax, cx, rfl⟩ := hox.rd.form
  have HX6 := Lib.hid hox
  have HA6 := Lib.hid (own_belowC HA5.out hb6); have HB6 := Lib.hid (own_belowC HB5.out hb6); have HL6 := Lib.hid (own_belowC HL5.out hb6); have HS6 := Lib.hid (own_belowC HS5.out hb6); have HM6 := Lib.hid (own_belowC HM5.out hb6)
  have hW6 := Below.then hW5 hb6
  clear hox HA5 HB5 HL5 HS5 HM5 hW5 hb6
  go_wp2_with fail
  (go_at_call 27; refine (spec_ApplyRecord _ _ s m _ HS6.out.rd HM6.out.rd (smalls_ok HSM.out) (by omega) (by omega)).mono ?_; rintro e w7 ⟨vy, rfl, hoy, hb7⟩)
  obtain ⟨ay, cy, rfl⟩ := hoy.rd.form
  have HY7 := Lib.hid hoy
  have HA7 := Lib.hid (own_belowC HA6.out hb7); have HB7 := Lib.hid (own_belowC HB6.out hb7); have HL7 := Lib.hid (own_belowC HL6.out hb7); have HX7 := Lib.hid (own_belowC HX6.out hb7)
  have hW7 := Below.then hW6 hb7
  clear hoy HA6 HB6 HL6 HS6 HM6 HX6 hW6 hb7
  go_wp2_with fail
  (go_at_call 24; refine (laws_sameCells _ _ (applyC s m) _ HX7.out.rd HY7.out.rd).mono ?_; rintro e w8 ⟨rfl, hb8⟩)
  have HA8 := Lib.hid (own_belowC HA7.out hb8); have HB8 := Lib.hid (own_belowC HB7.out hb8); have HL8 := Lib.hid (own_belowC HL7.out hb8)
  have hW8 := Below.then hW7 hb8
  clear HA7 HB7 HL7 HX7 HY7 hW7 hb8
  go_wp2_with fail
  (go_at_call 28; refine (spec_StoreOk _ a _ (cells_rdS HA8.out HSA.out)).mono ?_; rintro e w9 ⟨rfl, hb9⟩)
  have HA9 := Lib.hid (own_belowC HA8.out hb9); have HB9 := Lib.hid (own_belowC HB8.out hb9); have HL9 := Lib.hid (own_belowC HL8.out hb9)
  have hW9 := Below.then hW8 hb9
  clear HA8 HB8 HL8 hW8 hb9
  cases ha : storeOk a with
  | false =>
    go_wp2_with fail
    (go_at_call 22; refine (impl_Changes _ _ a a _ HA9.out.rd HA9.out.rd (smalls_ok HSA.out) (smalls_ok HSA.out) (by omega) (by omega)).mono ?_; rintro e w20 ⟨vp, rfl, hop, hb20⟩)
    obtain ⟨ap, cp, e20⟩ := hop.rd.form
    rw [chg_self] at e20
    subst e20
    have hW20 := Below.then hW9 hb20
    have hz20 := hW20.size
    clear hop hb20
    go_wp2_with fail
    (go_at_call 22; refine (impl_Changes _ _ [] [⟨⟨#[97]⟩, ⟨#[98]⟩⟩] _ (OwnL.nil rCell 53 _ 0).rd (RdL.oneAt rCell w20 ⟨⟨#[97]⟩, ⟨#[98]⟩⟩ _ rfl _ _ rfl) (by simp) (by intro c hc; rw [List.mem_singleton.1 hc]; exact ⟨by decide, by decide⟩) (by simp) (by simp)).mono ?_; rintro e w21 ⟨vq, rfl, hoq, hb21⟩)
    obtain ⟨aq, cq, e21⟩ := hoq.rd.form
    rw [chg_ab] at e21
    subst e21
    have hW21 : Below W.heap.size W w21 := Below.then (hW20.ofAlloc _) hb21
    clear hoq hb21
    go_wp2
    go_ret
    exact ⟨rfl, hW21⟩
  | true =>
    have HOA := Lib.hid ha
    clear ha
    go_wp2_with fail
    (go_at_call 28; refine (spec_StoreOk _ b _ (cells_rdS HB9.out HSB.out)).mono ?_; rintro e w10 ⟨rfl, hb10⟩)
    have HA10 := Lib.hid (own_belowC HA9.out hb10); have HB10 := Lib.hid (own_belowC HB9.out hb10); have HL10 := Lib.hid (own_belowC HL9.out hb10)
    have hW10 := Below.then hW9 hb10
    clear HA9 HB9 HL9 hW9 hb10
    cases hbo : storeOk b with
    | false =>
      go_wp2_with fail
      (go_at_call 22; refine (impl_Changes _ _ a a _ HA10.out.rd HA10.out.rd (smalls_ok HSA.out) (smalls_ok HSA.out) (by omega) (by omega)).mono ?_; rintro e w20 ⟨vp, rfl, hop, hb20⟩)
      obtain ⟨ap, cp, e20⟩ := hop.rd.form
      rw [chg_self] at e20
      subst e20
      have hW20 := Below.then hW10 hb20
      have hz20 := hW20.size
      clear hop hb20
      go_wp2_with fail
      (go_at_call 22; refine (impl_Changes _ _ [] [⟨⟨#[97]⟩, ⟨#[98]⟩⟩] _ (OwnL.nil rCell 53 _ 0).rd (RdL.oneAt rCell w20 ⟨⟨#[97]⟩, ⟨#[98]⟩⟩ _ rfl _ _ rfl) (by simp) (by intro c hc; rw [List.mem_singleton.1 hc]; exact ⟨by decide, by decide⟩) (by simp) (by simp)).mono ?_; rintro e w21 ⟨vq, rfl, hoq, hb21⟩)
      obtain ⟨aq, cq, e21⟩ := hoq.rd.form
      rw [chg_ab] at e21
      subst e21
      have hW21 : Below W.heap.size W w21 := Below.then (hW20.ofAlloc _) hb21
      clear hoq hb21
      go_wp2
      go_ret
      exact ⟨rfl, hW21⟩
    | true =>
      have HOB := Lib.hid hbo
      clear hbo
      go_wp2_with fail
      (go_at_call 26; refine (impl_ApplyRecord _ _ a (chgC a b) _ HA10.out.rd HL10.out.rd HCO.out (by omega) (by omega)).mono ?_; rintro e w11 ⟨vz, rfl, hoz, hb11⟩)
      rw [apply_chg HOA.out HOB.out] at hoz
      obtain ⟨az, cz, rfl⟩ := hoz.rd.form
      have HZ11 := Lib.hid hoz
      have HA11 := Lib.hid (own_belowC HA10.out hb11); have HB11 := Lib.hid (own_belowC HB10.out hb11)
      have hW11 := Below.then hW10 hb11
      clear hoz HA10 HB10 HL10 hW10 hb11
      go_wp2_with fail
      (go_at_call 24; refine (laws_sameCells _ _ b _ HZ11.out.rd HB11.out.rd).mono ?_; rintro e w12 ⟨rfl, hb12⟩)
      have HA12 := Lib.hid (own_belowC HA11.out hb12)
      have hW12 := Below.then hW11 hb12
      clear HA11 HB11 HZ11 hW11 hb12
      go_wp2_with fail
      (go_at_call 22; refine (impl_Changes _ _ a a _ HA12.out.rd HA12.out.rd (smalls_ok HSA.out) (smalls_ok HSA.out) (by omega) (by omega)).mono ?_; rintro e w20 ⟨vp, rfl, hop, hb20⟩)
      obtain ⟨ap, cp, e20⟩ := hop.rd.form
      rw [chg_self] at e20
      subst e20
      have hW20 := Below.then hW12 hb20
      have hz20 := hW20.size
      clear hop hb20
      go_wp2_with fail
      (go_at_call 22; refine (impl_Changes _ _ [] [⟨⟨#[97]⟩, ⟨#[98]⟩⟩] _ (OwnL.nil rCell 53 _ 0).rd (RdL.oneAt rCell w20 ⟨⟨#[97]⟩, ⟨#[98]⟩⟩ _ rfl _ _ rfl) (by simp) (by intro c hc; rw [List.mem_singleton.1 hc]; exact ⟨by decide, by decide⟩) (by simp) (by simp)).mono ?_; rintro e w21 ⟨vq, rfl, hoq, hb21⟩)
      obtain ⟨aq, cq, e21⟩ := hoq.rd.form
      rw [chg_ab] at e21
      subst e21
      have hW21 : Below W.heap.size W w21 := Below.then (hW20.ofAlloc _) hb21
      clear hoq hb21
      go_wp2
      go_ret
      exact ⟨rfl, hW21⟩
end Go.Proofs.Ytmhopglbgaijiaa
