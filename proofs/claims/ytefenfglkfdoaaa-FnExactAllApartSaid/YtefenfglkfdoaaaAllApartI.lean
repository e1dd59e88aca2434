/- Whether the live transactions of a list are apart, the program: the program's and the reference's. Each condition stands in its theorem. -/
import Derived.Test.YtefenfglkfdoaaaAllApart
set_option linter.unusedVariables false
set_option linter.unusedSimpArgs false
namespace Go.Proofs.Ytefenfglkfdoaaa
open Go.ChangeShapes Go.WideShapes Go.ChangeAt Go.RowKit

set_option maxRecDepth 100000 in
set_option maxHeartbeats 4000000 in
theorem impl_AllApart (v : Value) (ds : List TxD) (w : World) {e : TypeId} (hs : (vSlice vTx e).rd w [v] ds) :
    Calls Try.prog 57 #[v] w fun e w' => e = .returned (.bool (allApart ds)) ∧ Below w.heap.size w w' := by
  obtain ⟨ao, cap, rfl, hc1, hc2, hnil, hcell⟩ := vSlice.shape hs
  have HX := Lib.hid hcell
  clear hcell hnil
  unfold maxLen at hc2
  clear hs
  go_enter Try.func57, Try.ntmps57
  go_wp2
  go_loopw [9] (fun k wr => ∃ (n : Nat), k = .int .i64 n ∧ n ≤ ds.length ∧ Below w.heap.size w wr ∧ apUp ds n = true) (fun k _ => ds.length - (intOf k).toNat)
  case atStart => exact ⟨0, rfl, by omega, (by repeat (first | with_reducible exact Below.refl _ _ | with_reducible apply Below.ofExt | with_reducible apply Below.ofAlloc | with_reducible apply Below.drew | with_reducible apply Below.ofDrewN | with_reducible assumption | (with_reducible refine Below.setCell ?_ (by first | exact Nat.le_refl _ | (simp [go_sem]; done) | (simp [go_sem]; omega)) _))), rfl⟩
  case round =>
    obtain ⟨n, rfl, hn, hbel, hall⟩ := hrel
    obtain ⟨X, rfl⟩ := hbel.ext
    have HA := Lib.hid hall
    clear hall
    by_cases hlt : (n : Int) < ds.length
    case pos =>
      have hk : n < ds.length := by omega
      have hst := apUp_step ds n hk
      have hmono := fun (m : Nat) (hm : m ≤ n) => any_take_true (clashLive ds[n]) (ds.take n) m
      obtain ⟨b, off, csy, rfl, hbly, hrdy, hcelly⟩ := HX.out n hk
      generalize ds[n] = x at hrdy hst hmono
      have Hx := Lib.hid hrdy
      obtain ⟨ps0, ps1, ps2, ps3, ps4, rfl, ph0, ph1, ph2, ph3, ph4⟩ := hrdy
      obtain ⟨pa0, pc0, rfl⟩ := vSlice.form ph0
      obtain ⟨pa1, pc1, rfl⟩ := vSlice.form ph1
      obtain ⟨pa2, pc2, rfl⟩ := vSlice.form ph2
      obtain ⟨pa3, pc3, rfl⟩ := vSlice.form ph3
      obtain ⟨pa4, pc4, rfl⟩ := vSlice.form ph4
      have pT : Hid (vTouch.rd w [_, _] x.touch) := ⟨_, _, rfl, ph2, ph3⟩
      clear ph0 ph1 ph2 ph3 ph4
      have y0 := hcelly 0 _ rfl
      have y1 := hcelly 1 _ rfl
      have y2 := hcelly 2 _ rfl
      have y3 := hcelly 3 _ rfl
      have y4 := hcelly 4 _ rfl
      have y5 := hcelly 5 _ rfl
      have y6 := hcelly 6 _ rfl
      have y7 := hcelly 7 _ rfl
      have y8 := hcelly 8 _ rfl
      have y9 := hcelly 9 _ rfl
      clear hcelly
      simp only [show vTx.k = 10 from rfl, Nat.add_zero] at y0 y1 y2 y3 y4 y5 y6 y7 y8 y9
      have HST := Lib.hid hst
      have HMO := Lib.hid hmono
      clear hst hmono
      have hnc : n ≤ cap := by omega
      have q1 : b < w.heap.size + X.bs.size := by omega
      have q2 : ¬ b = w.heap.size + X.bs.size := by omega
      have q3 : b < w.heap.size + X.bs.size + 1 := by omega
      go_wp2
      go_loopw [18] (fun k wr => ∃ (m : Nat), k = .int .i64 m ∧ m ≤ n ∧ Below ((w.ext X).alloc (.cells #[.int .i64 x.id, .int .i64 x.age, .int .i64 x.proc, .int .i64 x.began, .slice pa0 x.calls.length pc0, .slice pa1 x.answers.length pc1, .slice pa2 x.touch.reads.length pc2, .slice pa3 x.touch.writes.length pc3, .slice pa4 x.marks.length pc4, .int .i64 x.state] 29)).heap.size ((w.ext X).alloc (.cells #[.int .i64 x.id, .int .i64 x.age, .int .i64 x.proc, .int .i64 x.began, .slice pa0 x.calls.length pc0, .slice pa1 x.answers.length pc1, .slice pa2 x.touch.reads.length pc2, .slice pa3 x.touch.writes.length pc3, .slice pa4 x.marks.length pc4, .int .i64 x.state] 29)) wr ∧ ((ds.take n).take m).any (clashLive x) = false) (fun k _ => n - (intOf k).toNat)
      case atStart => exact ⟨0, rfl, by omega, Below.refl _ _, rfl⟩
      case round =>
        obtain ⟨m, rfl, hm, hbel2, hany⟩ := hrel
        obtain ⟨Y, rfl⟩ := hbel2.ext
        have HN := Lib.hid hany
        clear hany
        by_cases hlt2 : (m : Int) < n
        case pos =>
          have hk2 : m < n := by omega
          have hk3 : m < ds.length := by omega
          have hs2 := any_take_step (clashLive x) (ds.take n) m (by rw [List.length_take]; omega)
          have hge : (ds.take n)[m]'(by rw [List.length_take]; omega) = ds[m] := by simp
          rw [hge] at hs2
          clear hge
          obtain ⟨b9, off9, csu, eb, hblu, hrdu, hcellu⟩ := HX.out m hk3
          simp only [Option.some.injEq, Addr.mk.injEq, and_true] at eb
          obtain ⟨rfl, rfl⟩ := eb
          generalize ds[m] = z at hrdu hs2
          have Hz := Lib.hid hrdu
          obtain ⟨qs0, qs1, qs2, qs3, qs4, rfl, qh0, qh1, qh2, qh3, qh4⟩ := hrdu
          obtain ⟨qa0, qc0, rfl⟩ := vSlice.form qh0
          obtain ⟨qa1, qc1, rfl⟩ := vSlice.form qh1
          obtain ⟨qa2, qc2, rfl⟩ := vSlice.form qh2
          obtain ⟨qa3, qc3, rfl⟩ := vSlice.form qh3
          obtain ⟨qa4, qc4, rfl⟩ := vSlice.form qh4
          have qT : Hid (vTouch.rd w [_, _] z.touch) := ⟨_, _, rfl, qh2, qh3⟩
          clear qh0 qh1 qh2 qh3 qh4
          have u0 := hcellu 0 _ rfl
          have u1 := hcellu 1 _ rfl
          have u2 := hcellu 2 _ rfl
          have u3 := hcellu 3 _ rfl
          have u4 := hcellu 4 _ rfl
          have u5 := hcellu 5 _ rfl
          have u6 := hcellu 6 _ rfl
          have u7 := hcellu 7 _ rfl
          have u8 := hcellu 8 _ rfl
          have u9 := hcellu 9 _ rfl
          clear hcellu
          simp only [show vTx.k = 10 from rfl, Nat.add_zero] at u0 u1 u2 u3 u4 u5 u6 u7 u8 u9
          have HS2 := Lib.hid hs2
          clear hs2
          have hq : clashLive x z = clashLive x z := rfl
          conv at hq => rhs; unfold clashLive
          by_cases f1 : x.state = 1
          case neg =>
            have g1 : (x.state == 1) = false := by simp [f1]
            have HQ : Hid (clashLive x z = false) := by show _ = _; rw [hq, g1]; rfl
            clear hq
            go_wp2
            go_roundw
            case rel => exact ⟨m + 1, by go_num, by omega, (by repeat (first | with_reducible exact Below.refl _ _ | with_reducible apply Below.ofExt | with_reducible apply Below.ofAlloc | with_reducible apply Below.drew | with_reducible apply Below.ofDrewN | with_reducible assumption | (with_reducible refine Below.setCell ?_ (by first | exact Nat.le_refl _ | (simp [go_sem]; done) | (simp [go_sem]; omega)) _))), by rw [HS2.out, HN.out, HQ.out]; rfl⟩
            case measure => simp [intOf]; omega
          have g1 : (x.state == 1) = true := by simp [f1]
          by_cases f2 : z.state = 1
          case neg =>
            have g2 : (z.state == 1) = false := by simp [f2]
            have HQ : Hid (clashLive x z = false) := by show _ = _; rw [hq, g1, g2]; rfl
            clear hq
            clear f1
            go_wp2
            go_roundw
            case rel => exact ⟨m + 1, by go_num, by omega, (by repeat (first | with_reducible exact Below.refl _ _ | with_reducible apply Below.ofExt | with_reducible apply Below.ofAlloc | with_reducible apply Below.drew | with_reducible apply Below.ofDrewN | with_reducible assumption | (with_reducible refine Below.setCell ?_ (by first | exact Nat.le_refl _ | (simp [go_sem]; done) | (simp [go_sem]; omega)) _))), by rw [HS2.out, HN.out, HQ.out]; rfl⟩
            case measure => simp [intOf]; omega
          have g2 : (z.state == 1) = true := by simp [f2]
          cases hc : clash x.touch z.touch with
          | false =>
            have HQ : Hid (clashLive x z = false) := by show _ = _; rw [hq, g1, g2, hc]; rfl
            have HC := Lib.hid hc
            clear hq hc f1 f2
            go_wp2_with fail
            (go_at_call 108; refine (impl_Clash _ x.touch _ z.touch _ (by (try simp only [← Array.append_assoc]); (repeat (first | with_reducible exact pT.out | with_reducible apply View.rdMerge | with_reducible apply View.rdExt | with_reducible apply View.rdAlloc | with_reducible apply View.rdDrew | with_reducible apply View.rdDrewN)); all_goals exact (0 : Nat)) (by (try simp only [← Array.append_assoc]); (repeat (first | with_reducible exact qT.out | with_reducible apply View.rdMerge | with_reducible apply View.rdExt | with_reducible apply View.rdAlloc | with_reducible apply View.rdDrew | with_reducible apply View.rdDrewN)); all_goals exact (0 : Nat))).mono ?_; rintro e w' ⟨rfl, hb⟩; obtain ⟨X, rfl⟩ := hb.ext; clear hb)
            rw [HC.out]
            go_wp2
            go_roundw
            case rel => exact ⟨m + 1, by go_num, by omega, (by repeat (first | with_reducible exact Below.refl _ _ | with_reducible apply Below.ofExt | with_reducible apply Below.ofAlloc | with_reducible apply Below.drew | with_reducible apply Below.ofDrewN | with_reducible assumption | (with_reducible refine Below.setCell ?_ (by first | exact Nat.le_refl _ | (simp [go_sem]; done) | (simp [go_sem]; omega)) _))), by rw [HS2.out, HN.out, HQ.out]; rfl⟩
            case measure => simp [intOf]; omega
          | true =>
            have HQ : Hid (clashLive x z = true) := by show _ = _; rw [hq, g1, g2, hc]; rfl
            have HC := Lib.hid hc
            clear hq hc f1 f2
            go_wp2_with fail
            (go_at_call 108; refine (impl_Clash _ x.touch _ z.touch _ (by (try simp only [← Array.append_assoc]); (repeat (first | with_reducible exact pT.out | with_reducible apply View.rdMerge | with_reducible apply View.rdExt | with_reducible apply View.rdAlloc | with_reducible apply View.rdDrew | with_reducible apply View.rdDrewN)); all_goals exact (0 : Nat)) (by (try simp only [← Array.append_assoc]); (repeat (first | with_reducible exact qT.out | with_reducible apply View.rdMerge | with_reducible apply View.rdExt | with_reducible apply View.rdAlloc | with_reducible apply View.rdDrew | with_reducible apply View.rdDrewN)); all_goals exact (0 : Nat))).mono ?_; rintro e w' ⟨rfl, hb⟩; obtain ⟨X, rfl⟩ := hb.ext; clear hb)
            rw [HC.out]
            go_wp2
            go_ret
            exact ⟨by rw [allApart_no ds (n + 1) (by rw [HST.out, HMO.out (m + 1) (by omega) (by rw [HS2.out, HQ.out, Bool.or_true])]; simp)]; rfl, (by repeat (first | with_reducible exact Below.refl _ _ | with_reducible apply Below.ofExt | with_reducible apply Below.ofAlloc | with_reducible apply Below.drew | with_reducible apply Below.ofDrewN | with_reducible assumption | (with_reducible refine Below.setCell ?_ (by first | exact Nat.le_refl _ | (simp [go_sem]; done) | (simp [go_sem]; omega)) _)))⟩
        case neg =>
          have e : m = n := by omega
          have hn2 := HN.out
          rw [e, List.take_of_length_le (by rw [List.length_take]; omega)] at hn2
          have HN2 := Lib.hid hn2
          clear hn2
          go_wp2
          go_roundw
          case rel => exact ⟨n + 1, by go_num, by omega, (by repeat (first | with_reducible exact Below.refl _ _ | with_reducible apply Below.ofExt | with_reducible apply Below.ofAlloc | with_reducible apply Below.drew | with_reducible apply Below.ofDrewN | with_reducible assumption | (with_reducible refine Below.setCell ?_ (by first | exact Nat.le_refl _ | (simp [go_sem]; done) | (simp [go_sem]; omega)) _))), by rw [HST.out, HA.out, HN2.out]; rfl⟩
          case measure => simp [intOf]; omega
    case neg =>
      have e : n = ds.length := by omega
      have HF : Hid (allApart ds = true) := by show _ = _; unfold allApart; rw [← e]; exact HA.out
      go_wp2
      go_ret
      exact ⟨by rw [HF.out]; rfl, (by repeat (first | with_reducible exact Below.refl _ _ | with_reducible apply Below.ofExt | with_reducible apply Below.ofAlloc | with_reducible apply Below.drew | with_reducible apply Below.ofDrewN | with_reducible assumption | (with_reducible refine Below.setCell ?_ (by first | exact Nat.le_refl _ | (simp [go_sem]; done) | (simp [go_sem]; omega)) _)))⟩
end Go.Proofs.Ytefenfglkfdoaaa
