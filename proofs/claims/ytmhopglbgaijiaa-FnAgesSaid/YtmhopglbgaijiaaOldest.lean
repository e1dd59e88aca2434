/- The oldest live transaction: the program's and the reference's. Each condition stands in its theorem. -/
import Derived.Test.YtmhopglbgaijiaaOlder
import Derived.Test.YtmhopglbgaijiaaCTxS
set_option linter.unusedVariables false
set_option linter.unusedSimpArgs false
namespace Go
theorem Sx.sameA (w : World) (xs : Array Obj) (d0 d1 : Nat) (o : Obj) : Sx ((w.ext ⟨xs, d0⟩).alloc o) ((w.ext ⟨xs, d1⟩).alloc o) := ⟨⟨#[], d1⟩, by unfold World.ext World.alloc; simp⟩
end Go
namespace Go.Proofs.Ytmhopglbgaijiaa
open Go.ChangeShapes Go.WideShapes Go.ChangeAt Go.RowKit

def oldUp (ds : List TxD) : Nat → Int
  | 0 => -1
  | n + 1 => match ds[n]? with
    | none => oldUp ds n
    | some d => if (d.state == 1) && (decide (oldUp ds n < 0) || olderB d ((ds[(oldUp ds n).toNat]?).getD d)) then n else oldUp ds n
theorem oldUp_step (ds : List TxD) (n : Nat) (h : n < ds.length) : oldUp ds (n + 1) = if (ds[n].state == 1) && (decide (oldUp ds n < 0) || olderB ds[n] ((ds[(oldUp ds n).toNat]?).getD ds[n])) then (n : Int) else oldUp ds n := by
  conv => lhs; unfold oldUp
  rw [List.getElem?_eq_getElem h]
theorem oldUp_lo (ds : List TxD) : ∀ n, -1 ≤ oldUp ds n
  | 0 => by unfold oldUp; omega
  | n + 1 => by
    have := oldUp_lo ds n
    unfold oldUp
    split
    · exact this
    · split <;> omega
theorem oldUp_hi (ds : List TxD) : ∀ n, oldUp ds n < n
  | 0 => by unfold oldUp; omega
  | n + 1 => by
    have := oldUp_hi ds n
    unfold oldUp
    split
    · omega
    · split <;> omega
def oldestLive (ds : List TxD) : Int := if oldUp ds ds.length < 0 then 0 else ((ds[(oldUp ds ds.length).toNat]?).map TxD.id).getD 0
set_option maxRecDepth 100000 in
set_option maxHeartbeats 4000000 in
theorem spec_OldestLive (v : Value) (ds : List TxD) (w : World) {e : TypeId} (hs : (vSlice vTx e).rd w [v] ds) :
    Calls Try.prog 18 #[v] w fun e w' => e = .returned (.int .i64 (oldestLive ds)) ∧ Below w.heap.size w w' := by
  obtain ⟨ao, cap, rfl, hc1, hc2, hnil, hcell⟩ := vSlice.shape hs
  have HX := Lib.hid hcell
  clear hcell hnil
  unfold maxLen at hc2
  clear hs
  go_enter Try.func18, Try.ntmps18
  go_wp2
  go_loopw [3, 4] (fun g k wr => ∃ (n : Nat) (m : Int), k = .int .i64 n ∧ n ≤ ds.length ∧ Below w.heap.size w wr ∧ g = .int .i64 m ∧ m = oldUp ds n) (fun _ k _ => ds.length - (intOf k).toNat)
  case atStart => exact ⟨0, -1, rfl, by omega, Below.refl _ _, rfl, rfl⟩
  case round =>
    obtain ⟨n, m, rfl, hn, hbel, rfl, hmx⟩ := hrel
    obtain ⟨X, rfl⟩ := hbel.ext
    have hlo := oldUp_lo ds n
    have hhi := oldUp_hi ds n
    rw [← hmx] at hlo hhi
    have HM := Lib.hid hmx
    clear hmx
    by_cases hlt : (n : Int) < ds.length
    · have hk : n < ds.length := by omega
      obtain ⟨b, off, cs, rfl, hbly, hrd, hcell⟩ := HX.out n hk
      have hst := oldUp_step ds n hk
      generalize ds[n] = e at hrd hst
      have HD := Lib.hid hrd
      obtain ⟨a0, c0, a1, c1, a2, c2, a3, c3, a4, c4, rfl⟩ := vTx_shape hrd
      clear hrd
      have y0 := hcell 0 _ rfl
      have y1 := hcell 1 _ rfl
      have y2 := hcell 2 _ rfl
      have y3 := hcell 3 _ rfl
      have y4 := hcell 4 _ rfl
      have y5 := hcell 5 _ rfl
      have y6 := hcell 6 _ rfl
      have y7 := hcell 7 _ rfl
      have y8 := hcell 8 _ rfl
      have y9 := hcell 9 _ rfl
      clear hcell
      simp only [show vTx.k = 10 from rfl, Nat.add_zero] at y0 y1 y2 y3 y4 y5 y6 y7 y8 y9
      rw [← HM.out] at hst
      have HS := Lib.hid hst
      clear hst
      have q1 : b < w.heap.size + X.bs.size := by omega
      have q2 : ¬ b = w.heap.size + X.bs.size := by omega
      have q3 : b < w.heap.size + X.bs.size + 1 := by omega
      by_cases hw : e.state = 1
      case neg =>
        have HW : Hid ((e.state == 1) = false) := by show (e.state == 1) = false; simp [hw]
        have hw2 : (e.state == 1) = false := HW.out
        go_wp2
        go_quiet (fail)
        go_wp2
        go_roundw
        case rel => exact ⟨n + 1, _, by go_num, by omega, (by repeat (first | with_reducible exact Below.refl _ _ | with_reducible apply Below.ofExt | with_reducible apply Below.ofAlloc | with_reducible apply Below.drew | with_reducible apply Below.ofDrewN | with_reducible assumption | (with_reducible refine Below.setCell ?_ (by first | exact Nat.le_refl _ | (simp [go_sem]; done) | (simp [go_sem]; omega)) _))), rfl, by rw [HS.out, HW.out]; rfl⟩
        case measure => simp [intOf]; omega
      case pos =>
        have HW : Hid ((e.state == 1) = true) := by show (e.state == 1) = true; simp [hw]
        rw [hw] at HD
        have hw2 : (e.state == 1) = true := HW.out
        by_cases hb : m < 0
        · have hm1 : m = -1 := by omega
          have HB : Hid (decide (m < 0) = true) := by show decide (m < 0) = true; simp [hb]
          clear hlo hhi hb
          subst hm1
          go_wp2
          go_quiet (fail)
          go_wp2
          go_roundw
          case rel => exact ⟨n + 1, _, by go_num, by omega, (by repeat (first | with_reducible exact Below.refl _ _ | with_reducible apply Below.ofExt | with_reducible apply Below.ofAlloc | with_reducible apply Below.drew | with_reducible apply Below.ofDrewN | with_reducible assumption | (with_reducible refine Below.setCell ?_ (by first | exact Nat.le_refl _ | (simp [go_sem]; done) | (simp [go_sem]; omega)) _))), rfl, by rw [HS.out, HW.out, HB.out]; rfl⟩
          case measure => simp [intOf]; omega
        · obtain ⟨j, rfl⟩ : ∃ j : Nat, m = j := ⟨m.toNat, by omega⟩
          have HB : Hid (decide ((j : Int) < 0) = false) := decide_eq_false hb
          have hb2 : decide ((j : Int) < 0) = false := decide_eq_false hb
          have hj : j < ds.length := by omega
          obtain ⟨b2, off2, csy, eb, hbl2, hrd2, hcell2⟩ := HX.out j hj
          simp only [Option.some.injEq, Addr.mk.injEq, and_true] at eb
          obtain ⟨rfl, rfl⟩ := eb
          have hsq : (ds[((j : Nat) : Int).toNat]?).getD e = ds[j] := by rw [Int.toNat_natCast, List.getElem?_eq_getElem hj]; rfl
          generalize ds[j] = dj at hrd2 hsq
          have HJ := Lib.hid hrd2
          obtain ⟨p0, q0, p1, q1, p2, q2, p3, q3, p4, q4, rfl⟩ := vTx_shape hrd2
          clear hrd2
          have z0 := hcell2 0 _ rfl
          have z1 := hcell2 1 _ rfl
          have z2 := hcell2 2 _ rfl
          have z3 := hcell2 3 _ rfl
          have z4 := hcell2 4 _ rfl
          have z5 := hcell2 5 _ rfl
          have z6 := hcell2 6 _ rfl
          have z7 := hcell2 7 _ rfl
          have z8 := hcell2 8 _ rfl
          have z9 := hcell2 9 _ rfl
          clear hcell2
          simp only [show vTx.k = 10 from rfl, Nat.add_zero] at z0 z1 z2 z3 z4 z5 z6 z7 z8 z9
          have HQ := Lib.hid hsq
          clear hsq
          cases hg : olderB e dj with
          | true =>
            have HG := Lib.hid hg
            clear hg
            go_wp2
            refine wp_region_ord [(0,true),(1,true),(2,true),(3,true),(4,true),(5,true),(6,true),(7,true),(8,true),(9,true),(10,true),(11,true),(12,true),(13,true),(14,true),(15,true),(16,true),(17,true),(18,false),(19,true),(20,true)] 21 (by kernel_rfl) (by kernel_rfl) ?_
            repeat (refine wpOrd_quiet rfl (fun K hK => ?_); go_simp; (try simp (disch := omega) only [IntWalk.i64_in]); refine hK _ ?_; clear hK K)
            refine wpOrd_grow rfl (fun K hK => ?_); go_simp; go_at_call 12; refine (spec_Older _ e _ dj _ (by (try simp only [← Array.append_assoc]); (repeat (first | with_reducible exact HD.out | with_reducible apply View.rdMerge | with_reducible apply View.rdExt | with_reducible apply View.rdAlloc | with_reducible apply View.rdDrew | with_reducible apply View.rdDrewN)); all_goals exact (0 : Nat)) (by (try simp only [← Array.append_assoc]); (repeat (first | with_reducible exact HJ.out | with_reducible apply View.rdMerge | with_reducible apply View.rdExt | with_reducible apply View.rdAlloc | with_reducible apply View.rdDrew | with_reducible apply View.rdDrewN)); all_goals exact (0 : Nat))).mono ?_; rintro e w' ⟨rfl, hb⟩; obtain ⟨X, rfl⟩ := hb.ext; clear hb; try go_simp; refine hK _ _ (by show Sx _ _; (try simp only [← Array.append_assoc]); repeat (first | with_reducible exact Sx.sameA _ _ _ _ _ | with_reducible exact Sx.drew _ | with_reducible exact Sx.same _ _ _ _ | with_reducible exact ⟨_, rfl⟩ | with_reducible apply Sx.more | with_reducible apply Sx.ext | with_reducible apply Sx.alloc | with_reducible apply Sx.draw | with_reducible exact Sx.refl _)) ?_; clear hK K
            rw [HG.out]
            repeat (refine wpOrd_quiet rfl (fun K hK => ?_); go_simp; (try simp (disch := omega) only [IntWalk.i64_in]); refine hK _ ?_; clear hK K)
            refine wpOrd_nil ?_
            go_wp2
            go_roundw
            case rel => exact ⟨n + 1, _, by go_num, by omega, (by repeat (first | with_reducible exact Below.refl _ _ | with_reducible apply Below.ofExt | with_reducible apply Below.ofAlloc | with_reducible apply Below.drew | with_reducible apply Below.ofDrewN | with_reducible assumption | (with_reducible refine Below.setCell ?_ (by first | exact Nat.le_refl _ | (simp [go_sem]; done) | (simp [go_sem]; omega)) _))), rfl, by rw [HS.out, HW.out, HB.out, HQ.out, HG.out]; rfl⟩
            case measure => simp [intOf]; omega
          | false =>
            have HG := Lib.hid hg
            clear hg
            go_wp2
            refine wp_region_ord [(0,true),(1,true),(2,true),(3,true),(4,true),(5,true),(6,true),(7,true),(8,true),(9,true),(10,true),(11,true),(12,true),(13,true),(14,true),(15,true),(16,true),(17,true),(18,false),(19,true),(20,true)] 21 (by kernel_rfl) (by kernel_rfl) ?_
            repeat (refine wpOrd_quiet rfl (fun K hK => ?_); go_simp; (try simp (disch := omega) only [IntWalk.i64_in]); refine hK _ ?_; clear hK K)
            refine wpOrd_grow rfl (fun K hK => ?_); go_simp; go_at_call 12; refine (spec_Older _ e _ dj _ (by (try simp only [← Array.append_assoc]); (repeat (first | with_reducible exact HD.out | with_reducible apply View.rdMerge | with_reducible apply View.rdExt | with_reducible apply View.rdAlloc | with_reducible apply View.rdDrew | with_reducible apply View.rdDrewN)); all_goals exact (0 : Nat)) (by (try simp only [← Array.append_assoc]); (repeat (first | with_reducible exact HJ.out | with_reducible apply View.rdMerge | with_reducible apply View.rdExt | with_reducible apply View.rdAlloc | with_reducible apply View.rdDrew | with_reducible apply View.rdDrewN)); all_goals exact (0 : Nat))).mono ?_; rintro e w' ⟨rfl, hb⟩; obtain ⟨X, rfl⟩ := hb.ext; clear hb; try go_simp; refine hK _ _ (by show Sx _ _; (try simp only [← Array.append_assoc]); repeat (first | with_reducible exact Sx.sameA _ _ _ _ _ | with_reducible exact Sx.drew _ | with_reducible exact Sx.same _ _ _ _ | with_reducible exact ⟨_, rfl⟩ | with_reducible apply Sx.more | with_reducible apply Sx.ext | with_reducible apply Sx.alloc | with_reducible apply Sx.draw | with_reducible exact Sx.refl _)) ?_; clear hK K
            rw [HG.out]
            repeat (refine wpOrd_quiet rfl (fun K hK => ?_); go_simp; (try simp (disch := omega) only [IntWalk.i64_in]); refine hK _ ?_; clear hK K)
            refine wpOrd_nil ?_
            go_wp2
            go_roundw
            case rel => exact ⟨n + 1, _, by go_num, by omega, (by repeat (first | with_reducible exact Below.refl _ _ | with_reducible apply Below.ofExt | with_reducible apply Below.ofAlloc | with_reducible apply Below.drew | with_reducible apply Below.ofDrewN | with_reducible assumption | (with_reducible refine Below.setCell ?_ (by first | exact Nat.le_refl _ | (simp [go_sem]; done) | (simp [go_sem]; omega)) _))), rfl, by rw [HS.out, HW.out, HB.out, HQ.out, HG.out]; rfl⟩
            case measure => simp [intOf]; omega
    · have e : n = ds.length := by omega
      have hres : oldestLive ds = if m < 0 then 0 else ((ds[m.toNat]?).map TxD.id).getD 0 := by unfold oldestLive; rw [HM.out, e]
      by_cases hb : m < 0
      · have hm1 : m = -1 := by omega
        rw [if_pos hb] at hres
        have HR := Lib.hid hres
        clear hres hlo hhi hb
        subst hm1
        go_wp2
        go_ret
        exact ⟨by rw [HR.out]; rfl, (by repeat (first | with_reducible exact Below.refl _ _ | with_reducible apply Below.ofExt | with_reducible apply Below.ofAlloc | with_reducible apply Below.drew | with_reducible apply Below.ofDrewN | with_reducible assumption | (with_reducible refine Below.setCell ?_ (by first | exact Nat.le_refl _ | (simp [go_sem]; done) | (simp [go_sem]; omega)) _)))⟩
      · obtain ⟨j, rfl⟩ : ∃ j : Nat, m = j := ⟨m.toNat, by omega⟩
        have hj : j < ds.length := by omega
        rw [if_neg hb, Int.toNat_natCast, List.getElem?_eq_getElem hj] at hres
        have HR := Lib.hid hres
        clear hres
        obtain ⟨b, off, csx, rfl, hbly, hrd, hcell⟩ := HX.out j hj
        generalize ds[j] = dj at hrd HR
        obtain ⟨a0, c0, a1, c1, a2, c2, a3, c3, a4, c4, rfl⟩ := vTx_shape hrd
        have y0 := hcell 0 _ rfl
        clear hcell hrd
        simp only [show vTx.k = 10 from rfl, Nat.add_zero] at y0
        go_wp2
        go_ret
        exact ⟨by rw [HR.out]; rfl, (by repeat (first | with_reducible exact Below.refl _ _ | with_reducible apply Below.ofExt | with_reducible apply Below.ofAlloc | with_reducible apply Below.drew | with_reducible apply Below.ofDrewN | with_reducible assumption | (with_reducible refine Below.setCell ?_ (by first | exact Nat.le_refl _ | (simp [go_sem]; done) | (simp [go_sem]; omega)) _)))⟩
set_option maxRecDepth 100000 in
set_option maxHeartbeats 4000000 in
theorem impl_OldestLive (v : Value) (ds : List TxD) (w : World) {e : TypeId} (hs : (vSlice vTx e).rd w [v] ds) :
    Calls Try.prog 15 #[v] w fun e w' => e = .returned (.int .i64 (oldestLive ds)) ∧ Below w.heap.size w w' := by
  obtain ⟨ao, cap, rfl, hc1, hc2, hnil, hcell⟩ := vSlice.shape hs
  have HX := Lib.hid hcell
  clear hcell hnil
  unfold maxLen at hc2
  clear hs
  go_enter Try.func15, Try.ntmps15
  go_wp2
  go_loopw [3, 8] (fun g k wr => ∃ (n : Nat) (m : Int), k = .int .i64 n ∧ n ≤ ds.length ∧ Below w.heap.size w wr ∧ g = .int .i64 m ∧ m = oldUp ds n) (fun _ k _ => ds.length - (intOf k).toNat)
  case atStart => exact ⟨0, -1, rfl, by omega, Below.refl _ _, rfl, rfl⟩
  case round =>
    obtain ⟨n, m, rfl, hn, hbel, rfl, hmx⟩ := hrel
    obtain ⟨X, rfl⟩ := hbel.ext
    have hlo := oldUp_lo ds n
    have hhi := oldUp_hi ds n
    rw [← hmx] at hlo hhi
    have HM := Lib.hid hmx
    clear hmx
    by_cases hlt : (n : Int) < ds.length
    · have hk : n < ds.length := by omega
      obtain ⟨b, off, cs, rfl, hbly, hrd, hcell⟩ := HX.out n hk
      have hst := oldUp_step ds n hk
      generalize ds[n] = e at hrd hst
      have HD := Lib.hid hrd
      obtain ⟨a0, c0, a1, c1, a2, c2, a3, c3, a4, c4, rfl⟩ := vTx_shape hrd
      clear hrd
      have y0 := hcell 0 _ rfl
      have y1 := hcell 1 _ rfl
      have y2 := hcell 2 _ rfl
      have y3 := hcell 3 _ rfl
      have y4 := hcell 4 _ rfl
      have y5 := hcell 5 _ rfl
      have y6 := hcell 6 _ rfl
      have y7 := hcell 7 _ rfl
      have y8 := hcell 8 _ rfl
      have y9 := hcell 9 _ rfl
      clear hcell
      simp only [show vTx.k = 10 from rfl, Nat.add_zero] at y0 y1 y2 y3 y4 y5 y6 y7 y8 y9
      rw [← HM.out] at hst
      have HS := Lib.hid hst
      clear hst
      have q1 : b < w.heap.size + X.bs.size := by omega
      have q2 : ¬ b = w.heap.size + X.bs.size := by omega
      have q3 : b < w.heap.size + X.bs.size + 1 := by omega
      by_cases hw : e.state = 1
      case neg =>
        have HW : Hid ((e.state == 1) = false) := by show (e.state == 1) = false; simp [hw]
        have hw2 : (e.state == 1) = false := HW.out
        go_wp2
        go_quiet (fail)
        go_wp2
        go_roundw
        case rel => exact ⟨n + 1, _, by go_num, by omega, (by repeat (first | with_reducible exact Below.refl _ _ | with_reducible apply Below.ofExt | with_reducible apply Below.ofAlloc | with_reducible apply Below.drew | with_reducible apply Below.ofDrewN | with_reducible assumption | (with_reducible refine Below.setCell ?_ (by first | exact Nat.le_refl _ | (simp [go_sem]; done) | (simp [go_sem]; omega)) _))), rfl, by rw [HS.out, HW.out]; rfl⟩
        case measure => simp [intOf]; omega
      case pos =>
        have HW : Hid ((e.state == 1) = true) := by show (e.state == 1) = true; simp [hw]
        rw [hw] at HD
        have hw2 : (e.state == 1) = true := HW.out
        by_cases hb : m < 0
        · have hm1 : m = -1 := by omega
          have HB : Hid (decide (m < 0) = true) := by show decide (m < 0) = true; simp [hb]
          clear hlo hhi hb
          subst hm1
          go_wp2
          go_quiet (fail)
          go_wp2
          go_roundw
          case rel => exact ⟨n + 1, _, by go_num, by omega, (by repeat (first | with_reducible exact Below.refl _ _ | with_reducible apply Below.ofExt | with_reducible apply Below.ofAlloc | with_reducible apply Below.drew | with_reducible apply Below.ofDrewN | with_reducible assumption | (with_reducible refine Below.setCell ?_ (by first | exact Nat.le_refl _ | (simp [go_sem]; done) | (simp [go_sem]; omega)) _))), rfl, by rw [HS.out, HW.out, HB.out]; rfl⟩
          case measure => simp [intOf]; omega
        · obtain ⟨j, rfl⟩ : ∃ j : Nat, m = j := ⟨m.toNat, by omega⟩
          have HB : Hid (decide ((j : Int) < 0) = false) := decide_eq_false hb
          have hb2 : decide ((j : Int) < 0) = false := decide_eq_false hb
          have hj : j < ds.length := by omega
          obtain ⟨b2, off2, csy, eb, hbl2, hrd2, hcell2⟩ := HX.out j hj
          simp only [Option.some.injEq, Addr.mk.injEq, and_true] at eb
          obtain ⟨rfl, rfl⟩ := eb
          have hsq : (ds[((j : Nat) : Int).toNat]?).getD e = ds[j] := by rw [Int.toNat_natCast, List.getElem?_eq_getElem hj]; rfl
          generalize ds[j] = dj at hrd2 hsq
          have HJ := Lib.hid hrd2
          obtain ⟨p0, q0, p1, q1, p2, q2, p3, q3, p4, q4, rfl⟩ := vTx_shape hrd2
          clear hrd2
          have z0 := hcell2 0 _ rfl
          have z1 := hcell2 1 _ rfl
          have z2 := hcell2 2 _ rfl
          have z3 := hcell2 3 _ rfl
          have z4 := hcell2 4 _ rfl
          have z5 := hcell2 5 _ rfl
          have z6 := hcell2 6 _ rfl
          have z7 := hcell2 7 _ rfl
          have z8 := hcell2 8 _ rfl
          have z9 := hcell2 9 _ rfl
          clear hcell2
          simp only [show vTx.k = 10 from rfl, Nat.add_zero] at z0 z1 z2 z3 z4 z5 z6 z7 z8 z9
          have HQ := Lib.hid hsq
          clear hsq
          cases hg : olderB e dj with
          | true =>
            have HG := Lib.hid hg
            clear hg
            go_wp2
            refine wp_region_ord [(0,true),(1,true),(2,true),(3,true),(4,true),(5,true),(6,true),(7,true),(8,true),(9,true),(10,true),(11,true),(12,false),(13,true),(14,true)] 15 (by kernel_rfl) (by kernel_rfl) ?_
            repeat (refine wpOrd_quiet rfl (fun K hK => ?_); go_simp; (try simp (disch := omega) only [IntWalk.i64_in]); refine hK _ ?_; clear hK K)
            refine wpOrd_grow rfl (fun K hK => ?_); go_simp; go_at_call 11; refine (impl_Older _ e _ dj _ (by (try simp only [← Array.append_assoc]); (repeat (first | with_reducible exact HD.out | with_reducible apply View.rdMerge | with_reducible apply View.rdExt | with_reducible apply View.rdAlloc | with_reducible apply View.rdDrew | with_reducible apply View.rdDrewN)); all_goals exact (0 : Nat)) (by (try simp only [← Array.append_assoc]); (repeat (first | with_reducible exact HJ.out | with_reducible apply View.rdMerge | with_reducible apply View.rdExt | with_reducible apply View.rdAlloc | with_reducible apply View.rdDrew | with_reducible apply View.rdDrewN)); all_goals exact (0 : Nat))).mono ?_; rintro e w' ⟨rfl, hb⟩; obtain ⟨X, rfl⟩ := hb.ext; clear hb; try go_simp; refine hK _ _ (by show Sx _ _; (try simp only [← Array.append_assoc]); repeat (first | with_reducible exact Sx.sameA _ _ _ _ _ | with_reducible exact Sx.drew _ | with_reducible exact Sx.same _ _ _ _ | with_reducible exact ⟨_, rfl⟩ | with_reducible apply Sx.more | with_reducible apply Sx.ext | with_reducible apply Sx.alloc | with_reducible apply Sx.draw | with_reducible exact Sx.refl _)) ?_; clear hK K
            rw [HG.out]
            repeat (refine wpOrd_quiet rfl (fun K hK => ?_); go_simp; (try simp (disch := omega) only [IntWalk.i64_in]); refine hK _ ?_; clear hK K)
            refine wpOrd_nil ?_
            go_wp2
            go_roundw
            case rel => exact ⟨n + 1, _, by go_num, by omega, (by repeat (first | with_reducible exact Below.refl _ _ | with_reducible apply Below.ofExt | with_reducible apply Below.ofAlloc | with_reducible apply Below.drew | with_reducible apply Below.ofDrewN | with_reducible assumption | (with_reducible refine Below.setCell ?_ (by first | exact Nat.le_refl _ | (simp [go_sem]; done) | (simp [go_sem]; omega)) _))), rfl, by rw [HS.out, HW.out, HB.out, HQ.out, HG.out]; rfl⟩
            case measure => simp [intOf]; omega
          | false =>
            have HG := Lib.hid hg
            clear hg
            go_wp2
            refine wp_region_ord [(0,true),(1,true),(2,true),(3,true),(4,true),(5,true),(6,true),(7,true),(8,true),(9,true),(10,true),(11,true),(12,false),(13,true),(14,true)] 15 (by kernel_rfl) (by kernel_rfl) ?_
            repeat (refine wpOrd_quiet rfl (fun K hK => ?_); go_simp; (try simp (disch := omega) only [IntWalk.i64_in]); refine hK _ ?_; clear hK K)
            refine wpOrd_grow rfl (fun K hK => ?_); go_simp; go_at_call 11; refine (impl_Older _ e _ dj _ (by (try simp only [← Array.append_assoc]); (repeat (first | with_reducible exact HD.out | with_reducible apply View.rdMerge | with_reducible apply View.rdExt | with_reducible apply View.rdAlloc | with_reducible apply View.rdDrew | with_reducible apply View.rdDrewN)); all_goals exact (0 : Nat)) (by (try simp only [← Array.append_assoc]); (repeat (first | with_reducible exact HJ.out | with_reducible apply View.rdMerge | with_reducible apply View.rdExt | with_reducible apply View.rdAlloc | with_reducible apply View.rdDrew | with_reducible apply View.rdDrewN)); all_goals exact (0 : Nat))).mono ?_; rintro e w' ⟨rfl, hb⟩; obtain ⟨X, rfl⟩ := hb.ext; clear hb; try go_simp; refine hK _ _ (by show Sx _ _; (try simp only [← Array.append_assoc]); repeat (first | with_reducible exact Sx.sameA _ _ _ _ _ | with_reducible exact Sx.drew _ | with_reducible exact Sx.same _ _ _ _ | with_reducible exact ⟨_, rfl⟩ | with_reducible apply Sx.more | with_reducible apply Sx.ext | with_reducible apply Sx.alloc | with_reducible apply Sx.draw | with_reducible exact Sx.refl _)) ?_; clear hK K
            rw [HG.out]
            repeat (refine wpOrd_quiet rfl (fun K hK => ?_); go_simp; (try simp (disch := omega) only [IntWalk.i64_in]); refine hK _ ?_; clear hK K)
            refine wpOrd_nil ?_
            go_wp2
            go_roundw
            case rel => exact ⟨n + 1, _, by go_num, by omega, (by repeat (first | with_reducible exact Below.refl _ _ | with_reducible apply Below.ofExt | with_reducible apply Below.ofAlloc | with_reducible apply Below.drew | with_reducible apply Below.ofDrewN | with_reducible assumption | (with_reducible refine Below.setCell ?_ (by first | exact Nat.le_refl _ | (simp [go_sem]; done) | (simp [go_sem]; omega)) _))), rfl, by rw [HS.out, HW.out, HB.out, HQ.out, HG.out]; rfl⟩
            case measure => simp [intOf]; omega
    · have e : n = ds.length := by omega
      have hres : oldestLive ds = if m < 0 then 0 else ((ds[m.toNat]?).map TxD.id).getD 0 := by unfold oldestLive; rw [HM.out, e]
      by_cases hb : m < 0
      · have hm1 : m = -1 := by omega
        rw [if_pos hb] at hres
        have HR := Lib.hid hres
        clear hres hlo hhi hb
        subst hm1
        go_wp2
        go_ret
        exact ⟨by rw [HR.out]; rfl, (by repeat (first | with_reducible exact Below.refl _ _ | with_reducible apply Below.ofExt | with_reducible apply Below.ofAlloc | with_reducible apply Below.drew | with_reducible apply Below.ofDrewN | with_reducible assumption | (with_reducible refine Below.setCell ?_ (by first | exact Nat.le_refl _ | (simp [go_sem]; done) | (simp [go_sem]; omega)) _)))⟩
      · obtain ⟨j, rfl⟩ : ∃ j : Nat, m = j := ⟨m.toNat, by omega⟩
        have hj : j < ds.length := by omega
        rw [if_neg hb, Int.toNat_natCast, List.getElem?_eq_getElem hj] at hres
        have HR := Lib.hid hres
        clear hres
        obtain ⟨b, off, csx, rfl, hbly, hrd, hcell⟩ := HX.out j hj
        generalize ds[j] = dj at hrd HR
        obtain ⟨a0, c0, a1, c1, a2, c2, a3, c3, a4, c4, rfl⟩ := vTx_shape hrd
        have y0 := hcell 0 _ rfl
        clear hcell hrd
        simp only [show vTx.k = 10 from rfl, Nat.add_zero] at y0
        go_wp2
        go_ret
        exact ⟨by rw [HR.out]; rfl, (by repeat (first | with_reducible exact Below.refl _ _ | with_reducible apply Below.ofExt | with_reducible apply Below.ofAlloc | with_reducible apply Below.drew | with_reducible apply Below.ofDrewN | with_reducible assumption | (with_reducible refine Below.setCell ?_ (by first | exact Nat.le_refl _ | (simp [go_sem]; done) | (simp [go_sem]; omega)) _)))⟩
end Go.Proofs.Ytmhopglbgaijiaa
