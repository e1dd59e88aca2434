/- Hexadecimal and decimal texts: the reference's. Each condition stands in its theorem. -/
import Derived.Test.YtedgenmbdjadkaaGreatDoorBy
import Derived.Test.YtedgenmbdjadkaaGreatDoorIn
import Derived.Test.YtedgenmbdjadkaaGreatDoorOrdT
import Derived.Lib.HexFns
import Derived.Lib.ItoaNum
import Derived.Lib.AppendIntMem
set_option linter.unusedVariables false
set_option linter.unusedSimpArgs false
namespace Go.Proofs.YtedgenmbdjadkaaGreatDoor
open Go.ChangeShapes Go.WideShapes Go.ChangeAt Go.RowKit

theorem Tryz.byteT : ByteT Tryz.prog 28 5 := ByteT.of Tryz.underlying28 Tryz.underlying5 (by kernel_rfl)
def strOf (l : List UInt8) : ByteArray := ⟨l.toArray⟩
theorem strOf_size (l : List UInt8) : (strOf l).size = l.length := by unfold strOf; show l.toArray.size = _; simp
theorem strOf_list (l : List UInt8) : (strOf l).data.toList = l := by simp [strOf]
def hexT (s : ByteArray) : ByteArray := if s.size ≤ 20000 then strOf (Lib.Hx.encode s.data.toList) else ⟨#[]⟩
theorem hexT_size (s : ByteArray) : (hexT s).size ≤ 40000 := by
  unfold hexT
  split
  · rw [strOf_size, Lib.Hx.encode_length]
    have : s.data.toList.length = s.size := by simp
    omega
  · decide
theorem digit_lo {x : Nat} (h : x < 10) : Lib.Hx.digit x = UInt8.ofNat (48 + x) := by
  match x, h with
  | 0, _ | 1, _ | 2, _ | 3, _ | 4, _ | 5, _ | 6, _ | 7, _ | 8, _ | 9, _ => rfl
theorem digit_hi {x : Nat} (h : 10 ≤ x) (h2 : x < 16) : Lib.Hx.digit x = UInt8.ofNat (87 + x) := by
  rcases (by omega : x = 10 ∨ x = 11 ∨ x = 12 ∨ x = 13 ∨ x = 14 ∨ x = 15) with rfl | rfl | rfl | rfl | rfl | rfl <;> rfl
theorem alloc_newA' (w : World) (cs : Array Value) (t : TypeId) {b : Nat} (hb : b = w.heap.size) : (w.alloc (.cells cs t)).heap[b]? = some (.cells cs t (0, 0)) := by
  subst hb
  exact heap_alloc_new w _
theorem spec_l01Figure (x : Int) (w : World) (h0 : 0 ≤ x) (h1 : x < 16) :
    Calls Tryz.prog 82 #[.int .i64 x] w fun e w' => e = .returned (.int .u8 ((Lib.Hx.digit x.toNat).toNat : Int)) ∧ w = w' := by
  go_enter Tryz.func82, Tryz.ntmps82
  go_wp2
  all_goals go_ret
  · refine ⟨ret_int ?_, rfl⟩
    rw [digit_lo (by omega)]
    simp
    omega
  · refine ⟨ret_int ?_, rfl⟩
    rw [digit_hi (by omega) (by omega)]
    simp
    omega
theorem enc_snoc (l : List UInt8) (c : UInt8) : Lib.Hx.encode (l ++ [c]) = Lib.Hx.encode l ++ [Lib.Hx.digit (c.toNat / 16), Lib.Hx.digit (c.toNat % 16)] := by
  simp [Lib.Hx.encode, List.flatMap_append]
set_option maxRecDepth 100000 in
set_option maxHeartbeats 2000000 in
theorem spec_Hex (s : ByteArray) (w : World) (hs : s.size ≤ 9223372036854775807) :
    Calls Tryz.prog 49 #[.string s] w fun e w' => e = .returned (.tuple #[.string (hexT s), .bool (decide (s.size ≤ 20000))]) ∧ Below w.heap.size w w' := by
  go_enter Tryz.func49, Tryz.ntmps49
  by_cases hb : (20000 : Int) < s.size
  · go_wp2
    refine bodyPost_ret (by simp [results, Tryz.results49, go_sem]; rfl) rfl ?_
    refine ⟨?_, (by repeat (first | with_reducible exact Below.refl _ _ | with_reducible apply Below.ofExt | with_reducible apply Below.ofAlloc | with_reducible apply Below.drew | with_reducible apply Below.ofDrewN | with_reducible assumption | (with_reducible refine Below.setCell ?_ (by first | exact Nat.le_refl _ | (simp [go_sem]; done) | (simp [go_sem]; omega)) _)))⟩
    unfold hexT
    rw [if_neg (by omega), decide_eq_false (by omega)]
  go_wp2
  go_loopw [4, 5] (fun o k wr => ∃ (n : Nat), k = .int .i64 n ∧ n ≤ s.size ∧ Below w.heap.size w wr ∧ OwnB 5 wr w.heap.size o (Lib.Hx.encode (s.data.toList.take n))) (fun _ k _ => s.size - (intOf k).toNat)
  case atStart => exact ⟨0, rfl, by omega, (by repeat (first | with_reducible exact Below.refl _ _ | with_reducible apply Below.ofExt | with_reducible apply Below.ofAlloc | with_reducible apply Below.drew | with_reducible apply Below.ofDrewN | with_reducible assumption | (with_reducible refine Below.setCell ?_ (by first | exact Nat.le_refl _ | (simp [go_sem]; done) | (simp [go_sem]; omega)) _))), OwnB.empty _ _⟩
  case round =>
    obtain ⟨n, rfl, hn, hbel, ho⟩ := hrel
    obtain ⟨X, rfl⟩ := hbel.ext
    by_cases hlt : (n : Int) < s.size
    case pos =>
      have hk : n < s.size := by omega
      have hc1 : (s[n].toNat : Int) ≤ 255 := by have := s[n].toNat_lt; omega
      have hc0 : 0 ≤ (s[n].toNat : Int) := by omega
      have hst := enc_snoc (s.data.toList.take n) s[n]
      rw [← take_snoc s n hk] at hst
      have htm : ((s[n].toNat : Int)).tmod 16 = (s[n].toNat : Int) % 16 := Int.tmod_eq_emod_of_nonneg (by omega)
      have HTM := Lib.hid htm
      clear htm
      have HST := Lib.hid hst
      have hlen : (Lib.Hx.encode (s.data.toList.take n)).length ≤ 40000 := by rw [Lib.Hx.encode_length]; simp; omega
      have HLN := Lib.hid hlen
      clear hst hlen
      generalize Lib.Hx.encode (s.data.toList.take n) = l at *
      obtain ⟨oa, oc, rfl⟩ := ho.form
      have HO := Lib.hid ho
      clear ho
      go_wp2
      refine wp_region_ordT [(0,true),(1,true),(2,true),(3,true),(4,true),(5,true),(7,true),(8,true),(9,true),(10,true),(11,true),(6,false),(12,false),(13,false),(14,false),(15,false)] 14 (by kernel_rfl) (by kernel_rfl) ?_
      repeat (refine wpOrd_quiet rfl (fun K hK => ?_); go_simp; (try simp (disch := omega) only [IntWalk.i64_in]); refine hK _ ?_; clear hK K)
      rw [HTM.out]
      refine wpOrd_grow rfl (fun K hK => ?_); go_simp; go_at_call 82; refine (spec_l01Figure _ _ (by omega) (by omega)).mono ?_; rintro e w' ⟨rfl, rfl⟩; try go_simp; refine hK _ _ (by show Sx _ _; (try simp only [← Array.append_assoc]); repeat (first | with_reducible exact Sx.drew _ | with_reducible exact Sx.same _ _ _ _ | with_reducible exact ⟨_, rfl⟩ | with_reducible apply Sx.more | with_reducible apply Sx.ext | with_reducible apply Sx.alloc | with_reducible apply Sx.draw | with_reducible exact Sx.refl _)) ?_; clear hK K
      refine wpOrd_grow rfl (fun K hK => ?_); go_simp; go_at_call 82; refine (spec_l01Figure _ _ (by omega) (by omega)).mono ?_; rintro e w' ⟨rfl, rfl⟩; try go_simp; refine hK _ _ (by show Sx _ _; (try simp only [← Array.append_assoc]); repeat (first | with_reducible exact Sx.drew _ | with_reducible exact Sx.same _ _ _ _ | with_reducible exact ⟨_, rfl⟩ | with_reducible apply Sx.more | with_reducible apply Sx.ext | with_reducible apply Sx.alloc | with_reducible apply Sx.draw | with_reducible exact Sx.refl _)) ?_; clear hK K
      refine wpOrd_grow rfl (fun K hK => ?_); go_simp; refine hK _ _ (by show Sx _ _; (try simp only [← Array.append_assoc]); repeat (first | with_reducible exact Sx.drew _ | with_reducible exact Sx.same _ _ _ _ | with_reducible exact ⟨_, rfl⟩ | with_reducible apply Sx.more | with_reducible apply Sx.ext | with_reducible apply Sx.alloc | with_reducible apply Sx.draw | with_reducible exact Sx.refl _)) ?_; clear hK K
      refine wpOrd_tail rfl rfl (fun K hK => ?_)
      rw [if_pos (by rfl)]
      refine wp_appB _ Tryz.byteT (.tmp 16) (.tmp 29) rfl (B := w.heap.size) (l := l) (m := [Lib.Hx.digit (s[n].toNat / 16), Lib.Hx.digit (s[n].toNat % 16)]) ((OwnB.same HO.out).alloc _) rfl (vx := .slice (some ⟨w.heap.size + X.bs.size, 0, none⟩) 2 2) ?_ rfl (by have := HLN.out; simp; omega) (by simp [World.ext_size]; omega) ?_
      · refine Sl.of_block (t := 5) (f := (0, 0)) (alloc_newA' _ _ _ (by simp [World.ext_size])) (by decide)
      intro v4 w4 hown4 hgr4
      refine hK _ _ ?_
      clear hK K
      have hb4 : Below w.heap.size w w4 := Below.appB (by repeat (first | with_reducible exact Below.refl _ _ | with_reducible apply Below.ofExt | with_reducible apply Below.ofAlloc | with_reducible apply Below.drew | with_reducible apply Below.ofDrewN | with_reducible assumption | (with_reducible refine Below.setCell ?_ (by first | exact Nat.le_refl _ | (simp [go_sem]; done) | (simp [go_sem]; omega)) _))) hgr4 ((OwnB.same HO.out).alloc _)
      repeat (refine wpOrd_tail rfl rfl (fun K hK => ?_); go_simp; refine hK _ _ ?_; clear hK K)
      refine wpOrd_nil ?_
      go_wp2
      go_roundw
      case rel => exact ⟨n + 1, by go_num, by omega, hb4, by rw [HST.out]; exact hown4⟩
      case measure => simp [intOf]; omega
    case neg =>
      have e : n = s.size := by omega
      subst e
      rw [List.take_of_length_le (by simp)] at ho
      have hr := run_string_of (P := Tryz.prog) (w.ext X) Tryz.byteT Tryz.underlying9 ho.sl
      obtain ⟨oa, oc, rfl⟩ := ho.form
      clear ho
      go_wp2
      refine bodyPost_ret (by simp [results, Tryz.results49, go_sem]; rfl) rfl ?_
      refine ⟨?_, (by repeat (first | with_reducible exact Below.refl _ _ | with_reducible apply Below.ofExt | with_reducible apply Below.ofAlloc | with_reducible apply Below.drew | with_reducible apply Below.ofDrewN | with_reducible assumption | (with_reducible refine Below.setCell ?_ (by first | exact Nat.le_refl _ | (simp [go_sem]; done) | (simp [go_sem]; omega)) _)))⟩
      unfold hexT
      rw [if_pos (by omega), decide_eq_true (by omega)]
      rfl
theorem conv_1 (w : World) (c : UInt8) (x : Int) (hx : x = (c.toNat : Int)) (b : Nat) (hb : b = w.heap.size) :
    Sem.run Tryz.prog (convert 28 9 (.slice (some ⟨b, 0, none⟩) 1 1)) (w.alloc (.cells #[.int .u8 x] 5)) = .ok (.string ⟨#[c]⟩) (w.alloc (.cells #[.int .u8 x] 5)) := by
  subst hb hx
  refine run_convert_bytes_back (w := w.alloc (.cells #[.int .u8 (c.toNat : Int)] 5)) (P := Tryz.prog) 28 9 5 ⟨w.heap.size, 0, none⟩ 1 [c] Tryz.underlying28 Tryz.underlying5 Tryz.underlying9 ?_
  intro j hj
  have : j = 0 := by simpa using hj
  subst this
  show (w.alloc _).cell? ⟨w.heap.size, 0, none⟩ = _
  simp [go_sem]
def dec0 (m : Nat) : List UInt8 := if m = 0 then [] else Lib.decDigits m
theorem dec0_step {m : Nat} (h : m ≠ 0) : dec0 m = dec0 (m / 10) ++ [Lib.Hx.digit (m % 10)] := by
  unfold dec0
  rw [if_neg h, Lib.decDigits]
  split
  · rename_i h1
    rw [if_pos (by omega), Nat.mod_eq_of_lt h1, digit_lo h1]
    rfl
  · rw [if_neg (by omega), digit_lo (by omega)]
theorem dec0_len : ∀ (m : Nat), (dec0 m).length ≤ m / 2 + 1 := by
  intro m
  induction m using Nat.strongRecOn with
  | ind m ih =>
    by_cases h : m = 0
    · subst h; simp [dec0]
    · rw [dec0_step h, List.length_append]
      by_cases h2 : m < 10
      · rw [show m / 10 = 0 by omega]
        simp [dec0]
      · have := ih (m / 10) (by omega)
        simp
        omega
theorem decD_len (m : Nat) : (Lib.decDigits m).length ≤ m / 2 + 1 := by
  by_cases h : m = 0
  · subst h
    rw [Lib.decDigits, dif_pos (by decide)]
    simp
  · have := dec0_len m
    unfold dec0 at this
    rwa [if_neg h] at this
theorem strOf_cons (c : UInt8) (l : List UInt8) : (⟨#[c]⟩ : ByteArray) ++ strOf l = strOf (c :: l) := by
  apply ByteArray.ext
  simp [strOf, ByteArray.data_append]
theorem itoa_zero : Lib.itoa 0 = [48] := by
  unfold Lib.itoa
  rw [if_neg (by decide), Lib.decDigits, dif_pos (by decide)]
  rfl
set_option maxRecDepth 100000 in
set_option maxHeartbeats 2000000 in
theorem spec_Decimal (n : Int) (w : World) (h0 : -9223372036854775808 ≤ n) (h1 : n ≤ 9223372036854775807) :
    Calls Tryz.prog 47 #[.int .i64 n] w fun e w' => e = .returned (.string (strOf (Lib.itoa n))) ∧ Below w.heap.size w w' := by
  go_enter Tryz.func47, Tryz.ntmps47
  by_cases hz : n = 0
  · subst hz
    go_wp2
    go_ret
    refine ⟨?_, (by repeat (first | with_reducible exact Below.refl _ _ | with_reducible apply Below.ofExt | with_reducible apply Below.ofAlloc | with_reducible apply Below.drew | with_reducible apply Below.ofDrewN | with_reducible assumption | (with_reducible refine Below.setCell ?_ (by first | exact Nat.le_refl _ | (simp [go_sem]; done) | (simp [go_sem]; omega)) _)))⟩
    rw [itoa_zero]
    rfl
  have hzb : (n == 0) = false := by simpa using hz
  by_cases hn : n < 0
  · have hi : Lib.itoa n = 45 :: Lib.decDigits n.natAbs := by unfold Lib.itoa; rw [if_pos hn]
    obtain ⟨N, hN⟩ : ∃ N : Nat, n = -(N : Int) := ⟨n.natAbs, by omega⟩
    subst hN
    rw [show (-(N : Int)).natAbs = N by omega] at hi
    have HI := Lib.hid hi
    clear hi
    go_wp2
    go_loopw [0, 4] (fun k o wr => ∃ (m : Nat) (l : List UInt8), k = .int .i64 (-(m : Int)) ∧ m ≤ 9223372036854775808 ∧ o = .string (strOf l) ∧ dec0 m ++ l = Lib.decDigits N ∧ Below w.heap.size w wr) (fun k _ _ => (intOf k).natAbs)
    case atStart => exact ⟨N, [], rfl, by omega, rfl, by simp [dec0]; omega, (by repeat (first | with_reducible exact Below.refl _ _ | with_reducible apply Below.ofExt | with_reducible apply Below.ofAlloc | with_reducible apply Below.drew | with_reducible apply Below.ofDrewN | with_reducible assumption | (with_reducible refine Below.setCell ?_ (by first | exact Nat.le_refl _ | (simp [go_sem]; done) | (simp [go_sem]; omega)) _)))⟩
    case round =>
      obtain ⟨m, l, rfl, hm, rfl, hd, hbel⟩ := hrel
      obtain ⟨X, rfl⟩ := hbel.ext
      have hll : (strOf l).size ≤ 4611686018427387910 := by
        have := decD_len N
        rw [← hd, List.length_append] at this
        rw [strOf_size]
        omega
      have HD := Lib.hid hd
      clear hd
      by_cases hmz : m = 0
      · subst hmz
        rw [show (-((0 : Nat) : Int)) = 0 from rfl]
        go_wp2
        go_ret
        refine ⟨?_, (by repeat (first | with_reducible exact Below.refl _ _ | with_reducible apply Below.ofExt | with_reducible apply Below.ofAlloc | with_reducible apply Below.drew | with_reducible apply Below.ofDrewN | with_reducible assumption | (with_reducible refine Below.setCell ?_ (by first | exact Nat.le_refl _ | (simp [go_sem]; done) | (simp [go_sem]; omega)) _)))⟩
        have := HD.out
        simp only [dec0, if_true, List.nil_append] at this
        rw [HI.out, ← this, ← strOf_cons]
        rfl
      · have hst := dec0_step hmz
        have HST := Lib.hid hst
        clear hst
        have hrel2 : dec0 (m / 10) ++ (Lib.Hx.digit (m % 10) :: l) = Lib.decDigits N := by
          rw [← HD.out, HST.out, List.append_assoc]
          rfl
        have HR := Lib.hid hrel2
        clear hrel2
        by_cases hd0 : m % 10 = 0
        · have hdi : (m : Int) % 10 = 0 := by omega
          have hk := conv_1 (w.ext X) (Lib.Hx.digit (m % 10)) 48 (by rw [hd0]; rfl) (w.heap.size + X.bs.size) (by rw [World.ext_size])
          rw [hd0] at hk HR
          go_wp2
          go_roundw
          case rel => exact ⟨m / 10, _, by go_num, by omega, by rw [strOf_cons], HR.out, (by repeat (first | with_reducible exact Below.refl _ _ | with_reducible apply Below.ofExt | with_reducible apply Below.ofAlloc | with_reducible apply Below.drew | with_reducible apply Below.ofDrewN | with_reducible assumption | (with_reducible refine Below.setCell ?_ (by first | exact Nat.le_refl _ | (simp [go_sem]; done) | (simp [go_sem]; omega)) _)))⟩
          case measure => simp [intOf]; omega
        · have hk := conv_1 (w.ext X) (Lib.Hx.digit (m % 10)) (48 + (m : Int) % 10) (by rw [digit_lo (by omega)]; simp; omega) (w.heap.size + X.bs.size) (by rw [World.ext_size])
          have hpos : 0 < (m : Int) % 10 := by omega
          have HD0 := Lib.hid hd0
          clear hd0
          go_wp2
          go_roundw
          case rel => exact ⟨m / 10, _, by go_num, by omega, by rw [strOf_cons], HR.out, (by repeat (first | with_reducible exact Below.refl _ _ | with_reducible apply Below.ofExt | with_reducible apply Below.ofAlloc | with_reducible apply Below.drew | with_reducible apply Below.ofDrewN | with_reducible assumption | (with_reducible refine Below.setCell ?_ (by first | exact Nat.le_refl _ | (simp [go_sem]; done) | (simp [go_sem]; omega)) _)))⟩
          case measure => simp [intOf]; omega
  · have hi : Lib.itoa n = Lib.decDigits n.toNat := by unfold Lib.itoa; rw [if_neg hn]
    obtain ⟨N, hN⟩ : ∃ N : Nat, n = (N : Int) := ⟨n.toNat, by omega⟩
    subst hN
    rw [Int.toNat_natCast] at hi
    have HI := Lib.hid hi
    clear hi
    go_wp2
    go_loopw [0, 4] (fun k o wr => ∃ (m : Nat) (l : List UInt8), k = .int .i64 (m : Int) ∧ m ≤ 9223372036854775808 ∧ o = .string (strOf l) ∧ dec0 m ++ l = Lib.decDigits N ∧ Below w.heap.size w wr) (fun k _ _ => (intOf k).natAbs)
    case atStart => exact ⟨N, [], rfl, by omega, rfl, by simp [dec0]; omega, (by repeat (first | with_reducible exact Below.refl _ _ | with_reducible apply Below.ofExt | with_reducible apply Below.ofAlloc | with_reducible apply Below.drew | with_reducible apply Below.ofDrewN | with_reducible assumption | (with_reducible refine Below.setCell ?_ (by first | exact Nat.le_refl _ | (simp [go_sem]; done) | (simp [go_sem]; omega)) _)))⟩
    case round =>
      obtain ⟨m, l, rfl, hm, rfl, hd, hbel⟩ := hrel
      obtain ⟨X, rfl⟩ := hbel.ext
      have hll : (strOf l).size ≤ 4611686018427387910 := by
        have := decD_len N
        rw [← hd, List.length_append] at this
        rw [strOf_size]
        omega
      have HD := Lib.hid hd
      clear hd
      by_cases hmz : m = 0
      · subst hmz
        rw [show ((0 : Nat) : Int) = 0 from rfl]
        go_wp2
        go_ret
        refine ⟨?_, (by repeat (first | with_reducible exact Below.refl _ _ | with_reducible apply Below.ofExt | with_reducible apply Below.ofAlloc | with_reducible apply Below.drew | with_reducible apply Below.ofDrewN | with_reducible assumption | (with_reducible refine Below.setCell ?_ (by first | exact Nat.le_refl _ | (simp [go_sem]; done) | (simp [go_sem]; omega)) _)))⟩
        have := HD.out
        simp only [dec0, if_true, List.nil_append] at this
        rw [HI.out, ← this]
        rfl
      · have hst := dec0_step hmz
        have HST := Lib.hid hst
        clear hst
        have hrel2 : dec0 (m / 10) ++ (Lib.Hx.digit (m % 10) :: l) = Lib.decDigits N := by
          rw [← HD.out, HST.out, List.append_assoc]
          rfl
        have HR := Lib.hid hrel2
        clear hrel2
        have hk := conv_1 (w.ext X) (Lib.Hx.digit (m % 10)) (48 + (m : Int) % 10) (by rw [digit_lo (by omega)]; simp; omega) (w.heap.size + X.bs.size) (by rw [World.ext_size])
        go_wp2
        go_roundw
        case rel => exact ⟨m / 10, _, by go_num, by omega, by rw [strOf_cons], HR.out, (by repeat (first | with_reducible exact Below.refl _ _ | with_reducible apply Below.ofExt | with_reducible apply Below.ofAlloc | with_reducible apply Below.drew | with_reducible apply Below.ofDrewN | with_reducible assumption | (with_reducible refine Below.setCell ?_ (by first | exact Nat.le_refl _ | (simp [go_sem]; done) | (simp [go_sem]; omega)) _)))⟩
        case measure => simp [intOf]; omega
theorem conv_bytes (w : World) (s : ByteArray) (hs : s.size ≤ 9223372036854775807) :
    ∃ v w1, Sem.run Tryz.prog (convert 9 28 (.string s)) w = .ok v w1 ∧ OwnB 5 w1 w.heap.size v s.data.toList ∧ Below w.heap.size w w1 := by
  refine ⟨_, _, run_bytes_of_string w 9 28 5 s Tryz.underlying9 Tryz.underlying28 Tryz.underlying5, OwnB.ofString 5 w s hs, ?_⟩
  exact (Below.refl _ _).drew.alloc (Nat.le_refl _) _
theorem Sl.lit1 (w : World) (c : UInt8) (x : Int) (hx : x = (c.toNat : Int)) (t : TypeId) (b : Nat) (hb : b = w.heap.size) : Sl (w.alloc (.cells #[.int .u8 x] t)) (.slice (some ⟨b, 0, none⟩) 1 1) ([c] : List UInt8).length (bytesOf [c]) := by
  subst hx
  exact Sl.of_block (t := t) (f := (0, 0)) (alloc_newA' _ _ _ hb) (by decide)
end Go.Proofs.YtedgenmbdjadkaaGreatDoor
