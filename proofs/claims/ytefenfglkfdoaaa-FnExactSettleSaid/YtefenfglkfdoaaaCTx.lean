/- The laws' measure, copy, comparison, marks of Tx. Each condition stands in its theorem. -/
import Derived.Test.YtefenfglkfdoaaaTCall
import Derived.Test.YtefenfglkfdoaaaTAnswer
import Derived.Test.YtefenfglkfdoaaaCTouch
import Derived.Test.YtefenfglkfdoaaaTInt
set_option linter.unusedVariables false
set_option linter.unusedSimpArgs false
namespace Go.Proofs.Ytefenfglkfdoaaa
open Go.ChangeShapes Go.WideShapes Go.ChangeAt Go.RowKit

structure TxD where
  id : Int
  age : Int
  proc : Int
  began : Int
  calls : List CallD
  answers : List AnswerD
  touch : TouchD
  marks : List Int
  state : Int
def vTx : View TxD where
  k := 10
  rd w cs d := ∃ (s0 s1 s2 s3 s4 : Value), cs = [.int .i64 d.id, .int .i64 d.age, .int .i64 d.proc, .int .i64 d.began, s0, s1, s2, s3, s4, .int .i64 d.state] ∧ (vSlice vCall 89).rd w [s0] d.calls ∧ (vSlice vAnswer 105).rd w [s1] d.answers ∧ (vSlice vStr 9).rd w [s2] d.touch.reads ∧ (vSlice vStr 9).rd w [s3] d.touch.writes ∧ (vSlice vInt 3).rd w [s4] d.marks
  own w fp cs d := ∃ (s0 s1 s2 s3 s4 : Value) (f0 f1 f2 f3 f4 : List Nat), cs = [.int .i64 d.id, .int .i64 d.age, .int .i64 d.proc, .int .i64 d.began, s0, s1, s2, s3, s4, .int .i64 d.state] ∧ fp = f0 ++ f1 ++ f2 ++ f3 ++ f4 ∧ (vSlice vCall 89).own w f0 [s0] d.calls ∧ (vSlice vAnswer 105).own w f1 [s1] d.answers ∧ (vSlice vStr 9).own w f2 [s2] d.touch.reads ∧ (vSlice vStr 9).own w f3 [s3] d.touch.writes ∧ (vSlice vInt 3).own w f4 [s4] d.marks
  len := by rintro w cs d ⟨s0, s1, s2, s3, s4, rfl, _⟩; rfl
  one := by
    rintro w cs d ⟨s0, s1, s2, s3, s4, rfl, h0, h1, h2, h3, h4⟩ u hu
    simp only [List.mem_cons, List.not_mem_nil, or_false] at hu
    rcases hu with rfl | rfl | rfl | rfl | rfl | rfl | rfl | rfl | rfl | rfl
    · rfl
    · rfl
    · rfl
    · rfl
    · exact View.one _ h0 _ (by simp)
    · exact View.one _ h1 _ (by simp)
    · exact View.one _ h2 _ (by simp)
    · exact View.one _ h3 _ (by simp)
    · exact View.one _ h4 _ (by simp)
    · rfl
  grow := by rintro w w' cs d ⟨s0, s1, s2, s3, s4, rfl, h0, h1, h2, h3, h4⟩ g; exact ⟨s0, s1, s2, s3, s4, rfl, View.grow _ h0 g, View.grow _ h1 g, View.grow _ h2 g, View.grow _ h3 g, View.grow _ h4 g⟩
  toRd := by rintro w fp cs d ⟨s0, s1, s2, s3, s4, f0, f1, f2, f3, f4, rfl, rfl, h0, h1, h2, h3, h4⟩; exact ⟨s0, s1, s2, s3, s4, rfl, View.toRd _ h0, View.toRd _ h1, View.toRd _ h2, View.toRd _ h3, View.toRd _ h4⟩
  frame := by
    rintro w w' fp cs d ⟨s0, s1, s2, s3, s4, f0, f1, f2, f3, f4, rfl, rfl, h0, h1, h2, h3, h4⟩ g
    exact ⟨s0, s1, s2, s3, s4, f0, f1, f2, f3, f4, rfl, rfl, View.frame _ h0 fun b hb => g b (by simp [hb]), View.frame _ h1 fun b hb => g b (by simp [hb]), View.frame _ h2 fun b hb => g b (by simp [hb]), View.frame _ h3 fun b hb => g b (by simp [hb]), View.frame _ h4 fun b hb => g b (by simp [hb])⟩
  lt := by
    rintro w fp cs d ⟨s0, s1, s2, s3, s4, f0, f1, f2, f3, f4, rfl, rfl, h0, h1, h2, h3, h4⟩ b hb
    simp only [List.mem_append, List.append_assoc] at hb
    rcases hb with hb | hb | hb | hb | hb
    · exact View.lt _ h0 b hb
    · exact View.lt _ h1 b hb
    · exact View.lt _ h2 b hb
    · exact View.lt _ h3 b hb
    · exact View.lt _ h4 b hb
theorem vTx_shape {w : World} {cs : List Value} {d : TxD} (h : vTx.rd w cs d) : ∃ a0 c0 a1 c1 a2 c2 a3 c3 a4 c4, cs = [.int .i64 d.id, .int .i64 d.age, .int .i64 d.proc, .int .i64 d.began, .slice a0 d.calls.length c0, .slice a1 d.answers.length c1, .slice a2 d.touch.reads.length c2, .slice a3 d.touch.writes.length c3, .slice a4 d.marks.length c4, .int .i64 d.state] := by
  obtain ⟨s0, s1, s2, s3, s4, rfl, h0, h1, h2, h3, h4⟩ := h
  obtain ⟨a0, c0, rfl⟩ := vSlice.form h0; obtain ⟨a1, c1, rfl⟩ := vSlice.form h1; obtain ⟨a2, c2, rfl⟩ := vSlice.form h2; obtain ⟨a3, c3, rfl⟩ := vSlice.form h3; obtain ⟨a4, c4, rfl⟩ := vSlice.form h4
  exact ⟨a0, c0, a1, c1, a2, c2, a3, c3, a4, c4, rfl⟩
def TxD.wt (d : TxD) : Nat := wtS CallD.wt d.calls + wtS AnswerD.wt d.answers + wtStrs d.touch.reads + wtStrs d.touch.writes + d.marks.length
theorem laws_szTx (cs : List Value) (d : TxD) (left : Int) (w : World) (hs : vTx.rd w cs d) (h0 : 0 ≤ left) (h1 : left ≤ 4294967296) :
    Calls Try.prog 23 #[.agg cs.toArray, .int .i64 left] w fun e w' => e = .returned (.int .i64 (leftOf left d.wt)) ∧ Below w.heap.size w w' := by
  obtain ⟨s0, s1, s2, s3, s4, rfl, g0, g1, h2, h3, h4⟩ := hs
  have H0 := Lib.hid g0
  have H1 := Lib.hid g1
  have H2 := Lib.hid h2
  have H3 := Lib.hid h3
  have H4 := Lib.hid h4
  clear g0 g1 h2 h3 h4
  obtain ⟨a0, c0, rfl⟩ := vSlice.form H0.out
  obtain ⟨a1, c1, rfl⟩ := vSlice.form H1.out
  obtain ⟨a2, c2, rfl⟩ := vSlice.form H2.out
  obtain ⟨a3, c3, rfl⟩ := vSlice.form H3.out
  obtain ⟨a4, c4, rfl⟩ := vSlice.form H4.out
  unfold TxD.wt
  have q0e : ∃ q : Nat, q = wtS CallD.wt d.calls := ⟨_, rfl⟩
  obtain ⟨q0, q0e⟩ := q0e
  have Q0 := Lib.hid q0e
  have q1e : ∃ q : Nat, q = wtS AnswerD.wt d.answers := ⟨_, rfl⟩
  obtain ⟨q1, q1e⟩ := q1e
  have Q1 := Lib.hid q1e
  have q2e : ∃ q : Nat, q = TouchD.wt d.touch := ⟨_, rfl⟩
  obtain ⟨q2, q2e⟩ := q2e
  have Q2 := Lib.hid q2e
  have q3e : ∃ q : Nat, q = d.marks.length := ⟨_, rfl⟩
  obtain ⟨q3, q3e⟩ := q3e
  have Q3 := Lib.hid q3e
  unfold TouchD.wt at q2e
  have Qt : wtS CallD.wt d.calls + wtS AnswerD.wt d.answers + wtStrs d.touch.reads + wtStrs d.touch.writes + d.marks.length = q0 + q1 + q2 + q3 := by omega
  rw [Qt]
  clear Qt q0e q1e q2e q3e
  go_enter Try.func23, Try.ntmps23
  go_wp2_with fail
  (go_at_call 75; refine (laws_szCallS _ d.calls _ _ (by repeat (first | with_reducible exact H0.out | with_reducible apply View.rdExt | with_reducible apply View.rdAlloc)) (by omega) (by omega)).mono ?_; rintro e w' ⟨rfl, hb⟩; obtain ⟨X, rfl⟩ := hb.ext; clear hb)
  rw [← Q0.out]
  by_cases g0 : (q0 : Int) ≤ left
  case neg =>
    rw [leftOf_none g0]
    go_wp2
    go_ret
    rw [leftOf_none (by omega)]
    exact ⟨rfl, (by repeat (first | with_reducible exact Below.refl _ _ | with_reducible apply Below.ofExt | with_reducible apply Below.ofAlloc | with_reducible apply Below.drew | with_reducible apply Below.ofDrewN | with_reducible assumption | (with_reducible refine Below.setCell ?_ (by first | exact Nat.le_refl _ | (simp [go_sem]; done) | (simp [go_sem]; omega)) _)))⟩
  rw [leftOf_pos g0]
  have n0 : ¬ left - (q0 : Int) < 0 := by omega
  go_wp2_with fail
  (go_at_call 76; refine (laws_szAnswerS _ d.answers _ _ (by repeat (first | with_reducible exact H1.out | with_reducible apply View.rdExt | with_reducible apply View.rdAlloc)) (by omega) (by omega)).mono ?_; rintro e w' ⟨rfl, hb⟩; obtain ⟨X, rfl⟩ := hb.ext; clear hb)
  rw [← Q1.out]
  by_cases g1 : (q1 : Int) ≤ left - (q0 : Int)
  case neg =>
    rw [leftOf_none g1]
    go_wp2
    go_ret
    rw [leftOf_none (by omega)]
    exact ⟨rfl, (by repeat (first | with_reducible exact Below.refl _ _ | with_reducible apply Below.ofExt | with_reducible apply Below.ofAlloc | with_reducible apply Below.drew | with_reducible apply Below.ofDrewN | with_reducible assumption | (with_reducible refine Below.setCell ?_ (by first | exact Nat.le_refl _ | (simp [go_sem]; done) | (simp [go_sem]; omega)) _)))⟩
  rw [leftOf_pos g1]
  have n1 : ¬ left - (q0 : Int) - (q1 : Int) < 0 := by omega
  go_wp2_with fail
  (go_at_call 63; refine (laws_szTouch _ d.touch _ _ ⟨_, _, rfl, (by repeat (first | with_reducible exact H2.out | with_reducible apply View.rdExt | with_reducible apply View.rdAlloc)), (by repeat (first | with_reducible exact H3.out | with_reducible apply View.rdExt | with_reducible apply View.rdAlloc))⟩ (by omega) (by omega)).mono ?_; rintro e w' ⟨rfl, hb⟩; obtain ⟨X, rfl⟩ := hb.ext; clear hb)
  rw [← Q2.out]
  by_cases g2 : (q2 : Int) ≤ left - (q0 : Int) - (q1 : Int)
  case neg =>
    rw [leftOf_none g2]
    go_wp2
    go_ret
    rw [leftOf_none (by omega)]
    exact ⟨rfl, (by repeat (first | with_reducible exact Below.refl _ _ | with_reducible apply Below.ofExt | with_reducible apply Below.ofAlloc | with_reducible apply Below.drew | with_reducible apply Below.ofDrewN | with_reducible assumption | (with_reducible refine Below.setCell ?_ (by first | exact Nat.le_refl _ | (simp [go_sem]; done) | (simp [go_sem]; omega)) _)))⟩
  rw [leftOf_pos g2]
  have n2 : ¬ left - (q0 : Int) - (q1 : Int) - (q2 : Int) < 0 := by omega
  go_wp2_with fail
  (go_at_call 77; refine (laws_szIntS _ d.marks _ _ (by repeat (first | with_reducible exact H4.out | with_reducible apply View.rdExt | with_reducible apply View.rdAlloc)) (by omega) (by omega)).mono ?_; rintro e w' ⟨rfl, hb⟩; obtain ⟨X, rfl⟩ := hb.ext; clear hb)
  rw [← Q3.out]
  by_cases g3 : (q3 : Int) ≤ left - (q0 : Int) - (q1 : Int) - (q2 : Int)
  case neg =>
    rw [leftOf_none g3]
    go_wp2
    go_ret
    rw [leftOf_none (by omega)]
    exact ⟨rfl, (by repeat (first | with_reducible exact Below.refl _ _ | with_reducible apply Below.ofExt | with_reducible apply Below.ofAlloc | with_reducible apply Below.drew | with_reducible apply Below.ofDrewN | with_reducible assumption | (with_reducible refine Below.setCell ?_ (by first | exact Nat.le_refl _ | (simp [go_sem]; done) | (simp [go_sem]; omega)) _)))⟩
  rw [leftOf_pos g3]
  have n3 : ¬ left - (q0 : Int) - (q1 : Int) - (q2 : Int) - (q3 : Int) < 0 := by omega
  go_wp2
  go_ret
  rw [leftOf_pos (by omega)]
  exact ⟨ret_int (by omega), (by repeat (first | with_reducible exact Below.refl _ _ | with_reducible apply Below.ofExt | with_reducible apply Below.ofAlloc | with_reducible apply Below.drew | with_reducible apply Below.ofDrewN | with_reducible assumption | (with_reducible refine Below.setCell ?_ (by first | exact Nat.le_refl _ | (simp [go_sem]; done) | (simp [go_sem]; omega)) _)))⟩
theorem Tx_lens {d : TxD} {n : Nat} (h : d.wt ≤ n) : d.calls.length ≤ n ∧ d.answers.length ≤ n ∧ d.touch.reads.length ≤ n ∧ d.touch.writes.length ≤ n ∧ d.marks.length ≤ n := by
  unfold TxD.wt at h
  simp only [wtStrs, wtS] at h
  omega
set_option maxRecDepth 100000 in
theorem laws_toTx (cs : List Value) (d : TxD) (w : World) (hs : vTx.rd w cs d) (hwt : d.wt ≤ 1048576) :
    Calls Try.prog 25 #[.agg cs.toArray] w (MadeA vTx w d) := by
  obtain ⟨s0, s1, s2, s3, s4, rfl, h0, h1, h2, h3, h4⟩ := hs
  have H0 := Lib.hid h0
  have H1 := Lib.hid h1
  have H2 := Lib.hid h2
  have H3 := Lib.hid h3
  have H4 := Lib.hid h4
  clear h0 h1 h2 h3 h4
  obtain ⟨a0, c0, rfl⟩ := vSlice.form H0.out
  obtain ⟨a1, c1, rfl⟩ := vSlice.form H1.out
  obtain ⟨a2, c2, rfl⟩ := vSlice.form H2.out
  obtain ⟨a3, c3, rfl⟩ := vSlice.form H3.out
  obtain ⟨a4, c4, rfl⟩ := vSlice.form H4.out
  have hlen := Tx_lens hwt
  have HL := Lib.hid hlen
  have HWT := Lib.hid hwt
  clear hlen hwt
  go_enter Try.func25, Try.ntmps25
  go_wp2_with fail
  (go_at_call 78; refine (laws_toCallS _ d.calls _ (by repeat (first | with_reducible exact H0.out | with_reducible apply View.rdExt | with_reducible apply View.rdAlloc)) HL.out.1).mono ?_; rintro e w' ⟨u0, p0, rfl, hf0, hb⟩; obtain ⟨X0, rfl⟩ := hb.ext; clear hb)
  obtain ⟨b0, g0, rfl⟩ := vSlice.form (View.toRd _ hf0.own)
  have o0 := hf0.own
  (try simp only [World.ext_ext] at o0)
  have O0 := Lib.hid o0
  clear o0
  have S0 := Lib.hid hf0.sp
  clear hf0
  go_wp2_with fail
  (go_at_call 79; refine (laws_toAnswerS _ d.answers _ (by repeat (first | with_reducible exact H1.out | with_reducible apply View.rdExt | with_reducible apply View.rdAlloc)) HL.out.2.1).mono ?_; rintro e w' ⟨u1, p1, rfl, hf1, hb⟩; obtain ⟨X1, rfl⟩ := hb.ext; clear hb)
  obtain ⟨b1, g1, rfl⟩ := vSlice.form (View.toRd _ hf1.own)
  have o1 := hf1.own
  (try simp only [World.ext_ext] at o1)
  have O1 := Lib.hid o1
  clear o1
  have S1 := Lib.hid hf1.sp
  clear hf1
  go_wp2_with fail
  (go_at_call 65; refine (laws_toTouch _ d.touch _ ⟨_, _, rfl, (by repeat (first | with_reducible exact H2.out | with_reducible apply View.rdExt | with_reducible apply View.rdAlloc)), (by repeat (first | with_reducible exact H3.out | with_reducible apply View.rdExt | with_reducible apply View.rdAlloc))⟩ (by have := HWT.out; unfold TxD.wt at this; unfold TouchD.wt; omega)).mono ?_; rintro e w' ⟨cs2, pp2, rfl, hf2, hb⟩; obtain ⟨X2, rfl⟩ := hb.ext; clear hb)
  have SS2 := Lib.hid hf2.sp
  obtain ⟨u2, u3, p2, p3, rfl, rfl, o2, o3⟩ := hf2.own
  clear hf2
  obtain ⟨b2, g2, rfl⟩ := vSlice.form (View.toRd _ o2)
  (try simp only [World.ext_ext] at o2)
  have O2 := Lib.hid o2
  clear o2
  obtain ⟨b3, g3, rfl⟩ := vSlice.form (View.toRd _ o3)
  (try simp only [World.ext_ext] at o3)
  have O3 := Lib.hid o3
  clear o3
  go_wp2_with fail
  (go_at_call 43; refine (laws_toIntS _ d.marks _ (by repeat (first | with_reducible exact H4.out | with_reducible apply View.rdExt | with_reducible apply View.rdAlloc)) HL.out.2.2.2.2).mono ?_; rintro e w' ⟨u4, p4, rfl, hf4, hb⟩; obtain ⟨X3, rfl⟩ := hb.ext; clear hb)
  obtain ⟨b4, g4, rfl⟩ := vSlice.form (View.toRd _ hf4.own)
  have o4 := hf4.own
  (try simp only [World.ext_ext] at o4)
  have O4 := Lib.hid o4
  clear o4
  have S4 := Lib.hid hf4.sp
  clear hf4
  go_wp2
  refine bodyPost_ret (by simp [results, Try.results25, go_sem]; rfl) rfl ?_
  refine ⟨_, _, rfl, ⟨⟨_, _, _, _, _, p0, p1, p2, p3, p4, rfl, rfl, ?_, ?_, ?_, ?_, ?_⟩, ?_, ?_⟩, (by repeat (first | with_reducible exact Below.refl _ _ | with_reducible apply Below.ofExt | with_reducible apply Below.ofAlloc | with_reducible apply Below.drew | with_reducible apply Below.ofDrewN | with_reducible assumption | (with_reducible refine Below.setCell ?_ (by first | exact Nat.le_refl _ | (simp [go_sem]; done) | (simp [go_sem]; omega)) _)))⟩
  · exact View.ownTail O0.out (fun k hk => by have := S0.out.lo k hk; simp [World.ext_size] at this ⊢; omega) (by simp) (by (try simp only [← Array.append_assoc]); repeat (first | with_reducible exact Pre.refl _ | with_reducible apply Pre.app))
  · exact View.ownTail O1.out (fun k hk => by have := S1.out.lo k hk; simp [World.ext_size] at this ⊢; omega) (by simp) (by (try simp only [← Array.append_assoc]); repeat (first | with_reducible exact Pre.refl _ | with_reducible apply Pre.app))
  · exact View.ownTail O2.out (fun k hk => by have := SS2.out.lo k (by simp [hk]); simp [World.ext_size] at this ⊢; omega) (by simp) (by (try simp only [← Array.append_assoc]); repeat (first | with_reducible exact Pre.refl _ | with_reducible apply Pre.app))
  · exact View.ownTail O3.out (fun k hk => by have := SS2.out.lo k (by simp [hk]); simp [World.ext_size] at this ⊢; omega) (by simp) (by (try simp only [← Array.append_assoc]); repeat (first | with_reducible exact Pre.refl _ | with_reducible apply Pre.app))
  · exact View.ownTail O4.out (fun k hk => by have := S4.out.lo k hk; simp [World.ext_size] at this ⊢; omega) (by simp) (by (try simp only [← Array.append_assoc]); repeat (first | with_reducible exact Pre.refl _ | with_reducible apply Pre.app))
  · have := Sp.append (Sp.append (Sp.append (S0.out) (S1.out) (by simp [World.ext_size]; try omega) (by simp [World.ext_size]; try omega) (by simp [World.ext_size]; try omega)) (SS2.out) (by simp [World.ext_size]; try omega) (by simp [World.ext_size]; try omega) (by simp [World.ext_size]; try omega)) (S4.out) (by simp [World.ext_size]; try omega) (by simp [World.ext_size]; try omega) (by simp [World.ext_size]; try omega)
    simpa using this.nodup
  · have := Sp.append (Sp.append (Sp.append (S0.out) (S1.out) (by simp [World.ext_size]; try omega) (by simp [World.ext_size]; try omega) (by simp [World.ext_size]; try omega)) (SS2.out) (by simp [World.ext_size]; try omega) (by simp [World.ext_size]; try omega) (by simp [World.ext_size]; try omega)) (S4.out) (by simp [World.ext_size]; try omega) (by simp [World.ext_size]; try omega) (by simp [World.ext_size]; try omega)
    intro b hb
    have h2 := this.lo b (by simpa using hb)
    simp [World.ext_size] at h2
    omega
set_option maxRecDepth 100000 in
theorem laws_eqTx (cs cs' : List Value) (d : TxD) (w : World) (hs : vTx.rd w cs d) (hs' : vTx.rd w cs' d) :
    Calls Try.prog 20 #[.agg cs.toArray, .agg cs'.toArray] w fun e w' => e = .returned (.bool true) ∧ Below w.heap.size w w' := by
  obtain ⟨s0, s1, s2, s3, s4, rfl, h0, h1, h2, h3, h4⟩ := hs
  obtain ⟨t0, t1, t2, t3, t4, rfl, k0, k1, k2, k3, k4⟩ := hs'
  have H0 := Lib.hid h0
  have H1 := Lib.hid h1
  have H2 := Lib.hid h2
  have H3 := Lib.hid h3
  have H4 := Lib.hid h4
  clear h0 h1 h2 h3 h4
  obtain ⟨a0, c0, rfl⟩ := vSlice.form H0.out
  obtain ⟨a1, c1, rfl⟩ := vSlice.form H1.out
  obtain ⟨a2, c2, rfl⟩ := vSlice.form H2.out
  obtain ⟨a3, c3, rfl⟩ := vSlice.form H3.out
  obtain ⟨a4, c4, rfl⟩ := vSlice.form H4.out
  have K0 := Lib.hid k0
  have K1 := Lib.hid k1
  have K2 := Lib.hid k2
  have K3 := Lib.hid k3
  have K4 := Lib.hid k4
  clear k0 k1 k2 k3 k4
  obtain ⟨b0, g0, rfl⟩ := vSlice.form K0.out
  obtain ⟨b1, g1, rfl⟩ := vSlice.form K1.out
  obtain ⟨b2, g2, rfl⟩ := vSlice.form K2.out
  obtain ⟨b3, g3, rfl⟩ := vSlice.form K3.out
  obtain ⟨b4, g4, rfl⟩ := vSlice.form K4.out
  go_enter Try.func20, Try.ntmps20
  go_wp2_with fail
  (go_at_call 48; refine (laws_eqCallS _ _ d.calls _ (by repeat (first | with_reducible exact H0.out | with_reducible apply View.rdExt | with_reducible apply View.rdAlloc)) (by repeat (first | with_reducible exact K0.out | with_reducible apply View.rdExt | with_reducible apply View.rdAlloc))).mono ?_; rintro e w' ⟨rfl, hb⟩; obtain ⟨X, rfl⟩ := hb.ext; clear hb)
  go_wp2_with fail
  (go_at_call 71; refine (laws_eqAnswerS _ _ d.answers _ (by repeat (first | with_reducible exact H1.out | with_reducible apply View.rdExt | with_reducible apply View.rdAlloc)) (by repeat (first | with_reducible exact K1.out | with_reducible apply View.rdExt | with_reducible apply View.rdAlloc))).mono ?_; rintro e w' ⟨rfl, hb⟩; obtain ⟨X, rfl⟩ := hb.ext; clear hb)
  go_wp2_with fail
  (go_at_call 67; refine (laws_eqTouch _ _ d.touch _ ⟨_, _, rfl, (by repeat (first | with_reducible exact H2.out | with_reducible apply View.rdExt | with_reducible apply View.rdAlloc)), (by repeat (first | with_reducible exact H3.out | with_reducible apply View.rdExt | with_reducible apply View.rdAlloc))⟩ ⟨_, _, rfl, (by repeat (first | with_reducible exact K2.out | with_reducible apply View.rdExt | with_reducible apply View.rdAlloc)), (by repeat (first | with_reducible exact K3.out | with_reducible apply View.rdExt | with_reducible apply View.rdAlloc))⟩).mono ?_; rintro e w' ⟨rfl, hb⟩; obtain ⟨X, rfl⟩ := hb.ext; clear hb)
  go_wp2_with fail
  (go_at_call 45; refine (laws_eqIntS _ _ d.marks _ (by repeat (first | with_reducible exact H4.out | with_reducible apply View.rdExt | with_reducible apply View.rdAlloc)) (by repeat (first | with_reducible exact K4.out | with_reducible apply View.rdExt | with_reducible apply View.rdAlloc))).mono ?_; rintro e w' ⟨rfl, hb⟩; obtain ⟨X, rfl⟩ := hb.ext; clear hb)
  go_wp2
  go_ret
  exact ⟨rfl, (by repeat (first | with_reducible exact Below.refl _ _ | with_reducible apply Below.ofExt | with_reducible apply Below.ofAlloc | with_reducible apply Below.drew | with_reducible apply Below.ofDrewN | with_reducible assumption | (with_reducible refine Below.setCell ?_ (by first | exact Nat.le_refl _ | (simp [go_sem]; done) | (simp [go_sem]; omega)) _)))⟩
end Go.Proofs.Ytefenfglkfdoaaa
