/- The laws' measure, copy, comparison, marks of Touch. Each condition stands in its theorem. -/
import Derived.Test.YtdgnnphghfppbaaTStr
set_option linter.unusedVariables false
set_option linter.unusedSimpArgs false
namespace Go.Proofs.Ytdgnnphghfppbaa
open Go.ChangeShapes Go.WideShapes Go.ChangeAt Go.RowKit

structure TouchD where
  reads : List ByteArray
  writes : List ByteArray
def vTouch : View TouchD where
  k := 2
  rd w cs d := ∃ (s0 s1 : Value), cs = [s0, s1] ∧ (vSlice vStr 9).rd w [s0] d.reads ∧ (vSlice vStr 9).rd w [s1] d.writes
  own w fp cs d := ∃ (s0 s1 : Value) (f0 f1 : List Nat), cs = [s0, s1] ∧ fp = f0 ++ f1 ∧ (vSlice vStr 9).own w f0 [s0] d.reads ∧ (vSlice vStr 9).own w f1 [s1] d.writes
  len := by rintro w cs d ⟨s0, s1, rfl, _⟩; rfl
  one := by
    rintro w cs d ⟨s0, s1, rfl, h0, h1⟩ u hu
    simp only [List.mem_cons, List.not_mem_nil, or_false] at hu
    rcases hu with rfl | rfl
    · exact View.one _ h0 _ (by simp)
    · exact View.one _ h1 _ (by simp)
  grow := by rintro w w' cs d ⟨s0, s1, rfl, h0, h1⟩ g; exact ⟨s0, s1, rfl, View.grow _ h0 g, View.grow _ h1 g⟩
  toRd := by rintro w fp cs d ⟨s0, s1, f0, f1, rfl, rfl, h0, h1⟩; exact ⟨s0, s1, rfl, View.toRd _ h0, View.toRd _ h1⟩
  frame := by
    rintro w w' fp cs d ⟨s0, s1, f0, f1, rfl, rfl, h0, h1⟩ g
    exact ⟨s0, s1, f0, f1, rfl, rfl, View.frame _ h0 fun b hb => g b (by simp [hb]), View.frame _ h1 fun b hb => g b (by simp [hb])⟩
  lt := by
    rintro w fp cs d ⟨s0, s1, f0, f1, rfl, rfl, h0, h1⟩ b hb
    simp only [List.mem_append] at hb
    rcases hb with hb | hb
    · exact View.lt _ h0 b hb
    · exact View.lt _ h1 b hb
theorem vTouch_shape {w : World} {cs : List Value} {d : TouchD} (h : vTouch.rd w cs d) : ∃ a0 c0 a1 c1, cs = [.slice a0 d.reads.length c0, .slice a1 d.writes.length c1] := by
  obtain ⟨s0, s1, rfl, h0, h1⟩ := h
  obtain ⟨a0, c0, rfl⟩ := vSlice.form h0; obtain ⟨a1, c1, rfl⟩ := vSlice.form h1
  exact ⟨a0, c0, a1, c1, rfl⟩
def TouchD.wt (d : TouchD) : Nat := wtStrs d.reads + wtStrs d.writes
theorem laws_szTouch (cs : List Value) (d : TouchD) (left : Int) (w : World) (hs : vTouch.rd w cs d) (h0 : 0 ≤ left) (h1 : left ≤ 4294967296) :
    Calls Try.prog 15 #[.agg cs.toArray, .int .i64 left] w fun e w' => e = .returned (.int .i64 (leftOf left d.wt)) ∧ Below w.heap.size w w' := by
  obtain ⟨s0, s1, rfl, g0, g1⟩ := hs
  have H0 := Lib.hid g0
  have H1 := Lib.hid g1
  clear g0 g1
  obtain ⟨a0, c0, rfl⟩ := vSlice.form H0.out
  obtain ⟨a1, c1, rfl⟩ := vSlice.form H1.out
  unfold TouchD.wt
  have q0e : ∃ q : Nat, q = wtStrs d.reads := ⟨_, rfl⟩
  obtain ⟨q0, q0e⟩ := q0e
  have Q0 := Lib.hid q0e
  have q1e : ∃ q : Nat, q = wtStrs d.writes := ⟨_, rfl⟩
  obtain ⟨q1, q1e⟩ := q1e
  have Q1 := Lib.hid q1e
  have Qt : wtStrs d.reads + wtStrs d.writes = q0 + q1 := by omega
  rw [Qt]
  clear Qt q0e q1e
  go_enter Try.func15, Try.ntmps15
  go_wp2_with fail
  (go_at_call 23; refine (laws_szStringS _ d.reads _ _ (by repeat (first | with_reducible exact H0.out | with_reducible apply View.rdExt | with_reducible apply View.rdAlloc)) (by omega) (by omega)).mono ?_; rintro e w' ⟨rfl, hb⟩; obtain ⟨X, rfl⟩ := hb.ext; clear hb)
  rw [← Q0.out]
  by_cases g0 : (q0 : Int) ≤ left
  case neg =>
    rw [leftOf_none g0]
    go_wp2
    go_ret
    rw [leftOf_none (by omega)]
    exact ⟨rfl, (by repeat (first | with_reducible exact Below.refl _ _ | with_reducible apply Below.ofExt | with_reducible apply Below.ofAlloc | with_reducible apply Below.drew | with_reducible apply Below.ofDrewN | with_reducible assumption | (with_reducible refine Below.setCell ?_ (by first | exact Nat.le_refl _ | (simp [go_sem]; done) | (simp [go_sem]; omega)) _)))⟩
  rw [leftOf_pos g0]
  have n0 : ¬ left - (q0 : Int) < 0 := by omega
  go_wp2_with fail
  (go_at_call 23; refine (laws_szStringS _ d.writes _ _ (by repeat (first | with_reducible exact H1.out | with_reducible apply View.rdExt | with_reducible apply View.rdAlloc)) (by omega) (by omega)).mono ?_; rintro e w' ⟨rfl, hb⟩; obtain ⟨X, rfl⟩ := hb.ext; clear hb)
  rw [← Q1.out]
  by_cases g1 : (q1 : Int) ≤ left - (q0 : Int)
  case neg =>
    rw [leftOf_none g1]
    go_wp2
    go_ret
    rw [leftOf_none (by omega)]
    exact ⟨rfl, (by repeat (first | with_reducible exact Below.refl _ _ | with_reducible apply Below.ofExt | with_reducible apply Below.ofAlloc | with_reducible apply Below.drew | with_reducible apply Below.ofDrewN | with_reducible assumption | (with_reducible refine Below.setCell ?_ (by first | exact Nat.le_refl _ | (simp [go_sem]; done) | (simp [go_sem]; omega)) _)))⟩
  rw [leftOf_pos g1]
  have n1 : ¬ left - (q0 : Int) - (q1 : Int) < 0 := by omega
  go_wp2
  go_ret
  rw [leftOf_pos (by omega)]
  exact ⟨ret_int (by omega), (by repeat (first | with_reducible exact Below.refl _ _ | with_reducible apply Below.ofExt | with_reducible apply Below.ofAlloc | with_reducible apply Below.drew | with_reducible apply Below.ofDrewN | with_reducible assumption | (with_reducible refine Below.setCell ?_ (by first | exact Nat.le_refl _ | (simp [go_sem]; done) | (simp [go_sem]; omega)) _)))⟩
theorem Touch_lens {d : TouchD} {n : Nat} (h : d.wt ≤ n) : d.reads.length ≤ n ∧ d.writes.length ≤ n := by
  unfold TouchD.wt at h
  simp only [wtStrs, wtS] at h
  omega
set_option maxRecDepth 100000 in
theorem laws_toTouch (cs : List Value) (d : TouchD) (w : World) (hs : vTouch.rd w cs d) (hwt : d.wt ≤ 1048576) :
    Calls Try.prog 17 #[.agg cs.toArray] w (MadeA vTouch w d) := by
  obtain ⟨s0, s1, rfl, h0, h1⟩ := hs
  have H0 := Lib.hid h0
  have H1 := Lib.hid h1
  clear h0 h1
  obtain ⟨a0, c0, rfl⟩ := vSlice.form H0.out
  obtain ⟨a1, c1, rfl⟩ := vSlice.form H1.out
  have hlen := Touch_lens hwt
  have HL := Lib.hid hlen
  have HWT := Lib.hid hwt
  clear hlen hwt
  go_enter Try.func17, Try.ntmps17
  go_wp2_with fail
  (go_at_call 25; refine (laws_toStringS _ d.reads _ (by repeat (first | with_reducible exact H0.out | with_reducible apply View.rdExt | with_reducible apply View.rdAlloc)) HL.out.1).mono ?_; rintro e w' ⟨u0, p0, rfl, hf0, hb⟩; obtain ⟨X0, rfl⟩ := hb.ext; clear hb)
  obtain ⟨b0, g0, rfl⟩ := vSlice.form (View.toRd _ hf0.own)
  have o0 := hf0.own
  (try simp only [World.ext_ext] at o0)
  have O0 := Lib.hid o0
  clear o0
  have S0 := Lib.hid hf0.sp
  clear hf0
  go_wp2_with fail
  (go_at_call 25; refine (laws_toStringS _ d.writes _ (by repeat (first | with_reducible exact H1.out | with_reducible apply View.rdExt | with_reducible apply View.rdAlloc)) HL.out.2).mono ?_; rintro e w' ⟨u1, p1, rfl, hf1, hb⟩; obtain ⟨X1, rfl⟩ := hb.ext; clear hb)
  obtain ⟨b1, g1, rfl⟩ := vSlice.form (View.toRd _ hf1.own)
  have o1 := hf1.own
  (try simp only [World.ext_ext] at o1)
  have O1 := Lib.hid o1
  clear o1
  have S1 := Lib.hid hf1.sp
  clear hf1
  go_wp2
  refine bodyPost_ret (by simp [results, Try.results17, go_sem]; rfl) rfl ?_
  refine ⟨_, _, rfl, ⟨⟨_, _, p0, p1, rfl, rfl, ?_, ?_⟩, ?_, ?_⟩, (by repeat (first | with_reducible exact Below.refl _ _ | with_reducible apply Below.ofExt | with_reducible apply Below.ofAlloc | with_reducible apply Below.drew | with_reducible apply Below.ofDrewN | with_reducible assumption | (with_reducible refine Below.setCell ?_ (by first | exact Nat.le_refl _ | (simp [go_sem]; done) | (simp [go_sem]; omega)) _)))⟩
  · exact View.ownTail O0.out (fun k hk => by have := S0.out.lo k hk; simp [World.ext_size] at this ⊢; omega) (by simp) (by (try simp only [← Array.append_assoc]); repeat (first | with_reducible exact Pre.refl _ | with_reducible apply Pre.app))
  · exact View.ownTail O1.out (fun k hk => by have := S1.out.lo k hk; simp [World.ext_size] at this ⊢; omega) (by simp) (by (try simp only [← Array.append_assoc]); repeat (first | with_reducible exact Pre.refl _ | with_reducible apply Pre.app))
  · have := Sp.append (S0.out) (S1.out) (by simp [World.ext_size]; try omega) (by simp [World.ext_size]; try omega) (by simp [World.ext_size]; try omega)
    exact this.nodup
  · have := Sp.append (S0.out) (S1.out) (by simp [World.ext_size]; try omega) (by simp [World.ext_size]; try omega) (by simp [World.ext_size]; try omega)
    intro b hb
    have h2 := this.lo b (by simpa using hb)
    simp [World.ext_size] at h2
    omega
set_option maxRecDepth 100000 in
theorem laws_eqTouch (cs cs' : List Value) (d : TouchD) (w : World) (hs : vTouch.rd w cs d) (hs' : vTouch.rd w cs' d) :
    Calls Try.prog 19 #[.agg cs.toArray, .agg cs'.toArray] w fun e w' => e = .returned (.bool true) ∧ Below w.heap.size w w' := by
  obtain ⟨s0, s1, rfl, h0, h1⟩ := hs
  obtain ⟨t0, t1, rfl, k0, k1⟩ := hs'
  have H0 := Lib.hid h0
  have H1 := Lib.hid h1
  clear h0 h1
  obtain ⟨a0, c0, rfl⟩ := vSlice.form H0.out
  obtain ⟨a1, c1, rfl⟩ := vSlice.form H1.out
  have K0 := Lib.hid k0
  have K1 := Lib.hid k1
  clear k0 k1
  obtain ⟨b0, g0, rfl⟩ := vSlice.form K0.out
  obtain ⟨b1, g1, rfl⟩ := vSlice.form K1.out
  go_enter Try.func19, Try.ntmps19
  go_wp2_with fail
  (go_at_call 27; refine (laws_eqStringS _ _ d.reads _ (by repeat (first | with_reducible exact H0.out | with_reducible apply View.rdExt | with_reducible apply View.rdAlloc)) (by repeat (first | with_reducible exact K0.out | with_reducible apply View.rdExt | with_reducible apply View.rdAlloc))).mono ?_; rintro e w' ⟨rfl, hb⟩; obtain ⟨X, rfl⟩ := hb.ext; clear hb)
  go_wp2_with fail
  (go_at_call 27; refine (laws_eqStringS _ _ d.writes _ (by repeat (first | with_reducible exact H1.out | with_reducible apply View.rdExt | with_reducible apply View.rdAlloc)) (by repeat (first | with_reducible exact K1.out | with_reducible apply View.rdExt | with_reducible apply View.rdAlloc))).mono ?_; rintro e w' ⟨rfl, hb⟩; obtain ⟨X, rfl⟩ := hb.ext; clear hb)
  go_wp2
  go_ret
  exact ⟨rfl, (by repeat (first | with_reducible exact Below.refl _ _ | with_reducible apply Below.ofExt | with_reducible apply Below.ofAlloc | with_reducible apply Below.drew | with_reducible apply Below.ofDrewN | with_reducible assumption | (with_reducible refine Below.setCell ?_ (by first | exact Nat.le_refl _ | (simp [go_sem]; done) | (simp [go_sem]; omega)) _)))⟩
end Go.Proofs.Ytdgnnphghfppbaa
