/- The laws' measure, copy, comparison, marks of Slot. Each condition stands in its theorem. -/
import Derived.Test.YtdelkphahpbegaaTCell
set_option linter.unusedVariables false
set_option linter.unusedSimpArgs false
namespace Go.Proofs.Ytdelkphahpbegaa
open Go.ChangeShapes Go.WideShapes Go.ChangeAt Go.RowKit

structure SlotD where
  seq : Int
  cells : List CellD
  whole : Bool
def vSlot : View SlotD where
  k := 3
  rd w cs d := ∃ (s0 : Value), cs = [.int .i64 d.seq, s0, .bool d.whole] ∧ (vSlice vCell 58).rd w [s0] d.cells
  own w fp cs d := ∃ (s0 : Value) (f0 : List Nat), cs = [.int .i64 d.seq, s0, .bool d.whole] ∧ fp = f0 ∧ (vSlice vCell 58).own w f0 [s0] d.cells
  len := by rintro w cs d ⟨s0, rfl, _⟩; rfl
  one := by
    rintro w cs d ⟨s0, rfl, h0⟩ u hu
    simp only [List.mem_cons, List.not_mem_nil, or_false] at hu
    rcases hu with rfl | rfl | rfl
    · rfl
    · exact View.one _ h0 _ (by simp)
    · rfl
  grow := by rintro w w' cs d ⟨s0, rfl, h0⟩ g; exact ⟨s0, rfl, View.grow _ h0 g⟩
  toRd := by rintro w fp cs d ⟨s0, f0, rfl, rfl, h0⟩; exact ⟨s0, rfl, View.toRd _ h0⟩
  frame := by
    rintro w w' fp cs d ⟨s0, f0, rfl, rfl, h0⟩ g
    exact ⟨s0, _, rfl, rfl, View.frame _ h0 g⟩
  lt := by
    rintro w fp cs d ⟨s0, f0, rfl, rfl, h0⟩ b hb
    exact View.lt _ h0 b hb
theorem vSlot_shape {w : World} {cs : List Value} {d : SlotD} (h : vSlot.rd w cs d) : ∃ a0 c0, cs = [.int .i64 d.seq, .slice a0 d.cells.length c0, .bool d.whole] := by
  obtain ⟨s0, rfl, h0⟩ := h
  obtain ⟨a0, c0, rfl⟩ := vSlice.form h0
  exact ⟨a0, c0, rfl⟩
def SlotD.wt (d : SlotD) : Nat := wtS CellD.wt d.cells
theorem laws_szSlot (cs : List Value) (d : SlotD) (left : Int) (w : World) (hs : vSlot.rd w cs d) (h0 : 0 ≤ left) (h1 : left ≤ 4294967296) :
    Calls Try.prog 47 #[.agg cs.toArray, .int .i64 left] w fun e w' => e = .returned (.int .i64 (leftOf left d.wt)) ∧ Below w.heap.size w w' := by
  obtain ⟨s0, rfl, g0⟩ := hs
  have H0 := Lib.hid g0
  clear g0
  obtain ⟨a0, c0, rfl⟩ := vSlice.form H0.out
  unfold SlotD.wt
  have q0e : ∃ q : Nat, q = wtS CellD.wt d.cells := ⟨_, rfl⟩
  obtain ⟨q0, q0e⟩ := q0e
  have Q0 := Lib.hid q0e
  have Qt : wtS CellD.wt d.cells = q0 := by omega
  rw [Qt]
  clear Qt q0e
  go_enter Try.func47, Try.ntmps47
  go_wp2_with fail
  (go_at_call 12; refine (laws_szCellS _ d.cells _ _ (by repeat (first | with_reducible exact H0.out | with_reducible apply View.rdExt | with_reducible apply View.rdAlloc)) (by omega) (by omega)).mono ?_; rintro e w' ⟨rfl, hb⟩; obtain ⟨X, rfl⟩ := hb.ext; clear hb)
  rw [← Q0.out]
  by_cases g0 : (q0 : Int) ≤ left
  case neg =>
    rw [leftOf_none g0]
    go_wp2
    go_ret
    rw [leftOf_none (by omega)]
    exact ⟨rfl, (by repeat (first | with_reducible exact Below.refl _ _ | with_reducible apply Below.ofExt | with_reducible apply Below.ofAlloc | with_reducible apply Below.drew | with_reducible apply Below.ofDrewN | with_reducible assumption | (with_reducible refine Below.setCell ?_ (by first | exact Nat.le_refl _ | (simp [go_sem]; done) | (simp [go_sem]; omega)) _)))⟩
  rw [leftOf_pos g0]
  have n0 : ¬ left - (q0 : Int) < 0 := by omega
  go_wp2
  go_ret
  rw [leftOf_pos (by omega)]
  exact ⟨ret_int (by omega), (by repeat (first | with_reducible exact Below.refl _ _ | with_reducible apply Below.ofExt | with_reducible apply Below.ofAlloc | with_reducible apply Below.drew | with_reducible apply Below.ofDrewN | with_reducible assumption | (with_reducible refine Below.setCell ?_ (by first | exact Nat.le_refl _ | (simp [go_sem]; done) | (simp [go_sem]; omega)) _)))⟩
theorem Slot_lens {d : SlotD} {n : Nat} (h : d.wt ≤ n) : d.cells.length ≤ n := by
  unfold SlotD.wt at h
  simp only [wtS] at h
  omega
set_option maxRecDepth 100000 in
theorem laws_toSlot (cs : List Value) (d : SlotD) (w : World) (hs : vSlot.rd w cs d) (hwt : d.wt ≤ 1048576) :
    Calls Try.prog 48 #[.agg cs.toArray] w (MadeA vSlot w d) := by
  obtain ⟨s0, rfl, h0⟩ := hs
  have H0 := Lib.hid h0
  clear h0
  obtain ⟨a0, c0, rfl⟩ := vSlice.form H0.out
  have hlen := Slot_lens hwt
  have HL := Lib.hid hlen
  have HWT := Lib.hid hwt
  clear hlen hwt
  go_enter Try.func48, Try.ntmps48
  go_wp2_with fail
  (go_at_call 14; refine (laws_toCellS _ d.cells _ (by repeat (first | with_reducible exact H0.out | with_reducible apply View.rdExt | with_reducible apply View.rdAlloc)) HL.out).mono ?_; rintro e w' ⟨u0, p0, rfl, hf0, hb⟩; obtain ⟨X0, rfl⟩ := hb.ext; clear hb)
  obtain ⟨b0, g0, rfl⟩ := vSlice.form (View.toRd _ hf0.own)
  have o0 := hf0.own
  (try simp only [World.ext_ext] at o0)
  have O0 := Lib.hid o0
  clear o0
  have S0 := Lib.hid hf0.sp
  clear hf0
  go_wp2
  refine bodyPost_ret (by simp [results, Try.results48, go_sem]; rfl) rfl ?_
  refine ⟨_, _, rfl, ⟨⟨_, p0, rfl, rfl, ?_⟩, ?_, ?_⟩, (by repeat (first | with_reducible exact Below.refl _ _ | with_reducible apply Below.ofExt | with_reducible apply Below.ofAlloc | with_reducible apply Below.drew | with_reducible apply Below.ofDrewN | with_reducible assumption | (with_reducible refine Below.setCell ?_ (by first | exact Nat.le_refl _ | (simp [go_sem]; done) | (simp [go_sem]; omega)) _)))⟩
  · exact View.ownTail O0.out (fun k hk => by have := S0.out.lo k hk; simp [World.ext_size] at this ⊢; omega) (by simp) (by (try simp only [← Array.append_assoc]); repeat (first | with_reducible exact Pre.refl _ | with_reducible apply Pre.app))
  · have := S0.out
    exact this.nodup
  · have := S0.out
    intro b hb
    have h2 := this.lo b (by simpa using hb)
    simp [World.ext_size] at h2
    omega
set_option maxRecDepth 100000 in
theorem laws_eqSlot (cs cs' : List Value) (d : SlotD) (w : World) (hs : vSlot.rd w cs d) (hs' : vSlot.rd w cs' d) :
    Calls Try.prog 49 #[.agg cs.toArray, .agg cs'.toArray] w fun e w' => e = .returned (.bool true) ∧ Below w.heap.size w w' := by
  obtain ⟨s0, rfl, h0⟩ := hs
  obtain ⟨t0, rfl, k0⟩ := hs'
  have H0 := Lib.hid h0
  clear h0
  obtain ⟨a0, c0, rfl⟩ := vSlice.form H0.out
  have K0 := Lib.hid k0
  clear k0
  obtain ⟨b0, g0, rfl⟩ := vSlice.form K0.out
  go_enter Try.func49, Try.ntmps49
  go_wp2_with fail
  (go_at_call 16; refine (laws_eqCellS _ _ d.cells _ (by repeat (first | with_reducible exact H0.out | with_reducible apply View.rdExt | with_reducible apply View.rdAlloc)) (by repeat (first | with_reducible exact K0.out | with_reducible apply View.rdExt | with_reducible apply View.rdAlloc))).mono ?_; rintro e w' ⟨rfl, hb⟩; obtain ⟨X, rfl⟩ := hb.ext; clear hb)
  go_wp2
  go_ret
  exact ⟨rfl, (by repeat (first | with_reducible exact Below.refl _ _ | with_reducible apply Below.ofExt | with_reducible apply Below.ofAlloc | with_reducible apply Below.drew | with_reducible apply Below.ofDrewN | with_reducible assumption | (with_reducible refine Below.setCell ?_ (by first | exact Nat.le_refl _ | (simp [go_sem]; done) | (simp [go_sem]; omega)) _)))⟩
end Go.Proofs.Ytdelkphahpbegaa
