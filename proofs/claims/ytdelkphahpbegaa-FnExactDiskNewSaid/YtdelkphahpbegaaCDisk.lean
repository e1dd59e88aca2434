/- The laws' measure, copy, comparison, marks of Disk. Each condition stands in its theorem. -/
import Derived.Test.YtdelkphahpbegaaCSlotS
import Derived.Test.YtdelkphahpbegaaTJournal
set_option linter.unusedVariables false
set_option linter.unusedSimpArgs false
namespace Go.Proofs.Ytdelkphahpbegaa
open Go.ChangeShapes Go.WideShapes Go.ChangeAt Go.RowKit

structure DiskD where
  slots : List SlotD
  journal : JournalD
def vDisk : View DiskD where
  k := 3
  rd w cs d := ∃ (s0 : Value), cs = [s0, .string d.journal.text, .int .i64 d.journal.sure] ∧ (vSlice vSlot 50).rd w [s0] d.slots ∧ d.journal.text.size ≤ 9223372036854775807
  own w fp cs d := ∃ (s0 : Value) (f0 : List Nat), cs = [s0, .string d.journal.text, .int .i64 d.journal.sure] ∧ fp = f0 ∧ (vSlice vSlot 50).own w f0 [s0] d.slots ∧ d.journal.text.size ≤ 9223372036854775807
  len := by rintro w cs d ⟨s0, rfl, _⟩; rfl
  one := by
    rintro w cs d ⟨s0, rfl, h0, z0⟩ u hu
    simp only [List.mem_cons, List.not_mem_nil, or_false] at hu
    rcases hu with rfl | rfl | rfl
    · exact View.one _ h0 _ (by simp)
    · rfl
    · rfl
  grow := by rintro w w' cs d ⟨s0, rfl, h0, z0⟩ g; exact ⟨s0, rfl, View.grow _ h0 g, z0⟩
  toRd := by rintro w fp cs d ⟨s0, f0, rfl, rfl, h0, z0⟩; exact ⟨s0, rfl, View.toRd _ h0, z0⟩
  frame := by
    rintro w w' fp cs d ⟨s0, f0, rfl, rfl, h0, z0⟩ g
    exact ⟨s0, _, rfl, rfl, View.frame _ h0 g, z0⟩
  lt := by
    rintro w fp cs d ⟨s0, f0, rfl, rfl, h0, z0⟩ b hb
    exact View.lt _ h0 b hb
theorem vDisk_shape {w : World} {cs : List Value} {d : DiskD} (h : vDisk.rd w cs d) : ∃ a0 c0, cs = [.slice a0 d.slots.length c0, .string d.journal.text, .int .i64 d.journal.sure] := by
  obtain ⟨s0, rfl, h0, z0⟩ := h
  obtain ⟨a0, c0, rfl⟩ := vSlice.form h0
  exact ⟨a0, c0, rfl⟩
def DiskD.wt (d : DiskD) : Nat := wtS SlotD.wt d.slots + d.journal.text.size
theorem laws_szDisk (cs : List Value) (d : DiskD) (left : Int) (w : World) (hs : vDisk.rd w cs d) (h0 : 0 ≤ left) (h1 : left ≤ 4294967296) :
    Calls Try.prog 7 #[.agg cs.toArray, .int .i64 left] w fun e w' => e = .returned (.int .i64 (leftOf left d.wt)) ∧ Below w.heap.size w w' := by
  obtain ⟨s0, rfl, g0, z0⟩ := hs
  have H0 := Lib.hid g0
  clear g0
  obtain ⟨a0, c0, rfl⟩ := vSlice.form H0.out
  unfold DiskD.wt
  have q0e : ∃ q : Nat, q = wtS SlotD.wt d.slots := ⟨_, rfl⟩
  obtain ⟨q0, q0e⟩ := q0e
  have Q0 := Lib.hid q0e
  have q1e : ∃ q : Nat, q = JournalD.wt d.journal := ⟨_, rfl⟩
  obtain ⟨q1, q1e⟩ := q1e
  have Q1 := Lib.hid q1e
  unfold JournalD.wt at q1e
  have Qt : wtS SlotD.wt d.slots + d.journal.text.size = q0 + q1 := by omega
  rw [Qt]
  clear Qt q0e q1e
  go_enter Try.func7, Try.ntmps7
  go_wp2_with fail
  (go_at_call 24; refine (laws_szSlotS _ d.slots _ _ (by repeat (first | with_reducible exact H0.out | with_reducible apply View.rdExt | with_reducible apply View.rdAlloc)) (by omega) (by omega)).mono ?_; rintro e w' ⟨rfl, hb⟩; obtain ⟨X, rfl⟩ := hb.ext; clear hb)
  rw [← Q0.out]
  by_cases g0 : (q0 : Int) ≤ left
  case neg =>
    rw [leftOf_none g0]
    go_wp2
    go_ret
    rw [leftOf_none (by omega)]
    exact ⟨rfl, (by repeat (first | with_reducible exact Below.refl _ _ | with_reducible apply Below.ofExt | with_reducible apply Below.ofAlloc | with_reducible apply Below.drew | with_reducible apply Below.ofDrewN | with_reducible assumption | (with_reducible refine Below.setCell ?_ (by first | exact Nat.le_refl _ | (simp [go_sem]; done) | (simp [go_sem]; omega)) _)))⟩
  rw [leftOf_pos g0]
  have n0 : ¬ left - (q0 : Int) < 0 := by omega
  go_wp2_with fail
  (go_at_call 25; refine (laws_szJournal d.journal _ _ z0 (by omega) (by omega)).mono ?_; rintro e w' ⟨rfl, hb⟩; obtain ⟨X, rfl⟩ := hb.ext; clear hb)
  rw [← Q1.out]
  by_cases g1 : (q1 : Int) ≤ left - (q0 : Int)
  case neg =>
    rw [leftOf_none g1]
    go_wp2
    go_ret
    rw [leftOf_none (by omega)]
    exact ⟨rfl, (by repeat (first | with_reducible exact Below.refl _ _ | with_reducible apply Below.ofExt | with_reducible apply Below.ofAlloc | with_reducible apply Below.drew | with_reducible apply Below.ofDrewN | with_reducible assumption | (with_reducible refine Below.setCell ?_ (by first | exact Nat.le_refl _ | (simp [go_sem]; done) | (simp [go_sem]; omega)) _)))⟩
  rw [leftOf_pos g1]
  have n1 : ¬ left - (q0 : Int) - (q1 : Int) < 0 := by omega
  go_wp2
  go_ret
  rw [leftOf_pos (by omega)]
  exact ⟨ret_int (by omega), (by repeat (first | with_reducible exact Below.refl _ _ | with_reducible apply Below.ofExt | with_reducible apply Below.ofAlloc | with_reducible apply Below.drew | with_reducible apply Below.ofDrewN | with_reducible assumption | (with_reducible refine Below.setCell ?_ (by first | exact Nat.le_refl _ | (simp [go_sem]; done) | (simp [go_sem]; omega)) _)))⟩
theorem Disk_lens {d : DiskD} {n : Nat} (h : d.wt ≤ n) : d.slots.length ≤ n := by
  unfold DiskD.wt at h
  simp only [wtS] at h
  omega
set_option maxRecDepth 100000 in
theorem laws_toDisk (cs : List Value) (d : DiskD) (w : World) (hs : vDisk.rd w cs d) (hwt : d.wt ≤ 1048576) :
    Calls Try.prog 9 #[.agg cs.toArray] w (MadeA vDisk w d) := by
  obtain ⟨s0, rfl, h0, z0⟩ := hs
  have H0 := Lib.hid h0
  clear h0
  obtain ⟨a0, c0, rfl⟩ := vSlice.form H0.out
  have hlen := Disk_lens hwt
  have HL := Lib.hid hlen
  have HWT := Lib.hid hwt
  clear hlen hwt
  have Z0 := Lib.hid z0
  go_enter Try.func9, Try.ntmps9
  go_wp2_with fail
  (go_at_call 26; refine (laws_toSlotS _ d.slots _ (by repeat (first | with_reducible exact H0.out | with_reducible apply View.rdExt | with_reducible apply View.rdAlloc)) (by have := HWT.out; unfold DiskD.wt at this; omega)).mono ?_; rintro e w' ⟨u0, p0, rfl, hf0, hb⟩; obtain ⟨X0, rfl⟩ := hb.ext; clear hb)
  obtain ⟨b0, g0, rfl⟩ := vSlice.form (View.toRd _ hf0.own)
  have o0 := hf0.own
  (try simp only [World.ext_ext] at o0)
  have O0 := Lib.hid o0
  clear o0
  have S0 := Lib.hid hf0.sp
  clear hf0
  go_wp2_with fail
  (go_at_call 27; refine (laws_toJournal _ _ _).mono ?_; rintro e w' ⟨rfl, hb⟩; obtain ⟨X, rfl⟩ := hb.ext; clear hb)
  go_wp2
  refine bodyPost_ret (by simp [results, Try.results9, go_sem]; rfl) rfl ?_
  refine ⟨_, _, rfl, ⟨⟨_, p0, rfl, rfl, ?_, Z0.out⟩, ?_, ?_⟩, (by repeat (first | with_reducible exact Below.refl _ _ | with_reducible apply Below.ofExt | with_reducible apply Below.ofAlloc | with_reducible apply Below.drew | with_reducible apply Below.ofDrewN | with_reducible assumption | (with_reducible refine Below.setCell ?_ (by first | exact Nat.le_refl _ | (simp [go_sem]; done) | (simp [go_sem]; omega)) _)))⟩
  · exact View.ownTail O0.out (fun k hk => by have := S0.out.lo k hk; simp [World.ext_size] at this ⊢; omega) (by simp) (by (try simp only [← Array.append_assoc]); repeat (first | with_reducible exact Pre.refl _ | with_reducible apply Pre.app))
  · have := S0.out
    exact this.nodup
  · have := S0.out
    intro b hb
    have h2 := this.lo b (by simpa using hb)
    simp [World.ext_size] at h2
    omega
set_option maxRecDepth 100000 in
theorem laws_eqDisk (cs cs' : List Value) (d : DiskD) (w : World) (hs : vDisk.rd w cs d) (hs' : vDisk.rd w cs' d) :
    Calls Try.prog 11 #[.agg cs.toArray, .agg cs'.toArray] w fun e w' => e = .returned (.bool true) ∧ Below w.heap.size w w' := by
  obtain ⟨s0, rfl, h0, z0⟩ := hs
  obtain ⟨t0, rfl, k0, _⟩ := hs'
  have H0 := Lib.hid h0
  clear h0
  obtain ⟨a0, c0, rfl⟩ := vSlice.form H0.out
  have K0 := Lib.hid k0
  clear k0
  obtain ⟨b0, g0, rfl⟩ := vSlice.form K0.out
  go_enter Try.func11, Try.ntmps11
  go_wp2_with fail
  (go_at_call 28; refine (laws_eqSlotS _ _ d.slots _ (by repeat (first | with_reducible exact H0.out | with_reducible apply View.rdExt | with_reducible apply View.rdAlloc)) (by repeat (first | with_reducible exact K0.out | with_reducible apply View.rdExt | with_reducible apply View.rdAlloc))).mono ?_; rintro e w' ⟨rfl, hb⟩; obtain ⟨X, rfl⟩ := hb.ext; clear hb)
  go_wp2_with fail
  (go_at_call 29; refine (laws_eqJournal _ _ _).mono ?_; rintro e w' ⟨rfl, hb⟩; obtain ⟨X, rfl⟩ := hb.ext; clear hb)
  go_wp2
  go_ret
  exact ⟨rfl, (by repeat (first | with_reducible exact Below.refl _ _ | with_reducible apply Below.ofExt | with_reducible apply Below.ofAlloc | with_reducible apply Below.drew | with_reducible apply Below.ofDrewN | with_reducible assumption | (with_reducible refine Below.setCell ?_ (by first | exact Nat.le_refl _ | (simp [go_sem]; done) | (simp [go_sem]; omega)) _)))⟩
end Go.Proofs.Ytdelkphahpbegaa
