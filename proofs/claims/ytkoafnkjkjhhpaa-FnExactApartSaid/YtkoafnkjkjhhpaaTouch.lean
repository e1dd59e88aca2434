/- The laws' measure, copy and comparison of access sets. Each condition stands in its theorem. -/
import Derived.Test.YtkoafnkjkjhhpaaStr
set_option linter.unusedVariables false
set_option linter.unusedSimpArgs false
namespace Go.Proofs.Ytkoafnkjkjhhpaa
open Go.ChangeShapes Go.WideShapes Go.ChangeAt Go.RowKit

structure TouchD where
  reads : List ByteArray
  writes : List ByteArray
def TouchD.wt (d : TouchD) : Nat := wtStrs d.reads + wtStrs d.writes
structure TouchD.ok (d : TouchD) : Prop where
  r : ∀ s ∈ d.reads, s.size ≤ maxLen
  w : ∀ s ∈ d.writes, s.size ≤ maxLen
def RdTouch (w : World) (v : Value) (d : TouchD) : Prop := ∃ vr vw, v = .agg #[vr, vw] ∧ RdL rStr w vr d.reads ∧ RdL rStr w vw d.writes
theorem RdTouch.ext {w : World} {v : Value} {d : TouchD} (h : RdTouch w v d) (X : Ext) : RdTouch (w.ext X) v d := by
  obtain ⟨vr, vw, rfl, h1, h2⟩ := h
  exact ⟨vr, vw, rfl, h1.ext X, h2.ext X⟩
theorem RdTouch.alloc {w : World} {v : Value} {d : TouchD} (h : RdTouch w v d) (o : Obj) : RdTouch (w.alloc o) v d := by
  obtain ⟨vr, vw, rfl, h1, h2⟩ := h
  exact ⟨vr, vw, rfl, h1.alloc o, h2.alloc o⟩
theorem RdTouch.below {w w' : World} {v : Value} {d : TouchD} (h : RdTouch w v d) (hb : Below w.heap.size w w') : RdTouch w' v d := by
  obtain ⟨X, rfl⟩ := hb.ext
  exact h.ext X
def RdTouchW (w : World) (v : Value) (d : TouchD) : Prop := ∃ vr vw, v = .agg #[vr, vw] ∧ RdW rStr w vr d.reads ∧ RdW rStr w vw d.writes
theorem RdTouchW.ext {w : World} {v : Value} {d : TouchD} (h : RdTouchW w v d) (X : Ext) : RdTouchW (w.ext X) v d := by
  obtain ⟨vr, vw, rfl, h1, h2⟩ := h
  exact ⟨vr, vw, rfl, h1.ext X, h2.ext X⟩
theorem RdTouchW.alloc {w : World} {v : Value} {d : TouchD} (h : RdTouchW w v d) (o : Obj) : RdTouchW (w.alloc o) v d := by
  obtain ⟨vr, vw, rfl, h1, h2⟩ := h
  exact ⟨vr, vw, rfl, h1.alloc o, h2.alloc o⟩
theorem RdTouch.merge {w : World} {v : Value} {d : TouchD} {xs bs : Array Obj} {d0 dr : Nat} (h : RdTouch (w.ext ⟨xs, d0⟩) v d) : RdTouch (w.ext ⟨xs ++ bs, dr⟩) v d := by
  have := h.ext ⟨bs, dr⟩
  rwa [World.ext_ext] at this
theorem RdTouch.drew {w : World} {v : Value} {d : TouchD} (h : RdTouch w v d) : RdTouch w.drew v d := h
theorem RdTouchW.drew {w : World} {v : Value} {d : TouchD} (h : RdTouchW w v d) : RdTouchW w.drew v d := h
theorem wt_le {d : TouchD} {n : Nat} (h : d.wt ≤ n) : d.reads.length ≤ n ∧ d.writes.length ≤ n := by
  unfold TouchD.wt wtStrs at h
  omega
theorem leftOf_add {left : Int} {a b : Nat} (h : ((a : Nat) : Int) ≤ left) : leftOf (leftOf left a) b = leftOf left (a + b) := by
  unfold leftOf
  rw [if_pos h]
  by_cases h2 : (b : Int) ≤ left - a
  · rw [if_pos h2, if_pos (by omega)]; omega
  · rw [if_neg h2, if_neg (by omega)]
theorem leftOf_neg {left : Int} {a b : Nat} (h : ¬ ((a : Nat) : Int) ≤ left) : leftOf left (a + b) = -1 := by
  unfold leftOf
  rw [if_neg (by omega)]
theorem leftOf_pos {left : Int} {a : Nat} (h : ((a : Nat) : Int) ≤ left) : leftOf left a = left - a := by
  unfold leftOf
  rw [if_pos h]

theorem laws_szTouch (v : Value) (d : TouchD) (left : Int) (w : World) (hs : RdTouchW w v d) (hz : d.ok) (h0 : 0 ≤ left) (h1 : left ≤ 4294967296) :
    Calls Try.prog 4 #[v, .int .i64 left] w fun e w' => e = .returned (.int .i64 (leftOf left d.wt)) ∧ Below w.heap.size w w' := by
  obtain ⟨vr, vw, rfl, hr, hw⟩ := hs
  have HR := Lib.hid hr
  have HW := Lib.hid hw
  clear hr hw
  unfold TouchD.wt
  by_cases hl : ((wtStrs d.reads : Nat) : Int) ≤ left
  · have hadd := leftOf_add (b := wtStrs d.writes) hl
    have hlp := leftOf_pos hl
    go_enter Try.func4, Try.ntmps4
    go_wp2_with fail
    (go_at_call 9; refine (laws_szStringS vr d.reads left _ (HR.out.alloc _) hz.r h0 h1).mono ?_; rintro e w' ⟨rfl, rfl⟩)
    rw [hlp] at hadd ⊢
    have hn : ¬ left - (wtStrs d.reads : Int) < 0 := by omega
    go_wp2_with fail
    (go_at_call 9; refine (laws_szStringS vw d.writes (left - (wtStrs d.reads : Int)) _ (HW.out.alloc _) hz.w (by omega) (by omega)).mono ?_; rintro e w' ⟨rfl, rfl⟩)
    rw [hadd]
    by_cases h2 : leftOf left (wtStrs d.reads + wtStrs d.writes) < 0
    · have : leftOf left (wtStrs d.reads + wtStrs d.writes) = -1 := by unfold leftOf at h2 ⊢; split at h2 <;> omega
      rw [this]
      go_wp2
      go_ret
      exact ⟨by rw [this]; rfl, (by repeat (first | with_reducible exact Below.refl _ _ | with_reducible apply Below.ofExt | with_reducible apply Below.ofAlloc | with_reducible apply Below.drew | with_reducible assumption | (with_reducible refine Below.setCell ?_ (by first | exact Nat.le_refl _ | (simp [go_sem]; done) | (simp [go_sem]; omega)) _)))⟩
    · go_wp2
      go_ret
      exact ⟨rfl, (by repeat (first | with_reducible exact Below.refl _ _ | with_reducible apply Below.ofExt | with_reducible apply Below.ofAlloc | with_reducible apply Below.drew | with_reducible assumption | (with_reducible refine Below.setCell ?_ (by first | exact Nat.le_refl _ | (simp [go_sem]; done) | (simp [go_sem]; omega)) _)))⟩
  · have hadd := leftOf_neg (b := wtStrs d.writes) hl
    have hlp : leftOf left (wtStrs d.reads) = -1 := by unfold leftOf; rw [if_neg hl]
    rw [hadd]
    go_enter Try.func4, Try.ntmps4
    go_wp2_with fail
    (go_at_call 9; refine (laws_szStringS vr d.reads left _ (HR.out.alloc _) hz.r h0 h1).mono ?_; rintro e w' ⟨rfl, rfl⟩)
    rw [hlp]
    go_wp2
    go_ret
    exact ⟨rfl, (by repeat (first | with_reducible exact Below.refl _ _ | with_reducible apply Below.ofExt | with_reducible apply Below.ofAlloc | with_reducible apply Below.drew | with_reducible assumption | (with_reducible refine Below.setCell ?_ (by first | exact Nat.le_refl _ | (simp [go_sem]; done) | (simp [go_sem]; omega)) _)))⟩

theorem laws_toTouch (v : Value) (d : TouchD) (w : World) (hs : RdTouchW w v d) (hl1 : d.reads.length ≤ 4194304) (hl2 : d.writes.length ≤ 4194304) :
    Calls Try.prog 6 #[v] w fun e w' => ∃ vr vw, e = .returned (.agg #[vr, vw]) ∧ OwnL rStr 9 w' w.heap.size vr d.reads ∧ OwnL rStr 9 w' w.heap.size vw d.writes ∧ (∀ b, vr.ownBlock = some b → vw.ownBlock ≠ some b) ∧ Below w.heap.size w w' := by
  obtain ⟨vr, vw, rfl, hr, hw⟩ := hs
  have HR := Lib.hid hr
  have HW := Lib.hid hw
  clear hr hw
  obtain ⟨ar, cr, rfl⟩ := HR.out.form
  obtain ⟨aw, cw, rfl⟩ := HW.out.form
  have HL1 := Lib.hid hl1
  have HL2 := Lib.hid hl2
  clear hl1 hl2
  go_enter Try.func6, Try.ntmps6
  go_wp2_with fail
  (go_at_call 11; refine (laws_toStringS _ d.reads _ (((HR.out.alloc _).alloc _).alloc _) HL1.out).mono ?_; rintro e w' ⟨u1, rfl, ho1, hb⟩; obtain ⟨X1, rfl⟩ := hb.ext; clear hb)
  obtain ⟨a1, c1, rfl⟩ := ho1.rd.form
  have HO1 := Lib.hid ho1
  clear ho1
  go_wp2_with fail
  (go_at_call 11; refine (laws_toStringS _ d.writes _ (((((HW.out.alloc _).alloc _).alloc _)).ext _) HL2.out).mono ?_; rintro e w' ⟨u2, rfl, ho2, hb⟩; obtain ⟨X2, rfl⟩ := hb.ext; clear hb)
  obtain ⟨a2, c2, rfl⟩ := ho2.rd.form
  have HO2 := Lib.hid ho2
  clear ho2
  go_wp2
  refine bodyPost_ret (by simp [results, Try.results6, go_sem]; rfl) rfl ?_
  refine ⟨_, _, rfl, ?_, ?_, ?_, (by repeat (first | with_reducible exact Below.refl _ _ | with_reducible apply Below.ofExt | with_reducible apply Below.ofAlloc | with_reducible apply Below.drew | with_reducible assumption | (with_reducible refine Below.setCell ?_ (by first | exact Nat.le_refl _ | (simp [go_sem]; done) | (simp [go_sem]; omega)) _)))⟩
  · rw [← World.ext_ext]
    exact OwnL.base (OwnL.ext (OwnL.agr HO1.out (by repeat (first | with_reducible apply Agr.ext | with_reducible apply Agr.alloc | exact Agr.past (by simp [World.ext_size]) (by simp [World.ext_size]; done) | exact Agr.past (by simp [World.ext_size]) (by simp [World.ext_size]; omega)))) X2) (by simp; omega)
  · rw [← World.ext_ext]
    exact OwnL.base (OwnL.agr HO2.out (by repeat (first | with_reducible apply Agr.ext | with_reducible apply Agr.alloc | exact Agr.past (by simp [World.ext_size]) (by simp [World.ext_size]; done) | exact Agr.past (by simp [World.ext_size]) (by simp [World.ext_size]; omega)))) (by simp [World.ext_size]; omega)
  · intro b h1 h2
    have g1 := (HO1.out.lt b h1).2
    have g2 := (HO2.out.lt b h2).1
    simp [World.ext_size] at g1 g2
    omega
theorem laws_eqTouch (v v' : Value) (d : TouchD) (w : World) (hs : RdTouch w v d) (hs' : RdTouch w v' d) :
    Calls Try.prog 8 #[v, v'] w fun e w' => e = .returned (.bool true) ∧ Below w.heap.size w w' := by
  obtain ⟨vr, vw, rfl, hr, hw⟩ := hs
  obtain ⟨vr', vw', rfl, hr', hw'⟩ := hs'
  have HR := Lib.hid hr
  have HW := Lib.hid hw
  have HR' := Lib.hid hr'
  have HW' := Lib.hid hw'
  clear hr hw hr' hw'
  go_enter Try.func8, Try.ntmps8
  go_wp2_with fail
  (go_at_call 13; refine (laws_eqStringS vr vr' d.reads _ ((HR.out.alloc _).alloc _) ((HR'.out.alloc _).alloc _)).mono ?_; rintro e w' ⟨rfl, hb⟩; obtain ⟨X, rfl⟩ := hb.ext; clear hb)
  go_wp2_with fail
  (go_at_call 13; refine (laws_eqStringS vw vw' d.writes _ (((HW.out.alloc _).alloc _).ext _) (((HW'.out.alloc _).alloc _).ext _)).mono ?_; rintro e w' ⟨rfl, hb⟩; obtain ⟨X, rfl⟩ := hb.ext; clear hb)
  go_wp2
  go_ret
  exact ⟨rfl, (by repeat (first | with_reducible exact Below.refl _ _ | with_reducible apply Below.ofExt | with_reducible apply Below.ofAlloc | with_reducible apply Below.drew | with_reducible assumption | (with_reducible refine Below.setCell ?_ (by first | exact Nat.le_refl _ | (simp [go_sem]; done) | (simp [go_sem]; omega)) _)))⟩
end Go.Proofs.Ytkoafnkjkjhhpaa
