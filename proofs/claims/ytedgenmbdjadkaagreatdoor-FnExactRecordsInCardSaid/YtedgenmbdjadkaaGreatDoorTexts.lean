/- Hexadecimal and decimal texts: the program's. Each condition stands in its theorem. -/
import Derived.Test.YtedgenmbdjadkaaGreatDoorTextS
import Derived.Test.YtedgenmbdjadkaaGreatDoorShelf
set_option linter.unusedVariables false
set_option linter.unusedSimpArgs false
namespace Go.Proofs.YtedgenmbdjadkaaGreatDoor
open Go.ChangeShapes Go.WideShapes Go.ChangeAt Go.RowKit

theorem _root_.Go.RowKit.Below.ofGrow {w : World} (k : Nat) (os : Array Obj) : Below w.heap.size w (Sort.grow (w.drewN k) os) := by
  refine ⟨rfl, rfl, rfl, ?_, fun i hi => ?_⟩
  · simp [Sort.grow, World.drewN]
  · simp only [Sort.grow, World.drewN]
    rw [Array.getElem?_append_left hi]
def Tab10 (w : World) : Prop := Lib.TabIs Tryz.prog w "internal/strconv.uint64pow10" .u64 Lib.pow10Tab
theorem Tab10.below {w w' : World} (h : Tab10 w) (hb : Below w.heap.size w w') : Tab10 w' := Go.Lib.tabBelow_of_tabIs h w' hb
theorem impl_Decimal (n : Int) (w : World) (h0 : -9223372036854775808 ≤ n) (h1 : n ≤ 9223372036854775807) (ht : Tab10 w) :
    Calls Tryz.prog 52 #[.int .i64 n] w fun e w' => e = .returned (.string (strOf (Lib.itoa n))) ∧ Below w.heap.size w w' := by
  go_enter Tryz.func52, Tryz.ntmps52
  go_wp2_with fail
  (go_at_call 84; refine (Tryz.strconv_Itoa n h0 h1 w ht).mono ?_; rintro e w' ⟨rfl, k, os, rfl⟩)
  go_wp2
  go_ret
  exact ⟨rfl, Below.ofGrow k os⟩
theorem lib_enc (v : Value) (l : List UInt8) (B : Nat) (w : World) (h : OwnB 5 w B v l) (hl : 2 * l.length ≤ 281474976710656) :
    Calls Tryz.prog 101 #[v] w fun e w' => e = .returned (.string (strOf (Lib.Hx.encode l))) ∧ Below w.heap.size w w' := by
  have hs := h.sl
  rcases h with ⟨rfl, rfl⟩ | ⟨g, cap, cur, fz, rfl, hb, hg, _, hnc, hcm, hcs, ht⟩
  · exact Tryz.hex_EncodeToString_nil w
  · refine Tryz.hex_EncodeToString_bytes g 0 cap l w (fun i hi => ?_) (Array.getElem?_eq_some_iff.1 hg).1 hl
    have hu : (bytesOf l)[i]? = some (.int .u8 (l[i].toNat : Int)) := by unfold bytesOf; rw [List.getElem?_map, List.getElem?_eq_getElem hi]; rfl
    rw [← ht, List.getElem?_take, if_pos hi] at hu
    simp only [World.cell?, hg, Nat.zero_add]
    simpa using hu
theorem impl_Hex (s : ByteArray) (w : World) (hs : s.size ≤ 9223372036854775807) :
    Calls Tryz.prog 85 #[.string s] w fun e w' => e = .returned (.tuple #[.string (hexT s), .bool (decide (s.size ≤ 20000))]) ∧ Below w.heap.size w w' := by
  go_enter Tryz.func85, Tryz.ntmps85
  by_cases hb : (20000 : Int) < s.size
  · go_wp2
    refine bodyPost_ret (by simp [results, Tryz.results85, go_sem]; rfl) rfl ?_
    refine ⟨?_, (by repeat (first | with_reducible exact Below.refl _ _ | with_reducible apply Below.ofExt | with_reducible apply Below.ofAlloc | with_reducible apply Below.drew | with_reducible apply Below.ofDrewN | with_reducible assumption | (with_reducible refine Below.setCell ?_ (by first | exact Nat.le_refl _ | (simp [go_sem]; done) | (simp [go_sem]; omega)) _)))⟩
    unfold hexT
    rw [if_neg (by omega), decide_eq_false (by omega)]
  obtain ⟨v, w1, hcv, ho, hbl⟩ := conv_bytes w s hs
  obtain ⟨X, rfl⟩ := hbl.ext
  have hlen : s.data.toList.length = s.size := by simp
  have hc := lib_enc v s.data.toList _ (w.ext X) ho (by omega)
  clear ho hlen
  go_wp2_with fail
  (go_at_call 101; refine hc.mono ?_; rintro e w' ⟨rfl, hb2⟩; obtain ⟨X2, rfl⟩ := hb2.ext; clear hb2 hc)
  go_wp2
  refine bodyPost_ret (by simp [results, Tryz.results85, go_sem]; rfl) rfl ?_
  refine ⟨?_, (by repeat (first | with_reducible exact Below.refl _ _ | with_reducible apply Below.ofExt | with_reducible apply Below.ofAlloc | with_reducible apply Below.drew | with_reducible apply Below.ofDrewN | with_reducible assumption | (with_reducible refine Below.setCell ?_ (by first | exact Nat.le_refl _ | (simp [go_sem]; done) | (simp [go_sem]; omega)) _)))⟩
  unfold hexT
  rw [if_pos (by omega), decide_eq_true (by omega)]
theorem impl_hexOf (s : ByteArray) (w : World) (hs : s.size ≤ 9223372036854775807) :
    Calls Tryz.prog 55 #[.string s] w fun e w' => e = .returned (.string (hexT s)) ∧ Below w.heap.size w w' := by
  go_enter Tryz.func55, Tryz.ntmps55
  go_wp2_with fail
  (go_at_call 85; refine (impl_Hex s w hs).mono ?_; rintro e w' ⟨rfl, hb⟩; obtain ⟨X, rfl⟩ := hb.ext; clear hb)
  go_wp2
  go_ret
  exact ⟨rfl, (by repeat (first | with_reducible exact Below.refl _ _ | with_reducible apply Below.ofExt | with_reducible apply Below.ofAlloc | with_reducible apply Below.drew | with_reducible apply Below.ofDrewN | with_reducible assumption | (with_reducible refine Below.setCell ?_ (by first | exact Nat.le_refl _ | (simp [go_sem]; done) | (simp [go_sem]; omega)) _)))⟩
end Go.Proofs.YtedgenmbdjadkaaGreatDoor
