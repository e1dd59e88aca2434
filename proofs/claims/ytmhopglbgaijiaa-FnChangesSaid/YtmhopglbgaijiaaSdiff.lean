/- The keys at which two stores differ: the reference's: the program's and the reference's. Each condition stands in its theorem. -/
import Derived.Test.YtmhopglbgaijiaaDiffLaw
import Derived.Test.YtmhopglbgaijiaaPutO
set_option linter.unusedVariables false
set_option linter.unusedSimpArgs false
namespace Go.Proofs.Ytmhopglbgaijiaa
open Go.ChangeShapes Go.WideShapes Go.ChangeAt Go.RowKit

theorem OwnL.heapEq' {α : Type} {R : RowOf α} {e : TypeId} {w w' : World} {B : Nat} {v : Value} {xs : List α} (h : OwnL R e w B v xs) (he : w'.heap = w.heap) : OwnL R e w' B v xs := by
  cases w
  cases w'
  cases he
  exact h
theorem OwnL.mergeC' {α : Type} {R : RowOf α} {e : TypeId} {w : World} {B : Nat} {v : Value} {xs : List α} {bs cs : Array Obj} {d0 dr : Nat} (h : OwnL R e (w.ext ⟨bs, d0⟩) B v xs) : OwnL R e (w.ext ⟨bs ++ cs, dr⟩) B v xs := by
  have := h.ext ⟨cs, dr⟩
  rwa [World.ext_ext] at this
theorem foldl_take_snoc {α β : Type} (f : β → α → β) (acc : β) (zs : List α) (n : Nat) (h : n < zs.length) : (zs.take (n + 1)).foldl f acc = f ((zs.take n).foldl f acc) zs[n] := by
  rw [List.take_succ_eq_append_getElem h, foldl_snoc]
set_option maxRecDepth 100000 in
set_option maxHeartbeats 2000000 in
theorem spec_DiffKeys (va vb : Value) (a b : List CellD) (w : World) (ha : RdL rCell w va a) (hb : RdL rCell w vb b) (hl : a.length ≤ 1048576) (hl2 : b.length ≤ 1048576) :
    Calls Try.prog 45 #[va, vb] w fun e w' => ∃ v', e = .returned v' ∧ OwnL rStr 9 w' w.heap.size v' (diffC a b) ∧ Below w.heap.size w w' := by
  have HA := Lib.hid ha
  have HB := Lib.hid hb
  obtain ⟨aa, ca, rfl, ha1, ha2, _, hane⟩ := ha.shape
  obtain ⟨ab, cb, rfl, hb1, hb2, _, hbne⟩ := hb.shape
  have HXA := Lib.hid hane
  have HXB := Lib.hid hbne
  clear ha hb hane hbne
  unfold maxLen at ha2 hb2
  go_enter Try.func45, Try.ntmps45
  go_wp2
  go_loopw [5, 6] (fun s k wr => ∃ (n : Nat), k = .int .i64 n ∧ n ≤ a.length + b.length ∧ OwnL rStr 9 wr w.heap.size s (((a ++ b).take n).foldl (diffStep a b) []) ∧ Below w.heap.size w wr) (fun _ k _ => a.length + b.length - (intOf k).toNat)
  case atStart => exact ⟨0, rfl, by omega, OwnL.empty rStr 9 w, (by repeat (first | with_reducible exact Below.refl _ _ | with_reducible apply Below.ofExt | with_reducible apply Below.ofAlloc | with_reducible apply Below.drew | with_reducible apply Below.ofDrewN | with_reducible assumption | (with_reducible refine Below.setCell ?_ (by first | exact Nat.le_refl _ | (simp [go_sem]; done) | (simp [go_sem]; omega)) _)))⟩
  case round =>
    obtain ⟨n, rfl, hn, hrd, hbel⟩ := hrel
    obtain ⟨X, rfl⟩ := hbel.ext
    have hlen := diffF_len a b ((a ++ b).take n) []
    rw [List.length_nil, List.length_take, List.length_append] at hlen
    have hlen : (((a ++ b).take n).foldl (diffStep a b) []).length ≤ 2097152 := by omega
    have HR := Lib.hid hrd
    clear hrd hbel
    by_cases hlt : (n : Int) < a.length + b.length
    case pos =>
      have hk : n < (a ++ b).length := by rw [List.length_append]; omega
      have hst := foldl_take_snoc (diffStep a b) [] (a ++ b) n hk
      have hget : ∃ c, c = (a ++ b)[n] ∧ ((h : n < a.length) → c = a[n]) ∧ ((h : ¬ n < a.length) → c = b[n - a.length]'(by rw [List.length_append] at hk; omega)) := ⟨_, rfl, fun h => List.getElem_append_left h, fun h => List.getElem_append_right (by omega)⟩
      obtain ⟨c, hc, hca, hcb⟩ := hget
      rw [← hc] at hst
      clear hc
      generalize ((a ++ b).take n).foldl (diffStep a b) [] = acc at *
      have HST := Lib.hid hst
      have HCB := Lib.hid hcb
      have HCA := Lib.hid hca
      clear hst hca hcb hk
      by_cases hin : (n : Int) < a.length
      case pos =>
        have hin' : n < a.length := by omega
        obtain ⟨ba, off, rfl, hbl, hcell⟩ := HXA.out (by intro e; simp [e] at hin')
        have y0 : w.cell? ⟨ba, off + n * 2, none⟩ = some (.string c.key) := by rw [HCA.out hin']; exact hcell n hin' 0 _ rfl
        have hbl := hbl (by decide)
        have hbl2 : ba < w.heap.size + X.bs.size := by omega
        clear hcell
        go_wp2_with fail
        (go_at_call 46; refine (spec_GetKey _ a c.key _ (HA.out.ext _)).mono ?_; rintro e w' ⟨rfl, hb⟩; obtain ⟨X, rfl⟩ := hb.ext; clear hb)
        go_wp2_with fail
        (go_at_call 46; refine (spec_GetKey _ b c.key _ (HB.out.ext _)).mono ?_; rintro e w' ⟨rfl, hb⟩; obtain ⟨X, rfl⟩ := hb.ext; clear hb)
        by_cases heq : getC c.key a = getC c.key b
        · have heq' : ((getC c.key a).toList == (getC c.key b).toList) = true := by rw [beq_iff_eq, heq]
          have HE : Hid (diffStep a b acc c = acc) := by show _ = _; unfold diffStep; rw [if_pos heq]
          clear heq
          go_wp2
          go_roundw
          case rel => exact ⟨n + 1, by go_num, by omega, by rw [HST.out, HE.out]; exact (by (try simp only [← Array.append_assoc]); (repeat (first | with_reducible exact HR.out | with_reducible apply OwnL.mergeC' | with_reducible apply OwnL.ext | with_reducible apply OwnL.alloc | with_reducible apply OwnL.drew)); all_goals exact (0 : Nat)), (by repeat (first | with_reducible exact Below.refl _ _ | with_reducible apply Below.ofExt | with_reducible apply Below.ofAlloc | with_reducible apply Below.drew | with_reducible apply Below.ofDrewN | with_reducible assumption | (with_reducible refine Below.setCell ?_ (by first | exact Nat.le_refl _ | (simp [go_sem]; done) | (simp [go_sem]; omega)) _)))⟩
          case measure => simp [intOf]; omega
        · have heq' : ((getC c.key a).toList == (getC c.key b).toList) = false := by rw [beq_eq_false_iff_ne, bl, bl]; exact fun e => heq (ByteArray.ext (Array.toList_inj.1 e))
          have HE : Hid (diffStep a b acc c = putS acc c.key) := by show _ = _; unfold diffStep; rw [if_neg heq]
          clear heq
          go_wp2_with fail
          (go_at_call 73; refine (spec_l02PutO _ acc c.key _ w.heap.size (by (try simp only [← Array.append_assoc]); (repeat (first | with_reducible exact HR.out | with_reducible apply OwnL.mergeC' | with_reducible apply OwnL.ext | with_reducible apply OwnL.alloc | with_reducible apply OwnL.drew)); all_goals exact (0 : Nat)) (by simp [World.ext_size]) (by omega)).mono ?_; rintro e w' ⟨v', rfl, hr', hb'⟩; obtain ⟨Y, rfl⟩ := hb'.ext; have HP := Lib.hid hr'; clear hr' hb')
          go_wp2
          go_roundw
          case rel => exact ⟨n + 1, by go_num, by omega, by rw [HST.out, HE.out]; exact OwnL.heapEq' HP.out (by simp [World.ext, World.drew, Array.append_assoc]), (by repeat (first | with_reducible exact Below.refl _ _ | with_reducible apply Below.ofExt | with_reducible apply Below.ofAlloc | with_reducible apply Below.drew | with_reducible apply Below.ofDrewN | with_reducible assumption | (with_reducible refine Below.setCell ?_ (by first | exact Nat.le_refl _ | (simp [go_sem]; done) | (simp [go_sem]; omega)) _)))⟩
          case measure => simp [intOf]; omega
      case neg =>
        have hin' : ¬ n < a.length := by omega
        have hin2 : n - a.length < b.length := by omega
        obtain ⟨ba, off, rfl, hbl, hcell⟩ := HXB.out (by intro e; simp [e] at hin2)
        have y0 : w.cell? ⟨ba, off + (n - a.length) * 2, none⟩ = some (.string c.key) := by rw [HCB.out hin']; exact hcell (n - a.length) hin2 0 _ rfl
        have hbl := hbl (by decide)
        have hbl2 : ba < w.heap.size + X.bs.size := by omega
        clear hcell
        obtain ⟨m, hm⟩ : ∃ m, n = a.length + m := ⟨n - a.length, by omega⟩
        subst hm
        rw [Nat.add_sub_cancel_left] at y0 hin2
        go_wp2_with fail
        (go_at_call 46; refine (spec_GetKey _ a c.key _ (HA.out.ext _)).mono ?_; rintro e w' ⟨rfl, hb⟩; obtain ⟨X, rfl⟩ := hb.ext; clear hb)
        go_wp2_with fail
        (go_at_call 46; refine (spec_GetKey _ b c.key _ (HB.out.ext _)).mono ?_; rintro e w' ⟨rfl, hb⟩; obtain ⟨X, rfl⟩ := hb.ext; clear hb)
        by_cases heq : getC c.key a = getC c.key b
        · have heq' : ((getC c.key a).toList == (getC c.key b).toList) = true := by rw [beq_iff_eq, heq]
          have HE : Hid (diffStep a b acc c = acc) := by show _ = _; unfold diffStep; rw [if_pos heq]
          clear heq
          go_wp2
          go_roundw
          case rel => exact ⟨a.length + m + 1, by go_num, by omega, by rw [HST.out, HE.out]; exact (by (try simp only [← Array.append_assoc]); (repeat (first | with_reducible exact HR.out | with_reducible apply OwnL.mergeC' | with_reducible apply OwnL.ext | with_reducible apply OwnL.alloc | with_reducible apply OwnL.drew)); all_goals exact (0 : Nat)), (by repeat (first | with_reducible exact Below.refl _ _ | with_reducible apply Below.ofExt | with_reducible apply Below.ofAlloc | with_reducible apply Below.drew | with_reducible apply Below.ofDrewN | with_reducible assumption | (with_reducible refine Below.setCell ?_ (by first | exact Nat.le_refl _ | (simp [go_sem]; done) | (simp [go_sem]; omega)) _)))⟩
          case measure => simp [intOf]; omega
        · have heq' : ((getC c.key a).toList == (getC c.key b).toList) = false := by rw [beq_eq_false_iff_ne, bl, bl]; exact fun e => heq (ByteArray.ext (Array.toList_inj.1 e))
          have HE : Hid (diffStep a b acc c = putS acc c.key) := by show _ = _; unfold diffStep; rw [if_neg heq]
          clear heq
          go_wp2_with fail
          (go_at_call 73; refine (spec_l02PutO _ acc c.key _ w.heap.size (by (try simp only [← Array.append_assoc]); (repeat (first | with_reducible exact HR.out | with_reducible apply OwnL.mergeC' | with_reducible apply OwnL.ext | with_reducible apply OwnL.alloc | with_reducible apply OwnL.drew)); all_goals exact (0 : Nat)) (by simp [World.ext_size]) (by omega)).mono ?_; rintro e w' ⟨v', rfl, hr', hb'⟩; obtain ⟨Y, rfl⟩ := hb'.ext; have HP := Lib.hid hr'; clear hr' hb')
          go_wp2
          go_roundw
          case rel => exact ⟨a.length + m + 1, by go_num, by omega, by rw [HST.out, HE.out]; exact OwnL.heapEq' HP.out (by simp [World.ext, World.drew, Array.append_assoc]), (by repeat (first | with_reducible exact Below.refl _ _ | with_reducible apply Below.ofExt | with_reducible apply Below.ofAlloc | with_reducible apply Below.drew | with_reducible apply Below.ofDrewN | with_reducible assumption | (with_reducible refine Below.setCell ?_ (by first | exact Nat.le_refl _ | (simp [go_sem]; done) | (simp [go_sem]; omega)) _)))⟩
          case measure => simp [intOf]; omega
    case neg =>
      have e : n = a.length + b.length := by omega
      have HF : Hid (((a ++ b).take n).foldl (diffStep a b) [] = diffC a b) := by show _ = _; rw [e, ← List.length_append, List.take_length]; rfl
      go_wp2
      go_ret
      exact ⟨_, rfl, by rw [← HF.out]; exact HR.out, (by repeat (first | with_reducible exact Below.refl _ _ | with_reducible apply Below.ofExt | with_reducible apply Below.ofAlloc | with_reducible apply Below.drew | with_reducible apply Below.ofDrewN | with_reducible assumption | (with_reducible refine Below.setCell ?_ (by first | exact Nat.le_refl _ | (simp [go_sem]; done) | (simp [go_sem]; omega)) _)))⟩
end Go.Proofs.Ytmhopglbgaijiaa
