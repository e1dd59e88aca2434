/- Drawn texts and lists of cells: how long they are. Each condition stands in its theorem. -/
import Derived.Test.YtkfkbojcnbpmdaaGreatDoorDraw6
import Derived.Test.YtkfkbojcnbpmdaaGreatDoorTextS
import Derived.Test.YtkfkbojcnbpmdaaGreatDoorCloneC
import Derived.Deep.OwnRows
set_option linter.unusedVariables false
set_option linter.unusedSimpArgs false
namespace Go.Proofs.YtkfkbojcnbpmdaaGreatDoor
open Go.ChangeShapes Go.WideShapes Go.ChangeAt Go.RowKit
theorem _root_.Go.OwnB.setB {e : TypeId} {w : World} {B : Nat} {v : Value} {l : List UInt8} (h : OwnB e w B v l) {p : Nat} (hp : v.ownBlock ≠ some p) (o : Obj) : OwnB e (w.setB p o) B v l := by
  rcases h with hn | ⟨g, cap, cur, fz, rfl, h1, h2, rest⟩
  · exact .inl hn
  · exact .inr ⟨g, cap, cur, fz, rfl, h1, (World.setB_get w p o g (fun e => hp (by simp [Value.ownBlock, e]))).trans h2, rest⟩
theorem _root_.Go.OwnB.got {e : TypeId} {w w' : World} {B : Nat} {v : Value} {l : List UInt8} {p : Nat} {o : Obj} (h : OwnB e w B v l) (g : Got p w o w') (hp : v.ownBlock ≠ some p) : OwnB e w' B v l := by
  obtain ⟨X, rfl⟩ := g
  exact (h.setB hp o).ext X
theorem Got.appB {e : TypeId} {w w1 w2 : World} {v : Value} {l : List UInt8} {p : Nat} {o : Obj} (h : Got p w o w1) (hg : w1.grownBy w2 v.ownBlock) (ho : OwnB e w1 w.heap.size v l) : Got p w o w2 := by
  obtain ⟨X, rfl⟩ := h
  have ho' : OwnB e ((w.setB p o).ext X) (w.setB p o).heap.size v l := by rw [World.setB_size]; exact ho
  exact (RowKit.Below.appB (a := w.setB p o) ((Below.refl _ _).ofExt X) hg ho').ext
theorem u8_in (x : Int) (h0 : 0 ≤ x) (h1 : x ≤ 255) : IntKind.u8.wrap x = x := by
  unfold IntKind.wrap
  simp [IntKind.bits, IntKind.signed]
  omega
theorem spec_l01Once (p : Nat) (vb : Value) (bs : List UInt8) (i h n : Int) (w : World) (hc : Cur w p vb bs i h) (hn : n ≤ 4294967296) :
    Calls Tryz.prog 44 #[.pointer (some ⟨p, 0, none⟩), .int .i64 n] w fun e w' => ∃ b, e = .returned (.bool b) ∧ Drawn p vb bs w w' := by
  have hp := hc.lt
  have HC := Lib.hid hc
  clear hc
  go_enter Tryz.func44, Tryz.ntmps44
  go_wp2_with fail
  (go_at_call 31; refine (spec_l01Below p vb bs _ _ _ _ HC.out hn).mono ?_; rintro e w' ⟨x, i1, h1, rfl, ⟨hx0, _, _⟩, hg, hi0, hi1⟩)
  go_wp2
  go_ret
  exact ⟨_, rfl, ⟨i1, h1, hg, hi0, hi1⟩⟩
def longT (n : Nat) (c : UInt8) : ByteArray := strOf (List.replicate n c)
theorem longT_size (n : Nat) (c : UInt8) : (longT n c).size = n := by unfold longT; rw [strOf_size, List.length_replicate]
theorem sl_row {w : World} {b n : Nat} {t : TypeId} {x : Int} {c : UInt8} (hx : x = (c.toNat : Int)) (hr : w.rowIs b t n (fun _ => .int .u8 x)) (hn : n ≤ maxLen) : Sl w (.slice (some ⟨b, 0, none⟩) n n) (List.replicate n c).length (bytesOf (List.replicate n c)) := by
  subst hx
  refine .inr ⟨b, 0, n, by rw [List.length_replicate], by simp, hn, fun j u hj => ?_⟩
  unfold bytesOf at hj
  rw [List.map_replicate, List.getElem?_replicate] at hj
  split at hj
  · rw [Nat.zero_add]
    cases hj
    exact hr.cell (by assumption)
  · cases hj
theorem Tryz.info_u8 : (Tryz.prog.info? 5).map (fun i => (i.zero, i.size, i.bytes)) = some (some (.int .u8 0), 1, 1) := by kernel_rfl
set_option maxRecDepth 100000 in
theorem spec_l01Long (n : Nat) (c : UInt8) (w : World) (hn : n ≤ 100000) :
    Calls Tryz.prog 47 #[.int .i64 n, .int .u8 (c.toNat : Int)] w fun e w' => e = .returned (.string (longT n c)) ∧ Below w.heap.size w w' := by
  have hmk := run_make_row' (P := Tryz.prog) 22 5 (.int .u8 0) 1 Tryz.underlying22 Tryz.info_u8 rfl .i64 .i64 n (by omega) (by omega)
  have hmade := World.rowIs_made w (.int .u8 0) n 5
  have HMD := Lib.hid hmade
  clear hmade
  go_enter Tryz.func47, Tryz.ntmps47
  go_wp2
  clear hmk
  go_loopw [6] (fun k wr => ∃ m : Nat, k = .int .i64 m ∧ m ≤ n ∧ wr.rowIs w.heap.size 5 n (fun j => .int .u8 (if j < m then (c.toNat : Int) else 0)) ∧ Below w.heap.size w wr) (fun k _ => n - (intOf k).toNat)
  case atStart => exact ⟨0, rfl, by omega, HMD.out.congr (fun j _ => by simp), (by repeat (first | with_reducible exact Below.refl _ _ | with_reducible apply Below.ofExt | with_reducible apply Below.ofAlloc | with_reducible apply Below.drew | with_reducible apply Below.ofDrewN | with_reducible assumption | (with_reducible refine Below.setCell ?_ (by first | exact Nat.le_refl _ | (simp [go_sem]; done) | (simp [go_sem]; omega)) _)))⟩
  case round =>
    obtain ⟨m, rfl, hm, hr, hb⟩ := hrel
    by_cases hlt : (m : Int) < n
    · have hk : m < n := by omega
      have hcell := hr.cell hk
      have hfro := hr.frozen m
      have hset := (hr.set m (.int .u8 (c.toNat : Int))).congr (g := fun j => .int .u8 (if j < m + 1 then (c.toNat : Int) else 0)) (fun j _ => by
        by_cases e : j = m
        · subst e; simp
        · by_cases e2 : j < m
          · rw [if_neg e, if_pos e2, if_pos (by omega)]
          · rw [if_neg e, if_neg e2, if_neg (by omega)])
      have hbs := hb.setCell (p := ⟨w.heap.size, m, none⟩) (Nat.le_refl _) (.int .u8 (c.toNat : Int))
      have HS := Lib.hid hset
      have HB := Lib.hid hbs
      clear hset hbs hr hb
      go_wp2
      go_roundw
      case rel => exact ⟨m + 1, by go_num, by omega, HS.out, HB.out⟩
      case measure => simp [intOf]; omega
    · have e : m = n := by omega
      subst e
      have hs := sl_row rfl (hr.congr (g := fun _ => .int .u8 (c.toNat : Int)) (fun j hj => by rw [if_pos hj])) (by unfold maxLen; omega)
      have hcv := run_string_of (P := Tryz.prog) wr Tryz.byteT Tryz.underlying9 hs
      clear hs hr
      go_wp2
      go_ret
      exact ⟨rfl, hb⟩
set_option maxRecDepth 100000 in
theorem spec_l01Text (p : Nat) (vb : Value) (bs : List UInt8) (i h : Int) (n : Nat) (w : World) (hc : Cur w p vb bs i h) (hn : n ≤ 5000) :
    Calls Tryz.prog 41 #[.pointer (some ⟨p, 0, none⟩), .int .i64 n] w fun e w' => ∃ s, e = .returned (.string s) ∧ s.size = n ∧ Drawn p vb bs w w' := by
  have hp := hc.lt
  have HC := Lib.hid hc
  clear hc
  go_enter Tryz.func41, Tryz.ntmps41
  go_wp2
  go_loopw [5, 6] (fun v k wr => ∃ (m : Nat) (l : List UInt8) (i' h' : Int), k = .int .i64 m ∧ m ≤ n ∧ l.length = m ∧ OwnB 5 wr w.heap.size v l ∧ Got p w (curObj vb i' h') wr ∧ 0 ≤ i' ∧ i' ≤ bs.length) (fun _ k _ => n - (intOf k).toNat)
  case atStart => exact ⟨0, [], i, h, rfl, by omega, rfl, OwnB.empty _ _, (Got.self HC.out.blk).alloc _, HC.out.lo, HC.out.hi⟩
  case round =>
    obtain ⟨m, l, i1, h1, rfl, hm, rfl, ho, hg, hi0, hi1⟩ := hrel
    have hc1 := HC.out.got hg hi0 hi1
    have hvl := ho.lt
    by_cases hlt : (l.length : Int) < n
    · obtain ⟨oa, oc, rfl⟩ := ho.form
      have hne : (Value.slice oa l.length oc).ownBlock ≠ some p := fun e => by have := (hvl p e).1; omega
      have HO := Lib.hid ho
      have HN := Lib.hid hne
      clear ho hne hvl
      go_wp2_with fail
      (go_at_call 32; refine (spec_l01Byte p vb bs _ _ _ hc1).mono ?_; rintro e w2 ⟨x, i2, h2, rfl, hx0, hx1, hg2, hj0, hj1⟩)
      have ho2 := HO.out.got hg2 HN.out
      have hgg := hg.then hg2 hp
      have hz := hgg.size
      have hw8 := u8_in x hx0 hx1
      obtain ⟨k, rfl⟩ := Int.eq_ofNat_of_zero_le hx0
      have hkc : (k : Int) = ((UInt8.ofNat k).toNat : Int) := by simp; omega
      have HO2 := Lib.hid ho2
      have HKC := Lib.hid hkc
      clear ho2 hkc
      go_wp2_with (at_builtin; refine Stop.here ?_)
      refine wpList_appB _ Tryz.byteT rfl (.tmp 15) (.tmp 19) rfl (B := w.heap.size) (l := l) (m := [UInt8.ofNat k]) (HO2.out.alloc _) rfl (Sl.lit1 _ (UInt8.ofNat k) k HKC.out _ _ rfl) rfl (by simp; omega) (by simp; omega) ?_
      intro v4 w4 hown4 hgr4
      have hg4 : Got p w _ w4 := Got.appB (hgg.alloc _) hgr4 (HO2.out.alloc _)
      clear hgr4
      go_wp2
      go_roundw
      case rel => exact ⟨l.length + 1, _, i2, h2, by go_num, by omega, by simp, hown4, hg4, hj0, hj1⟩
      case measure => simp [intOf]; omega
    · have e : l.length = n := by omega
      subst e
      have hcv := run_string_of (P := Tryz.prog) wr Tryz.byteT Tryz.underlying9 ho.sl
      obtain ⟨oa, oc, rfl⟩ := ho.form
      clear ho hvl
      go_wp2
      go_ret
      exact ⟨_, rfl, strOf_size l, ⟨i1, h1, hg, hi0, hi1⟩⟩
end Go.Proofs.YtkfkbojcnbpmdaaGreatDoor
