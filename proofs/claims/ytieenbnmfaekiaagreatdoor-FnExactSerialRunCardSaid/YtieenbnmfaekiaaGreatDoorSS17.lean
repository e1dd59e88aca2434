/- Texts of this claim, merged: the walks and what they stand on. Each condition stands in its theorem. -/
import Derived.Test.YtieenbnmfaekiaaGreatDoorSS16
set_option linter.unusedVariables false
set_option linter.unusedSimpArgs false
set_option maxRecDepth 100000
set_option maxHeartbeats 8000000
namespace Go.Proofs.YtieenbnmfaekiaaGreatDoor
open Go.ChangeShapes Go.WideShapes Go.ChangeAt Go.RowKit
def ansV (a : AnswerD) : Value := .agg #[.int .i64 a.code, .int .i64 a.n, .string a.text]
def NS (ks : List ByteArray) : Prop := ks.length ≤ 549755813888 ∧ ∀ k ∈ ks, k.size ≤ 1048576
theorem names_ns (m : MachD) (h : K.names.fits m) : NS (K.names.run m).1 := by
 have h1 := under_ks K.nN m ((Mp.fits_bind (K.under K.nN) _ m).1 h).1
 show NS (((K.under K.nN).run m).1.map fun k => k.extract 2 k.size)
 refine ⟨by rw [List.length_map]; exact h1.1, fun k hk => ?_⟩
 obtain ⟨x, hx, rfl⟩ := List.mem_map.1 hk
 have := h1.2.1 x hx
 rw [ByteArray.size_extract]
 omega
theorem list_lt {w : World} {v : Value} {ks : List ByteArray} (h : RdL rStr w v ks) {k : Nat} (hk : v.ownBlock = some k) (hne : ks ≠ []) : k < w.heap.size := by
 obtain ⟨ao, cap, rfl, _, _, _, h4⟩ := h.shapeS
 obtain ⟨b, off, rfl, hb, _⟩ := h4 hne
 have e : b = k := by simpa [Value.ownBlock] using hk
 omega
theorem rdl_ansS {w : World} {v : Value} {xs : List ByteArray} (hn : ∀ s ∈ xs, s.size ≠ 0) (h : RdL rStr w v xs) {p : Nat} {x y : Int} {t : TypeId} (hp : w.heap[p]? = some (.cells #[.int .i64 x, .int .i64 y, .string ⟨#[]⟩] t (0, 0))) (o : Obj) : RdL rStr (w.setB p o) v xs := by
 by_cases hq : v.ownBlock = some p
 ·rcases h with h | ⟨b, off, cap, hv, h1, h2, h3⟩
  ·exact .inl h
  ·refine .inr ⟨b, off, cap, hv, h1, h2, fun j u hj => ?_⟩
   exfalso
   subst hv
   have e : b = p := by simpa [Value.ownBlock] using hq
   subst e
   have hc := h3 j u hj
   rw [World.cell?_of_get hp] at hc
   obtain ⟨s, hs, hu⟩ := List.mem_flatMap.1 (List.mem_of_getElem? hj)
   simp [rStr] at hu
   subst hu
   have hm := Array.mem_of_getElem? hc
   simp at hm
   exact hn s hs (by rw [hm]; rfl)
 ·exact h.setB hq o
theorem rdl_ansC {w : World} {v : Value} {xs : List CellD} (h : RdL rCell w v xs) {p : Nat} {x y : Int} {s : ByteArray} {t : TypeId} (hp : w.heap[p]? = some (.cells #[.int .i64 x, .int .i64 y, .string s] t (0, 0))) (o : Obj) : RdL rCell (w.setB p o) v xs := by
 by_cases hq : v.ownBlock = some p
 ·obtain ⟨ao, cap, e0, e1, e2, e3, h4⟩ := h.shape
  by_cases hx : xs = []
  ·subst hx
   rcases h with h | ⟨b, off, cap, hv, h1, h2, h3⟩
   ·exact .inl h
   ·exact .inr ⟨b, off, cap, hv, h1, h2, fun j u hj => by simp at hj⟩
  ·exfalso
   obtain ⟨b, off, rfl, hb, hc⟩ := h4 hx
   subst e0
   have e : b = p := by simpa [Value.ownBlock] using hq
   subst e
   have hl : 0 < xs.length := by
    rcases xs with _ | ⟨a, l⟩
    ·exact absurd rfl hx
    ·exact Nat.succ_pos _
   have k0 := hc 0 hl 0 (.string xs[0].key) rfl
   have k1 := hc 0 hl 1 (.string xs[0].val) rfl
   rw [World.cell?_of_get hp] at k0 k1
   have hr : off + 0 * rCell.k + 0 = off := by omega
   have hr1 : off + 0 * rCell.k + 1 = off + 1 := by omega
   simp only [hr] at k0
   simp only [hr1] at k1
   have h3 : off < 3 := (Array.getElem?_eq_some_iff.1 k0).1
   have h4 : off + 1 < 3 := (Array.getElem?_eq_some_iff.1 k1).1
   have : off = 0 ∨ off = 1 := by omega
   rcases this with rfl | rfl <;> simp at k0
 ·exact h.setB hq o
theorem rdl_past {α : Type} {R : RowOf α} (hk : 0 < R.k) {w W : World} {v : Value} {xs : List α} (h0 : RdL R w v xs) (h : RdL R W v xs) (o : Obj) : RdL R (W.setB w.heap.size o) v xs := by
 by_cases hx : xs = []
 ·subst hx
  rcases h with h | ⟨b, off, cap, hv, h1, h2, h3⟩
  ·exact .inl h
  ·exact .inr ⟨b, off, cap, hv, h1, h2, fun j u hj => by simp at hj⟩
 ·refine h.setB (fun e => ?_) o
  obtain ⟨ao, cap, rfl, _, _, _, h4⟩ := h0.shape
  obtain ⟨b, off, rfl, hb, _⟩ := h4 hx
  have e2 : b = w.heap.size := by simpa [Value.ownBlock] using e
  have := hb hk
  omega
theorem four_S {wb wr : World} {p : Nat} {v : Value} {xs : List ByteArray} {a0 a1 a2 a3 a4 a5 : Option Addr} {n0 n1 n2 c0 c1 c2 n3 n4 n5 c3 c4 c5 : Nat} {t t' t2 : TypeId} {x y : Int} (hn : ∀ s ∈ xs, s.size ≠ 0) (h0 : RdL rStr wb v xs) (h : RdL rStr wr v xs)
  (P : wr.heap[p]? = some (.cells #[.slice a0 n0 c0, .slice a1 n1 c1, .slice a2 n2 c2] t (0, 0))) (R : wr.heap[p + 1]? = some (.cells #[.slice a3 n3 c3, .slice a4 n4 c4, .slice a5 n5 c5] t' (0, 0))) (A : wr.heap[p + 2]? = some (.cells #[.int .i64 x, .int .i64 y, .string ⟨#[]⟩] t2 (0, 0))) (o r a q : Obj) :
  RdL rStr ((((wr.setB p o).setB (p + 1) r).setB (p + 1 + 1) a).setB wb.heap.size q) v xs := by
 have h1 := rdl_setB (str_strs _) h P o
 have h2 := rdl_setB (str_strs _) h1 ((World.setB_get _ _ _ _ (by omega)).trans R) r
 have h3 := rdl_ansS hn h2 ((World.setB_get _ _ _ _ (by omega)).trans ((World.setB_get _ _ _ _ (by omega)).trans A)) a
 exact rdl_past (by decide) h0 h3 q
theorem four_C {wb wr : World} {p : Nat} {v : Value} {xs : List CellD} {a0 a1 a2 a3 a4 a5 : Option Addr} {n0 n1 n2 c0 c1 c2 n3 n4 n5 c3 c4 c5 : Nat} {t t' t2 : TypeId} {x y : Int} {s : ByteArray} (h0 : RdL rCell wb v xs) (h : RdL rCell wr v xs)
  (P : wr.heap[p]? = some (.cells #[.slice a0 n0 c0, .slice a1 n1 c1, .slice a2 n2 c2] t (0, 0))) (R : wr.heap[p + 1]? = some (.cells #[.slice a3 n3 c3, .slice a4 n4 c4, .slice a5 n5 c5] t' (0, 0))) (A : wr.heap[p + 2]? = some (.cells #[.int .i64 x, .int .i64 y, .string s] t2 (0, 0))) (o r a q : Obj) :
  RdL rCell ((((wr.setB p o).setB (p + 1) r).setB (p + 1 + 1) a).setB wb.heap.size q) v xs := by
 have h1 := rdl_setB (str_cells _) h P o
 have h2 := rdl_setB (str_cells _) h1 ((World.setB_get _ _ _ _ (by omega)).trans R) r
 have h3 := rdl_ansC h2 ((World.setB_get _ _ _ _ (by omega)).trans ((World.setB_get _ _ _ _ (by omega)).trans A)) a
 exact rdl_past (by decide) h0 h3 q
theorem four_B {w wb wr : World} (B : Below w.heap.size w wr) (h : w.heap.size ≤ wb.heap.size) (o r a q : Obj) : Below w.heap.size w ((((wr.setB w.heap.size o).setB (w.heap.size + 1) r).setB (w.heap.size + 1 + 1) a).setB wb.heap.size q) :=
 below_setB (below_setB (below_setB (below_setB B (Nat.le_refl _) o) (by omega) r) (by omega) a) h q
theorem wordsOf_snoc (l : List ByteArray) (x : ByteArray) : K.wordsOf (l ++ [x]) = K.wordsOf l ++ x ++ K.space := by
 unfold K.wordsOf
 rw [List.foldl_append]
 simp only [List.foldl_cons, List.foldl_nil, ByteArray.append_assoc]
theorem heap3s (W : World) (a b c : Obj) (n : Nat) (hn : n = W.heap.size) : (((W.alloc a).alloc b).alloc c).heap[n]? = some a ∧ (((W.alloc a).alloc b).alloc c).heap[n + 1]? = some b ∧ (((W.alloc a).alloc b).alloc c).heap[n + 2]? = some c := by
 subst hn
 show (((W.heap.push a).push b).push c)[W.heap.size]? = some a ∧ (((W.heap.push a).push b).push c)[W.heap.size + 1]? = some b ∧ (((W.heap.push a).push b).push c)[W.heap.size + 2]? = some c
 refine ⟨?_, ?_, ?_⟩ <;> (simp only [Array.getElem?_push, Array.size_push]; repeat (first | rfl | rw [if_pos trivial] | rw [if_neg (by omega)]))
theorem box_third (w : World) (a b c : Obj) (h : Below w.heap.size w (((w.alloc a).alloc b).alloc c)) : Below w.heap.size w (((w.alloc a).alloc b).alloc c) ∧ (((w.alloc a).alloc b).alloc c).heap[w.heap.size]? = some a ∧ (((w.alloc a).alloc b).alloc c).heap[w.heap.size + 1]? = some b ∧ (((w.alloc a).alloc b).alloc c).heap[w.heap.size + 2]? = some c := ⟨h, heap3s w a b c w.heap.size rfl⟩
theorem third_at {W : World} {p : Nat} {x : Obj} (h : W.heap[p + 2]? = some x) (o r : Obj) : ((W.setB (p + 1) r).setB p o).heap[p + 2]? = some x := by
 rw [World.setB_get _ _ _ _ (by omega), World.setB_get _ _ _ _ (by omega)]
 exact h
theorem spec_l14Names : SC 70 (fun x => #[x]) K.doNames (fun v' a => .tuple #[v', ansV a]) := by
 refine SCgo (fun w m a0 c0 a1 c1 a2 c2 res mres H0 H1 H2 HL => ?_)
 unfold K.doNames at HL
 go_enter Tryz.func70, Tryz.ntmps70
 (try simp only [])
 ((repeat (first | ((with_reducible refine opqM (fun W0 => Below w.heap.size w W0 ∧ W0.heap[w.heap.size]? = some (.cells #[.slice a0 m.cells.length c0, .slice a1 m.rd.length c1, .slice a2 m.wr.length c2] 60) ∧ W0.heap[w.heap.size + 1]? = some (.cells #[.slice none 0 0, .slice none 0 0, .slice none 0 0] 60) ∧ W0.heap[w.heap.size + 2]? = some (.cells #[.int .i64 0, .int .i64 0, .string ⟨#[]⟩] 66)) ?_ ?_); (· with_reducible exact box_third w (.cells #[.slice a0 m.cells.length c0, .slice a1 m.rd.length c1, .slice a2 m.wr.length c2] 60) (.cells #[.slice none 0 0, .slice none 0 0, .slice none 0 0] 60) (.cells #[.int .i64 0, .int .i64 0, .string ⟨#[]⟩] 66) (by repeat (first | with_reducible exact Below.refl _ _ | with_reducible apply Below.ofAlloc)))) | go_skip | go_guarded | go_step | go_upon | go_back)); (rintro w1 ⟨B, P, R, A⟩; have Z3 := World.lt_of_get A; have Z := World.lt_of_get R; have e1 := setB_two P R; rw [← e1]; have HW0 := Lib.hid (fun o r => H0.out.below (S_of B o r)); have HW1 := Lib.hid (fun o r => H1.out.below (S_of B o r)); have HW2 := Lib.hid (fun o r => H2.out.below (S_of B o r)); have HA := Lib.hid (fun o r => third_at A o r); have Zp := Nat.lt_of_succ_lt Z; clear e1 P R A H0 H1 H2; ((repeat' ((rcases HL.out.ite with ⟨hg, HL2⟩ | ⟨hg, HL2⟩ <;> (clear HL; have HL := Lib.hid HL2; clear HL2)))))))
 (repeat (first | go_skip | go_guarded | go_step | go_upon | go_back))
 (go_at_call 120; refine (SCL.use spec_l06NamesIn NS (fun m h => names_ns m h) HL.out (⟨_, _, _, rfl, HW0.out _ _, HW1.out _ _, HW2.out _ _⟩ : MRd _ _ _)).mono ?_)
 rintro e w2 ⟨v2, al, nl, ks, m2, rfl, ⟨hks, hrl⟩, hm, hb, HL2⟩
 obtain ⟨b0, d0, b1, d1, b2, d2, rfl, q0, q1, q2⟩ := hm.form
 obtain ⟨B', P, R, Z', Zx⟩ := box_later B Z hb
 have A := (Grew.below hb _ (World.lt_of_get (HA.out _ _))).trans (HA.out _ _)
 have HRL := Lib.hid (fun o r => rdl_two (str_strs _) hrl P R o r)
 clear Zx hm hb hrl HA Z3
 have HA := Lib.hid (fun o r => third_at A o r)
 have Z3 := World.lt_of_get A
 clear A
 (clear HW0 HW1 HW2 B Z; have e1 := setB_two P R; rw [← e1]; clear e1; have HW0 := Lib.hid (fun o r => rdl_two (str_cells _) q0 P R o r); have HW1 := Lib.hid (fun o r => rdl_two (str_strs _) q1 P R o r); have HW2 := Lib.hid (fun o r => rdl_two (str_strs _) q2 P R o r); have B := B'; have Z := Z'; (try clear Zp); have Zp := Nat.lt_of_succ_lt Z; clear B' Z' P R q0 q1 q2; (try simp only []))
 (try dsimp only at HL2); clear HL; have HL := Lib.hid HL2; clear HL2
 (repeat (first | go_skip | go_guarded | go_step | go_upon | go_back))
 have hkl := hks.1
 refine opqM (fun W0 => ∃ wb, Below wb.heap.size wb W0 ∧ W0.heap[w2.heap.size]? = some (.cells #[.int .i64 0, .int .i64 0, .string ⟨#[]⟩] 66) ∧ wb.heap.size = w2.heap.size ∧ wb.heap[w.heap.size]? = some (.cells #[.slice b0 m2.cells.length d0, .slice b1 m2.rd.length d1, .slice b2 m2.wr.length d2] 60) ∧ wb.heap[w.heap.size + 1]? = some (.cells #[.slice none 0 0, .slice none 0 0, .slice none 0 0] 60) ∧ wb.heap[w.heap.size + 2]? = some (.cells #[.int .i64 0, .int .i64 0, .string ⟨#[]⟩] 66) ∧ Below w.heap.size w wb ∧ RdL rCell wb (.slice b0 m2.cells.length d0) m2.cells ∧ RdL rStr wb (.slice b1 m2.rd.length d1) m2.rd ∧ RdL rStr wb (.slice b2 m2.wr.length d2) m2.wr ∧ RdL rStr wb (.slice al ks.length nl) ks) ⟨_, (Below.refl _ _).ofAlloc _, ?_, by rw [World.setB_size, World.setB_size], (two_at Z _ _).1, (two_at Z _ _).2, HA.out _ _, S_of B _ _, HW0.out _ _, HW1.out _ _, HW2.out _ _, HRL.out _ _⟩ ?_
 ·have h := heap_alloc_new ((w2.setB (w.heap.size + 1) (.cells #[.slice none 0 0, .slice none 0 0, .slice none 0 0] 60)).setB w.heap.size (.cells #[.slice b0 m2.cells.length d0, .slice b1 m2.rd.length d1, .slice b2 m2.wr.length d2] 60)) (.cells #[.int .i64 0, .int .i64 0, .string ⟨#[]⟩] 66)
  rw [World.setB_size, World.setB_size] at h
  exact h
 rintro w3 ⟨wb, hb, ha, hsz, P, R, A, B', q0, q1, q2, qk⟩
 have hsm : Mp.Small m2 := HL.out.1
 have HSR := Lib.hid hsm.rn
 have HSW := Lib.hid hsm.wn
 clear hsm
 have hres := HL.out.end
 clear HL HW0 HW1 HW2 HRL HA Z Zp Z3 B
 rw [← hsz] at ha ⊢
 clear hsz
 have QQ := Lib.hid (And.intro P (And.intro R (And.intro A (And.intro B' (And.intro q0 (And.intro q1 q2))))))
 have HQK := Lib.hid qk
 have Z3 := World.lt_of_get A
 clear P R A B' q0 q1 q2 qk
 go_loopw [6] (fun k wr => ∃ (n : Nat) (t : ByteArray), k = .int .i64 n ∧ n ≤ ks.length ∧ Below wb.heap.size wb wr ∧ wr.heap[wb.heap.size]? = some (.cells #[.int .i64 0, .int .i64 0, .string t] 66) ∧ t = K.wordsOf (ks.take n) ∧ t.size ≤ n * 1048577) (fun k _ => ks.length - (intOf k).toNat)
 case atStart => exact ⟨0, ⟨#[]⟩, rfl, Nat.zero_le _, hb, ha, rfl, Nat.zero_le _⟩
 case round =>
  clear hb ha
  obtain ⟨n, t, rfl, hn, hb, ha, ht, htz⟩ := hrel
  have HT := Lib.hid ht
  have hzq := World.lt_of_get ha
  have HB := Lib.hid hb
  have e1 := World.setB_self ha
  rw [← e1]
  clear ht hb ha e1
  by_cases hlt : (n : Int) < ks.length
  case pos =>
   have hk2 : n < ks.length := by omega
   obtain ⟨b, off, rfl, hbl, hce⟩ := list_at (W := fun o r => wr.setB wb.heap.size o) (fun o r => (HQK.out.below HB.out).past (fun k hk => list_lt HQK.out hk (by intro e; subst e; exact absurd hk2 (Nat.not_lt_zero _))) o) hk2 (.cells #[] 0) (.cells #[] 0)
   rw [World.setB_size] at hbl
   have hce := fun o => hce o (.cells #[] 0)
   have hkz := hks.2 _ (List.getElem_mem hk2)
   have hsn := wordsOf_snoc (ks.take n) ks[n]
   rw [← List.take_succ_eq_append_getElem hk2, ← HT.out] at hsn
   have HSN := Lib.hid hsn
   clear hsn
   generalize ks[n] = key at hce hkz HSN
   have hn1 : n * 1048577 ≤ 549755813888 * 1048577 := Nat.mul_le_mul_right _ (by omega)
   have hc1 : ¬ 9223372036854775807 < t.size + key.size := by omega
   have hc2 : ¬ 9223372036854775807 < t.size + key.size + 1 := by omega
   have hz2 : (t ++ key ++ K.space).size ≤ (n + 1) * 1048577 := by
    rw [ByteArray.size_append, ByteArray.size_append]
    have : K.space.size = 1 := rfl
    omega
   (repeat (first | go_skip | go_guarded | go_step | go_upon | go_back))
   (refine wp_region_ordU (id := 6) [(0, true), (1, true), (2, true), (3, true), (4, true), (5, true), (6, true), (7, true), (8, true), (9, false)] 9 (by kernel_rfl) (by kernel_rfl) ?_)
   repeat (first | (refine wpOrd_quiet rfl (fun K hK => ?_); go_simp; refine hK _ ?_; clear hK K) | (refine wpOrd_tail rfl rfl (fun K hK => ?_); go_simp; refine hK _ _ ?_; clear hK K))
   refine wpOrd_nil ?_
   (repeat (first | go_skip | go_guarded | go_step | go_upon | go_back))
   go_roundw
   case rel => exact ⟨n + 1, t ++ key ++ K.space, by go_num, by omega, by exact Below.drew (below_setB HB.out (Nat.le_refl _) _), World.setB_at _ _ _ hzq, HSN.out.symm, hz2⟩
   case measure => simp [intOf]; omega
  case neg =>
   have e : n = ks.length := by omega
   have HF : Hid (K.wordsOf ks = t) := by show _ = _; rw [HT.out, e, List.take_length]
   clear e
   obtain ⟨P, R, A, B', q0, q1, q2⟩ := QQ.out
   have P1 := (Grew.below HB.out _ (World.lt_of_get P)).trans P
   have R1 := (Grew.below HB.out _ (World.lt_of_get R)).trans R
   have A1 := (Grew.below HB.out _ (World.lt_of_get A)).trans A
   have hsz := HB.out.size
   have y0 : w.heap.size < wr.heap.size := by omega
   have y1 : w.heap.size + 1 < wr.heap.size := by omega
   have y2 : w.heap.size + 1 + 1 < wr.heap.size := by omega
   have x0 : w.heap.size < wb.heap.size := by omega
   have x1 : w.heap.size + 1 < wb.heap.size := by omega
   have x2 : w.heap.size + 1 + 1 < wb.heap.size := by omega
   have ea : wr.setB (w.heap.size + 1 + 1) (.cells #[.int .i64 0, .int .i64 0, .string ⟨#[]⟩] 66) = wr := World.setB_self A1
   have er : wr.setB (w.heap.size + 1) (.cells #[.slice none 0 0, .slice none 0 0, .slice none 0 0] 60) = wr := World.setB_self R1
   have ep : wr.setB w.heap.size (.cells #[.slice b0 m2.cells.length d0, .slice b1 m2.rd.length d1, .slice b2 m2.wr.length d2] 60) = wr := World.setB_self P1
   have e4 : ((wr.setB w.heap.size (.cells #[.slice b0 m2.cells.length d0, .slice b1 m2.rd.length d1, .slice b2 m2.wr.length d2] 60)).setB (w.heap.size + 1) (.cells #[.slice none 0 0, .slice none 0 0, .slice none 0 0] 60)).setB (w.heap.size + 1 + 1) (.cells #[.int .i64 0, .int .i64 0, .string ⟨#[]⟩] 66) = wr := by rw [ep, er, ea]
   rw [← e4]
   have n0 : ¬ w.heap.size = wb.heap.size := by omega
   have n0' : ¬ wb.heap.size = w.heap.size := by omega
   have n1 : ¬ w.heap.size + 1 = wb.heap.size := by omega
   have n1' : ¬ wb.heap.size = w.heap.size + 1 := by omega
   have n2 : ¬ w.heap.size + 1 + 1 = wb.heap.size := by omega
   have n2' : ¬ wb.heap.size = w.heap.size + 1 + 1 := by omega
   have k0 := Lib.hid (fun o r a q => four_C q0 (q0.below HB.out) P1 R1 A1 o r a q)
   have k1 := Lib.hid (fun o r a q => four_S HSR.out q1 (q1.below HB.out) P1 R1 A1 o r a q)
   have k2 := Lib.hid (fun o r a q => four_S HSW.out q2 (q2.below HB.out) P1 R1 A1 o r a q)
   have kb := Lib.hid (fun o r a q => four_B (Below.then B' HB.out) (Nat.le_of_lt x0) o r a q)
   clear P R A P1 R1 A1 ea er ep e4 hsz B' q0 q1 q2
   (repeat (first | go_skip | go_guarded | go_step | go_upon | go_back))
   go_region
   all_goals (repeat (first | go_skip | go_guarded | go_step | go_upon | go_back))
   all_goals (
    refine bodyPost_ret (by simp [results, Tryz.results70, go_sem, y0, y1, y2, n0, n0', n1, n1', n2, n2']; rfl) rfl ?_
    obtain ⟨rfl, rfl⟩ := hres
    exact ⟨_, by unfold ansV; rw [HF.out], ⟨_, _, _, rfl, k0.out _ _ _ _, k1.out _ _ _ _, k2.out _ _ _ _⟩, Below.drew (kb.out _ _ _ _)⟩)
def callV (c : CallD) : Value := .agg #[.int .i64 c.kind, .string c.name, .string c.to, .int .i64 c.a, .int .i64 c.b, .string c.text]
theorem spec_CallOk (c : CallD) (hc : c.ok) (w : World) : Calls Tryz.prog 65 #[callV c] w fun e w' => e = .returned (.bool (K.callOk c)) ∧ Below w.heap.size w w' := by
 obtain ⟨kd, nm, to, a, b, tx⟩ := c
 obtain ⟨z1, z2, z3⟩ := hc
 dsimp only at z1 z2 z3
 unfold callV
 dsimp only
 have HK : Hid (K.callOk ⟨kd, nm, to, a, b, tx⟩ = ((inB kd 1 22 && decide (nm.size ≤ 20)) && (decide (to.size ≤ 20) && decide (tx.size ≤ 64)))) := by show _ = _; rfl
 by_cases h1 : 1 ≤ kd ∧ kd ≤ 22
 case neg =>
  have HI := Lib.hid (inB_no h1)
  go_enter Tryz.func65, Tryz.ntmps65
  (repeat (first | go_skip | go_guarded | go_step | go_upon | go_back))
  (go_at_call 112; refine (spec_l01In _ _ _ _).mono ?_; rintro e w' ⟨rfl, rfl⟩)
  rw [HI.out]
  ((try simp only []); repeat (first | go_skip | go_guarded | go_step | go_upon | go_back))
  go_ret
  exact ⟨by rw [HK.out, HI.out]; rfl, (by repeat (first | with_reducible exact Below.refl _ _ | with_reducible apply Below.ofAlloc))⟩
 case pos =>
  have HI := Lib.hid (inB_yes h1)
  by_cases h2 : (nm.size : Int) ≤ 20
  case neg =>
   have h2' : ¬ nm.size ≤ 20 := by omega
   have HD := Lib.hid (decide_eq_false h2')
   clear h2'
   go_enter Tryz.func65, Tryz.ntmps65
   (repeat (first | go_skip | go_guarded | go_step | go_upon | go_back))
   (go_at_call 112; refine (spec_l01In _ _ _ _).mono ?_; rintro e w' ⟨rfl, rfl⟩)
   rw [HI.out]
   ((try simp only []); repeat (first | go_skip | go_guarded | go_step | go_upon | go_back))
   go_ret
   exact ⟨by rw [HK.out, HI.out, HD.out]; rfl, (by repeat (first | with_reducible exact Below.refl _ _ | with_reducible apply Below.ofAlloc))⟩
  case pos =>
   have h2' : nm.size ≤ 20 := by omega
   have HD := Lib.hid (decide_eq_true h2')
   clear h2'
   by_cases h3 : (to.size : Int) ≤ 20
   case neg =>
    have h3' : ¬ to.size ≤ 20 := by omega
    have HD3 := Lib.hid (decide_eq_false h3')
    clear h3'
    go_enter Tryz.func65, Tryz.ntmps65
    (repeat (first | go_skip | go_guarded | go_step | go_upon | go_back))
    (go_at_call 112; refine (spec_l01In _ _ _ _).mono ?_; rintro e w' ⟨rfl, rfl⟩)
    rw [HI.out]
    ((try simp only []); repeat (first | go_skip | go_guarded | go_step | go_upon | go_back))
    go_ret
    exact ⟨by rw [HK.out, HI.out, HD.out, HD3.out]; rfl, (by repeat (first | with_reducible exact Below.refl _ _ | with_reducible apply Below.ofAlloc))⟩
   case pos =>
    have h3' : to.size ≤ 20 := by omega
    have HD3 := Lib.hid (decide_eq_true h3')
    clear h3'
    by_cases h4 : (tx.size : Int) ≤ 64
    case neg =>
     have h4' : ¬ tx.size ≤ 64 := by omega
     have HD4 := Lib.hid (decide_eq_false h4')
     clear h4'
     go_enter Tryz.func65, Tryz.ntmps65
     (repeat (first | go_skip | go_guarded | go_step | go_upon | go_back))
     (go_at_call 112; refine (spec_l01In _ _ _ _).mono ?_; rintro e w' ⟨rfl, rfl⟩)
     rw [HI.out]
     ((try simp only []); repeat (first | go_skip | go_guarded | go_step | go_upon | go_back))
     go_ret
     exact ⟨by rw [HK.out, HI.out, HD.out, HD3.out, HD4.out]; rfl, (by repeat (first | with_reducible exact Below.refl _ _ | with_reducible apply Below.ofAlloc))⟩
    case pos =>
     have h4' : tx.size ≤ 64 := by omega
     have HD4 := Lib.hid (decide_eq_true h4')
     clear h4'
     go_enter Tryz.func65, Tryz.ntmps65
     (repeat (first | go_skip | go_guarded | go_step | go_upon | go_back))
     (go_at_call 112; refine (spec_l01In _ _ _ _).mono ?_; rintro e w' ⟨rfl, rfl⟩)
     rw [HI.out]
     ((try simp only []); repeat (first | go_skip | go_guarded | go_step | go_upon | go_back))
     go_ret
     exact ⟨by rw [HK.out, HI.out, HD.out, HD3.out, HD4.out]; rfl, (by repeat (first | with_reducible exact Below.refl _ _ | with_reducible apply Below.ofAlloc))⟩
def AnsFree {α : Type} (R : RowOf α) (xs : List α) : Prop := ∀ (w : World) (v : Value) (p : Nat) (x y : Int) (t : TypeId), RdL R w v xs → w.heap[p]? = some (.cells #[.int .i64 x, .int .i64 y, .string ⟨#[]⟩] t (0, 0)) → ∀ o, RdL R (w.setB p o) v xs
theorem ansFree_S {xs : List ByteArray} (hn : ∀ s ∈ xs, s.size ≠ 0) : AnsFree rStr xs := fun w v p x y t h hp o => rdl_ansS hn h hp o
theorem ansFree_C (xs : List CellD) : AnsFree rCell xs := fun w v p x y t h hp o => rdl_ansC h hp o
theorem heap4s (W : World) (a b c d : Obj) (n : Nat) (hn : n = W.heap.size) : ((((W.alloc a).alloc b).alloc c).alloc d).heap[n]? = some a ∧ ((((W.alloc a).alloc b).alloc c).alloc d).heap[n + 1]? = some b ∧ ((((W.alloc a).alloc b).alloc c).alloc d).heap[n + 1 + 1]? = some c ∧ ((((W.alloc a).alloc b).alloc c).alloc d).heap[n + 1 + 1 + 1]? = some d := by
 subst hn
 show ((((W.heap.push a).push b).push c).push d)[W.heap.size]? = some a ∧ ((((W.heap.push a).push b).push c).push d)[W.heap.size + 1]? = some b ∧ ((((W.heap.push a).push b).push c).push d)[W.heap.size + 1 + 1]? = some c ∧ ((((W.heap.push a).push b).push c).push d)[W.heap.size + 1 + 1 + 1]? = some d
 refine ⟨?_, ?_, ?_, ?_⟩ <;> (simp only [Array.getElem?_push, Array.size_push]; repeat (first | rfl | rw [if_pos trivial] | rw [if_neg (by omega)]))
/-! ### four boxes -/
abbrev fo (W : World) (p : Nat) (o c r s : Obj) : World := (((W.setB p o).setB (p + 1) c).setB (p + 1 + 1) r).setB (p + 1 + 1 + 1) s
theorem fo_eq {W : World} {p : Nat} {o c r s : Obj} (P : W.heap[p]? = some o) (C : W.heap[p + 1]? = some c) (R : W.heap[p + 1 + 1]? = some r) (A : W.heap[p + 1 + 1 + 1]? = some s) : (((W.setB p o).setB (p + 1) c).setB (p + 1 + 1) r).setB (p + 1 + 1 + 1) s = W := by
 rw [World.setB_self P, World.setB_self C, World.setB_self R, World.setB_self A]
theorem fo_size (W : World) (p : Nat) (o c r s : Obj) : (fo W p o c r s).heap.size = W.heap.size := by
 unfold fo
 rw [World.setB_size, World.setB_size, World.setB_size, World.setB_size]
theorem fo_at {W : World} {p : Nat} (h : p + 3 < W.heap.size) (o c r s : Obj) : (fo W p o c r s).heap[p]? = some o ∧ (fo W p o c r s).heap[p + 1]? = some c ∧ (fo W p o c r s).heap[p + 1 + 1]? = some r ∧ (fo W p o c r s).heap[p + 1 + 1 + 1]? = some s := by
 unfold fo
 refine ⟨?_, ?_, ?_, ?_⟩
 ·rw [World.setB_get _ _ _ _ (by omega), World.setB_get _ _ _ _ (by omega), World.setB_get _ _ _ _ (by omega)]
  exact World.setB_at _ _ _ (by omega)
 ·rw [World.setB_get _ _ _ _ (by omega), World.setB_get _ _ _ _ (by omega)]
  exact World.setB_at _ _ _ (by rw [World.setB_size]; omega)
 ·rw [World.setB_get _ _ _ _ (by omega)]
  exact World.setB_at _ _ _ (by rw [World.setB_size, World.setB_size]; omega)
 ·exact World.setB_at _ _ _ (by rw [World.setB_size, World.setB_size, World.setB_size]; omega)
theorem fo_rd {α : Type} {R : RowOf α} {W : World} {v : Value} {xs : List α} (hstr : ∀ u ∈ xs.flatMap R.row, ∃ s, u = .string s) (ha : AnsFree R xs) (h : RdL R W v xs) {p : Nat} {a0 a1 a2 a3 a4 a5 : Option Addr} {n0 n1 n2 c0 c1 c2 n3 n4 n5 c3 c4 c5 : Nat} {t t' t2 : TypeId} {x y : Int} {c : Obj}
  (P : W.heap[p]? = some (.cells #[.slice a0 n0 c0, .slice a1 n1 c1, .slice a2 n2 c2] t (0, 0))) (C : W.heap[p + 1]? = some c) (Rr : W.heap[p + 1 + 1]? = some (.cells #[.slice a3 n3 c3, .slice a4 n4 c4, .slice a5 n5 c5] t' (0, 0))) (A : W.heap[p + 1 + 1 + 1]? = some (.cells #[.int .i64 x, .int .i64 y, .string ⟨#[]⟩] t2 (0, 0))) (o r s : Obj) : RdL R (fo W p o c r s) v xs := by
 unfold fo
 have h1 := rdl_setB hstr h P o
 have e : (W.setB p o).setB (p + 1) c = W.setB p o := World.setB_self ((World.setB_get _ _ _ _ (by omega)).trans C)
 rw [e]
 have h2 := rdl_setB hstr h1 ((World.setB_get _ _ _ _ (by omega)).trans Rr) r
 exact ha _ _ _ _ _ _ h2 ((World.setB_get _ _ _ _ (by omega)).trans ((World.setB_get _ _ _ _ (by omega)).trans A)) s
theorem fo_B {w W : World} (B : Below w.heap.size w W) (o c r s : Obj) : Below w.heap.size w (fo W w.heap.size o c r s) := by
 unfold fo
 exact below_setB (below_setB (below_setB (below_setB B (Nat.le_refl _) o) (by omega) c) (by omega) r) (by omega) s
theorem fo_later {w W w2 : World} {o c r s : Obj} (B : Below w.heap.size w W) (Z : w.heap.size + 3 < W.heap.size) (h : Below (fo W w.heap.size o c r s).heap.size (fo W w.heap.size o c r s) w2) : Below w.heap.size w w2 ∧ w2.heap[w.heap.size]? = some o ∧ w2.heap[w.heap.size + 1]? = some c ∧ w2.heap[w.heap.size + 1 + 1]? = some r ∧ w2.heap[w.heap.size + 1 + 1 + 1]? = some s ∧ w.heap.size + 3 < w2.heap.size := by
 have h4 := fo_at Z o c r s
 have hs := h.size
 rw [fo_size] at hs
 exact ⟨Below.then (fo_B B o c r s) h, (Grew.below h _ (World.lt_of_get h4.1)).trans h4.1, (Grew.below h _ (World.lt_of_get h4.2.1)).trans h4.2.1, (Grew.below h _ (World.lt_of_get h4.2.2.1)).trans h4.2.2.1, (Grew.below h _ (World.lt_of_get h4.2.2.2)).trans h4.2.2.2, by omega⟩
/-! ### five boxes -/
abbrev fv (W : World) (p q : Nat) (o c r s a : Obj) : World := (fo W p o c r s).setB q a
theorem fv_eq {W : World} {p q : Nat} {o c r s a : Obj} (P : W.heap[p]? = some o) (C : W.heap[p + 1]? = some c) (R : W.heap[p + 1 + 1]? = some r) (A : W.heap[p + 1 + 1 + 1]? = some s) (Q : W.heap[q]? = some a) : ((((W.setB p o).setB (p + 1) c).setB (p + 1 + 1) r).setB (p + 1 + 1 + 1) s).setB q a = W := by
 rw [fo_eq P C R A, World.setB_self Q]
theorem fv_size (W : World) (p q : Nat) (o c r s a : Obj) : (fv W p q o c r s a).heap.size = W.heap.size := by
 unfold fv
 rw [World.setB_size, fo_size]
theorem fo_get {W : World} {p q : Nat} (hq : p + 3 < q) (o c r s : Obj) : (fo W p o c r s).heap[q]? = W.heap[q]? := by
 unfold fo
 rw [World.setB_get _ _ _ _ (by omega), World.setB_get _ _ _ _ (by omega), World.setB_get _ _ _ _ (by omega), World.setB_get _ _ _ _ (by omega)]
theorem fv_at {W : World} {p q : Nat} (h : p + 3 < q) (hq : q < W.heap.size) (o c r s a : Obj) : (fv W p q o c r s a).heap[p]? = some o ∧ (fv W p q o c r s a).heap[p + 1]? = some c ∧ (fv W p q o c r s a).heap[p + 1 + 1]? = some r ∧ (fv W p q o c r s a).heap[p + 1 + 1 + 1]? = some s ∧ (fv W p q o c r s a).heap[q]? = some a := by
 have h4 := fo_at (W := W) (p := p) (by omega) o c r s
 unfold fv
 refine ⟨?_, ?_, ?_, ?_, ?_⟩
 ·rw [World.setB_get _ _ _ _ (by omega)]; exact h4.1
 ·rw [World.setB_get _ _ _ _ (by omega)]; exact h4.2.1
 ·rw [World.setB_get _ _ _ _ (by omega)]; exact h4.2.2.1
 ·rw [World.setB_get _ _ _ _ (by omega)]; exact h4.2.2.2
 ·exact World.setB_at _ _ _ (by rw [fo_size]; exact hq)
theorem fv_rd {α : Type} {R : RowOf α} {W : World} {v : Value} {xs : List α} (hstr : ∀ u ∈ xs.flatMap R.row, ∃ s, u = .string s) (ha : AnsFree R xs) (h : RdL R W v xs) {p q : Nat} (hq : p + 3 < q) {a0 a1 a2 a3 a4 a5 : Option Addr} {n0 n1 n2 c0 c1 c2 n3 n4 n5 c3 c4 c5 : Nat} {t t' t2 t3 : TypeId} {x y x2 y2 : Int} {c : Obj}
  (P : W.heap[p]? = some (.cells #[.slice a0 n0 c0, .slice a1 n1 c1, .slice a2 n2 c2] t (0, 0))) (C : W.heap[p + 1]? = some c) (Rr : W.heap[p + 1 + 1]? = some (.cells #[.slice a3 n3 c3, .slice a4 n4 c4, .slice a5 n5 c5] t' (0, 0))) (A : W.heap[p + 1 + 1 + 1]? = some (.cells #[.int .i64 x, .int .i64 y, .string ⟨#[]⟩] t2 (0, 0))) (Q : W.heap[q]? = some (.cells #[.int .i64 x2, .int .i64 y2, .string ⟨#[]⟩] t3 (0, 0))) (o r s a : Obj) : RdL R (fv W p q o c r s a) v xs := by
 unfold fv
 exact ha _ _ _ _ _ _ (fo_rd hstr ha h P C Rr A o r s) ((fo_get hq o c r s).trans Q) a
theorem fv_B {w W : World} {q : Nat} (B : Below w.heap.size w W) (hq : w.heap.size + 3 < q) (o c r s a : Obj) : Below w.heap.size w (fv W w.heap.size q o c r s a) := by
 unfold fv
 exact below_setB (fo_B B o c r s) (by omega) a
theorem fv_later {w W w2 : World} {q : Nat} {o c r s a : Obj} (B : Below w.heap.size w W) (Z : w.heap.size + 3 < q) (Zq : q < W.heap.size) (h : Below (fv W w.heap.size q o c r s a).heap.size (fv W w.heap.size q o c r s a) w2) : Below w.heap.size w w2 ∧ w2.heap[w.heap.size]? = some o ∧ w2.heap[w.heap.size + 1]? = some c ∧ w2.heap[w.heap.size + 1 + 1]? = some r ∧ w2.heap[w.heap.size + 1 + 1 + 1]? = some s ∧ w2.heap[q]? = some a ∧ q < w2.heap.size := by
 have h4 := fv_at Z Zq o c r s a
 have hs := h.size
 rw [fv_size] at hs
 exact ⟨Below.then (fv_B B Z o c r s a) h, (Grew.below h _ (World.lt_of_get h4.1)).trans h4.1, (Grew.below h _ (World.lt_of_get h4.2.1)).trans h4.2.1, (Grew.below h _ (World.lt_of_get h4.2.2.1)).trans h4.2.2.1, (Grew.below h _ (World.lt_of_get h4.2.2.2.1)).trans h4.2.2.2.1, (Grew.below h _ (World.lt_of_get h4.2.2.2.2)).trans h4.2.2.2.2, by omega⟩
theorem fo_first (w : World) (a b c d : Obj) (h : Below w.heap.size w ((((w.alloc a).alloc b).alloc c).alloc d)) : Below w.heap.size w ((((w.alloc a).alloc b).alloc c).alloc d) ∧ ((((w.alloc a).alloc b).alloc c).alloc d).heap[w.heap.size]? = some a ∧ ((((w.alloc a).alloc b).alloc c).alloc d).heap[w.heap.size + 1]? = some b ∧ ((((w.alloc a).alloc b).alloc c).alloc d).heap[w.heap.size + 1 + 1]? = some c ∧ ((((w.alloc a).alloc b).alloc c).alloc d).heap[w.heap.size + 1 + 1 + 1]? = some d := ⟨h, heap4s w a b c d w.heap.size rfl⟩
theorem fv_first {w W : World} {o c r s : Obj} {v0 v1 v2 : Value} {xs : List CellD} {ys zs : List ByteArray} (a : Obj) (B : Below w.heap.size w W) (Z : w.heap.size + 3 < W.heap.size) (h0 : RdL rCell (fo W w.heap.size o c r s) v0 xs) (h1 : RdL rStr (fo W w.heap.size o c r s) v1 ys) (h2 : RdL rStr (fo W w.heap.size o c r s) v2 zs) :
  Below w.heap.size w ((fo W w.heap.size o c r s).alloc a) ∧ ((fo W w.heap.size o c r s).alloc a).heap[w.heap.size]? = some o ∧ ((fo W w.heap.size o c r s).alloc a).heap[w.heap.size + 1]? = some c ∧ ((fo W w.heap.size o c r s).alloc a).heap[w.heap.size + 1 + 1]? = some r ∧ ((fo W w.heap.size o c r s).alloc a).heap[w.heap.size + 1 + 1 + 1]? = some s ∧ ((fo W w.heap.size o c r s).alloc a).heap[W.heap.size]? = some a ∧
   RdL rCell ((fo W w.heap.size o c r s).alloc a) v0 xs ∧ RdL rStr ((fo W w.heap.size o c r s).alloc a) v1 ys ∧ RdL rStr ((fo W w.heap.size o c r s).alloc a) v2 zs := by
 have h4 := fo_at Z o c r s
 refine ⟨(fo_B B o c r s).ofAlloc _, (heap_alloc_old _ _ (World.lt_of_get h4.1)).trans h4.1, (heap_alloc_old _ _ (World.lt_of_get h4.2.1)).trans h4.2.1, (heap_alloc_old _ _ (World.lt_of_get h4.2.2.1)).trans h4.2.2.1, (heap_alloc_old _ _ (World.lt_of_get h4.2.2.2)).trans h4.2.2.2, ?_, h0.alloc _, h1.alloc _, h2.alloc _⟩
 have h := heap_alloc_new (fo W w.heap.size o c r s) a
 rw [fo_size] at h
 exact h
theorem five_first (w : World) (a b c d e : Obj) (h : Below w.heap.size w (((((w.alloc a).alloc b).alloc c).alloc d).alloc e)) : Below w.heap.size w (((((w.alloc a).alloc b).alloc c).alloc d).alloc e) ∧ (((((w.alloc a).alloc b).alloc c).alloc d).alloc e).heap[w.heap.size]? = some a ∧ (((((w.alloc a).alloc b).alloc c).alloc d).alloc e).heap[w.heap.size + 1]? = some b ∧ (((((w.alloc a).alloc b).alloc c).alloc d).alloc e).heap[w.heap.size + 1 + 1]? = some c ∧ (((((w.alloc a).alloc b).alloc c).alloc d).alloc e).heap[w.heap.size + 1 + 1 + 1]? = some d ∧ (((((w.alloc a).alloc b).alloc c).alloc d).alloc e).heap[w.heap.size + 1 + 1 + 1 + 1]? = some e := by
 have h4 := heap4s w a b c d w.heap.size rfl
 have h5 := heap_alloc_new ((((w.alloc a).alloc b).alloc c).alloc d) e
 have hz : ((((w.alloc a).alloc b).alloc c).alloc d).heap.size = w.heap.size + 1 + 1 + 1 + 1 := by simp
 rw [hz] at h5
 exact ⟨h, (heap_alloc_old _ _ (World.lt_of_get h4.1)).trans h4.1, (heap_alloc_old _ _ (World.lt_of_get h4.2.1)).trans h4.2.1, (heap_alloc_old _ _ (World.lt_of_get h4.2.2.1)).trans h4.2.2.1, (heap_alloc_old _ _ (World.lt_of_get h4.2.2.2)).trans h4.2.2.2, h5⟩
theorem free_of {α : Type} {R : RowOf α} (hk : 0 < R.k) {W : World} {v : Value} {xs : List α} {b : Nat} {o : Obj} (h : RdL R W v xs) (hb : W.heap[b]? = some o) (ho : ∀ i, W.cell? ⟨b, i, none⟩ = none) : xs = [] ∨ v.ownBlock ≠ some b := by
 by_cases hx : xs = []
 ·exact .inl hx
 ·refine .inr fun hq => ?_
  obtain ⟨ao, cap, rfl, _, _, _, h4⟩ := h.shape
  obtain ⟨b', off, rfl, hb', hc⟩ := h4 hx
  have e : b' = b := by simpa [Value.ownBlock] using hq
  subst e
  have hl : 0 < xs.length := List.length_pos_iff.2 hx
  obtain ⟨u, hu⟩ : ∃ u, (R.row xs[0])[0]? = some u := by
   have : 0 < (R.row xs[0]).length := by rw [R.len]; exact hk
   exact ⟨_, List.getElem?_eq_getElem this⟩
  have := hc 0 hl 0 u hu
  rw [ho] at this
  cases this
theorem rd_free {α : Type} {R : RowOf α} {W : World} {v : Value} {xs : List α} {b : Nat} (h : RdL R W v xs) (hf : xs = [] ∨ v.ownBlock ≠ some b) (o : Obj) : RdL R (W.setB b o) v xs := by
 rcases hf with rfl | hf
 ·rcases h with h | ⟨b, off, cap, hv, h1, h2, h3⟩
  ·exact .inl h
  ·exact .inr ⟨b, off, cap, hv, h1, h2, fun j u hj => by simp at hj⟩
 ·exact h.setB hf o
theorem cell_empty {W : World} {b : Nat} {t : TypeId} (h : W.heap[b]? = some (.cells #[] t (0, 0))) (i : Nat) : W.cell? ⟨b, i, none⟩ = none := by
 rw [World.cell?_of_get h]
 simp
theorem fv_again {α : Type} {R : RowOf α} (hk : 0 < R.k) {W W' : World} {v : Value} {xs : List α} {p q : Nat} {c : Obj} (hq : p + 3 < q) (hs : q < W.heap.size) (H : ∀ o r s a, RdL R (fv W p q o c r s a) v xs) (h : RdL R W' v xs) (C : W'.heap[p + 1]? = some c) (o r s a : Obj) : RdL R (fv W' p q o c r s a) v xs := by
 have hat := fv_at hq hs (.cells #[] 0) c (.cells #[] 0) (.cells #[] 0) (.cells #[] 0)
 have h0 := H (.cells #[] 0) (.cells #[] 0) (.cells #[] 0) (.cells #[] 0)
 have f0 := free_of hk h0 hat.1 (cell_empty hat.1)
 have f2 := free_of hk h0 hat.2.2.1 (cell_empty hat.2.2.1)
 have f3 := free_of hk h0 hat.2.2.2.1 (cell_empty hat.2.2.2.1)
 have f4 := free_of hk h0 hat.2.2.2.2 (cell_empty hat.2.2.2.2)
 have e : (W'.setB p o).setB (p + 1) c = W'.setB p o := World.setB_self ((World.setB_get _ _ _ _ (by omega)).trans C)
 show RdL R (((((W'.setB p o).setB (p + 1) c).setB (p + 1 + 1) r).setB (p + 1 + 1 + 1) s).setB q a) v xs
 rw [e]
 exact rd_free (rd_free (rd_free (rd_free h f0 o) f2 r) f3 s) f4 a
theorem fo_again {α : Type} {R : RowOf α} (hk : 0 < R.k) {W W' : World} {v : Value} {xs : List α} {p : Nat} {c : Obj} (hs : p + 3 < W.heap.size) (H : ∀ o r s, RdL R (fo W p o c r s) v xs) (h : RdL R W' v xs) (C : W'.heap[p + 1]? = some c) (o r s : Obj) : RdL R (fo W' p o c r s) v xs := by
 have hat := fo_at hs (.cells #[] 0) c (.cells #[] 0) (.cells #[] 0)
 have h0 := H (.cells #[] 0) (.cells #[] 0) (.cells #[] 0)
 have f0 := free_of hk h0 hat.1 (cell_empty hat.1)
 have f2 := free_of hk h0 hat.2.2.1 (cell_empty hat.2.2.1)
 have f3 := free_of hk h0 hat.2.2.2 (cell_empty hat.2.2.2)
 have e : (W'.setB p o).setB (p + 1) c = W'.setB p o := World.setB_self ((World.setB_get _ _ _ _ (by omega)).trans C)
 show RdL R ((((W'.setB p o).setB (p + 1) c).setB (p + 1 + 1) r).setB (p + 1 + 1 + 1) s) v xs
 rw [e]
 exact rd_free (rd_free (rd_free h f0 o) f2 r) f3 s
theorem fv_more {w W : World} {q : Nat} {o c r s a : Obj} {v0 v1 v2 : Value} {xs : List CellD} {ys zs : List ByteArray} (x : Obj) (B : Below w.heap.size w W) (Z : w.heap.size + 3 < q) (Zq : q < W.heap.size) (h0 : RdL rCell (fv W w.heap.size q o c r s a) v0 xs) (h1 : RdL rStr (fv W w.heap.size q o c r s a) v1 ys) (h2 : RdL rStr (fv W w.heap.size q o c r s a) v2 zs) :
  Below w.heap.size w ((fv W w.heap.size q o c r s a).alloc x) ∧ ((fv W w.heap.size q o c r s a).alloc x).heap[w.heap.size]? = some o ∧ ((fv W w.heap.size q o c r s a).alloc x).heap[w.heap.size + 1]? = some c ∧ ((fv W w.heap.size q o c r s a).alloc x).heap[w.heap.size + 1 + 1]? = some r ∧ ((fv W w.heap.size q o c r s a).alloc x).heap[w.heap.size + 1 + 1 + 1]? = some s ∧ ((fv W w.heap.size q o c r s a).alloc x).heap[q]? = some a ∧
   RdL rCell ((fv W w.heap.size q o c r s a).alloc x) v0 xs ∧ RdL rStr ((fv W w.heap.size q o c r s a).alloc x) v1 ys ∧ RdL rStr ((fv W w.heap.size q o c r s a).alloc x) v2 zs := by
 have h4 := fv_at Z Zq o c r s a
 exact ⟨(fv_B B Z o c r s a).ofAlloc _, (heap_alloc_old _ _ (World.lt_of_get h4.1)).trans h4.1, (heap_alloc_old _ _ (World.lt_of_get h4.2.1)).trans h4.2.1, (heap_alloc_old _ _ (World.lt_of_get h4.2.2.1)).trans h4.2.2.1, (heap_alloc_old _ _ (World.lt_of_get h4.2.2.2.1)).trans h4.2.2.2.1, (heap_alloc_old _ _ (World.lt_of_get h4.2.2.2.2)).trans h4.2.2.2.2, h0.alloc _, h1.alloc _, h2.alloc _⟩
theorem IM.set1 {w0 W : World} {fp : List Nat} {b : Nat} {m : MachD} (h : IM w0 W b fp m) {q : Nat} (hq : q ∉ fp) (hB : w0.heap.size ≤ q) (o : Obj) : IM w0 (W.setB q o) b fp m :=
 h.upon (Upon.setB (fp := [q]) W o (by simp)) (fun j hj => by rw [List.mem_singleton.1 hj]; exact hq) (fun j hj => by rw [List.mem_singleton.1 hj]; exact hB)
theorem IT.set1 {w W : World} {fp fp1 : List Nat} (h : IT w fp W fp1) {q : Nat} (hB : w.heap.size ≤ q) (o : Obj) : IT w fp (W.setB q o) fp1 :=
 h.upon (Upon.setB (fp := [q]) W o (by simp)) (fun j hj => by rw [List.mem_singleton.1 hj]; exact hB)
theorem BX.set1 {W : World} {fp : List Nat} {p q : Nat} {o' : Obj} (h : BX W fp p o') (hne : p ≠ q) (o : Obj) : BX (W.setB q o) fp p o' := ⟨(World.setB_get _ _ _ _ hne).trans h.1, h.2⟩
theorem BX.at1 {W : World} {fp : List Nat} {q : Nat} {o' : Obj} (h : BX W fp q o') (o : Obj) : BX (W.setB q o) fp q o := ⟨World.setB_at _ _ _ (World.lt_of_get h.1), h.2⟩
theorem impl_doFile (c : CallD) (hn : c.name.size ≤ 1048576) (htx : c.text.size ≤ 1048576) (ha0 : -9223372036854775808 ≤ c.a) (ha1 : c.a ≤ 9223372036854775807) (hb0 : -9223372036854775808 ≤ c.b) (hb1 : c.b ≤ 9223372036854775807) : IC 46 (fun x => #[x, callV c]) (K.doFile c) (fun an => ansV an) := by
 obtain ⟨kd, nm, tn, ca, cb, tx⟩ := c
 dsimp only at hn htx ha0 ha1 hb0 hb1
 refine ICgo (fun w0 w fp mb m res mres HM HT HL => ?_)
 have HB0 := Lib.hid HM.out.bel.size
 unfold K.doFile at HL
 unfold callV
 dsimp only at HL ⊢
 go_enter Tryz.func46, Tryz.ntmps46
 (repeat (first | go_skip | go_guarded | go_step | go_upon | go_back))
 refine opqWC (fun W => IM w0 W mb fp m ∧ IT w fp W fp ∧ BX W fp w.heap.size (.cells #[.int .i64 kd, .string nm, .string tn, .int .i64 ca, .int .i64 cb, .string tx] 55 (0, 0)) ∧ BX W fp (w.heap.size + 1) (.cells #[.int .i64 0, .int .i64 0, .string ⟨#[]⟩] 66 (0, 0))) ?_ ?_
 ·have h2 := heap2s w (.cells #[.int .i64 kd, .string nm, .string tn, .int .i64 ca, .int .i64 cb, .string tx] 55) (.cells #[.int .i64 0, .int .i64 0, .string ⟨#[]⟩] 66) w.heap.size rfl
  exact ⟨HM.out.below (by repeat (first | with_reducible exact Below.refl _ _ | with_reducible apply Below.ofAlloc)), HT.out.trans (IT.below (by repeat (first | with_reducible exact Below.refl _ _ | with_reducible apply Below.ofAlloc))), ⟨h2.1, fun hx => absurd (HM.out.hi _ hx) (by omega)⟩, ⟨h2.2, fun hx => absurd (HM.out.hi _ hx) (by omega)⟩⟩
 clear HM HT
 rintro W ⟨hm, ht, hc, hr⟩
 have HM := Lib.hid hm
 have HT := Lib.hid ht
 have HC := Lib.hid hc
 have HR := Lib.hid hr
 clear hm ht hc hr
 ((((go_at_call 88; refine (IC.use (impl_fileOf _ (by omega)) (fun a => 0 ≤ a ∧ a ≤ 999) (fun m _ => fileOf_bd _ m) (by first | exact HL.out | exact HL.out.last) HM.out).mono ?_)); (rintro e w2 ⟨x, m2, fp2, rfl, hx, hm, ht, HL2⟩); (have HM' := Lib.hid hm; have HT' := Lib.hid (HT.out.trans ht); (try (have HC' := Lib.hid (HC.out.step ht); clear HC; have HC := HC'; clear HC')); (try (have HR' := Lib.hid (HR.out.step ht); clear HR; have HR := HR'; clear HR')); clear HM HT hm ht; have HM := HM'; have HT := HT'; clear HM' HT'; clear HL; have HL := Lib.hid HL2; clear HL2; (try simp only []); (all_goals ((repeat' ((rcases HL.out.ite with ⟨hg, HL2⟩ | ⟨hg, HL2⟩ <;> (clear HL; have HL := Lib.hid HL2; clear HL2)))))))))
 ·(have y1 := World.lt_of_get HR.out.1; have y0 := World.lt_of_get HC.out.1; have p0 : ∀ o, (w2.setB (w.heap.size + 1) o).cell? ⟨w.heap.size, 0, none⟩ = some _ := fun o => (World.cell?_of_get (i := 0) (HC.out.set1 (by omega) o).1).trans rfl; have p3 : ∀ o, (w2.setB (w.heap.size + 1) o).cell? ⟨w.heap.size, 3, none⟩ = some _ := fun o => (World.cell?_of_get (i := 3) (HC.out.set1 (by omega) o).1).trans rfl; have p4 : ∀ o, (w2.setB (w.heap.size + 1) o).cell? ⟨w.heap.size, 4, none⟩ = some _ := fun o => (World.cell?_of_get (i := 4) (HC.out.set1 (by omega) o).1).trans rfl; have p5 : ∀ o, (w2.setB (w.heap.size + 1) o).cell? ⟨w.heap.size, 5, none⟩ = some _ := fun o => (World.cell?_of_get (i := 5) (HC.out.set1 (by omega) o).1).trans rfl; have e1 := World.setB_self HR.out.1; rw [← e1]; clear e1)
  ((repeat (first | go_skip | go_guarded | go_step | go_upon | go_back)); obtain ⟨rfl, rfl⟩ := HL.out.end; refine bodyPost_ret (by simp [results, Tryz.results46, go_sem, y1]; rfl) rfl ?_; exact ⟨rfl, _, HM.out.set1 HR.out.2 (by have := HB0.out; omega) _, HT.out.set1 (by omega) _⟩)
 ·(have y1 := World.lt_of_get HR.out.1; have y0 := World.lt_of_get HC.out.1; have p0 : ∀ o, (w2.setB (w.heap.size + 1) o).cell? ⟨w.heap.size, 0, none⟩ = some _ := fun o => (World.cell?_of_get (i := 0) (HC.out.set1 (by omega) o).1).trans rfl; have p3 : ∀ o, (w2.setB (w.heap.size + 1) o).cell? ⟨w.heap.size, 3, none⟩ = some _ := fun o => (World.cell?_of_get (i := 3) (HC.out.set1 (by omega) o).1).trans rfl; have p4 : ∀ o, (w2.setB (w.heap.size + 1) o).cell? ⟨w.heap.size, 4, none⟩ = some _ := fun o => (World.cell?_of_get (i := 4) (HC.out.set1 (by omega) o).1).trans rfl; have p5 : ∀ o, (w2.setB (w.heap.size + 1) o).cell? ⟨w.heap.size, 5, none⟩ = some _ := fun o => (World.cell?_of_get (i := 5) (HC.out.set1 (by omega) o).1).trans rfl; have e1 := World.setB_self HR.out.1; rw [← e1]; clear e1)
  (repeat (first | go_skip | go_guarded | go_step | go_upon | go_back))
  rw [World.setB_self HR.out.1]
  clear p0 p3 p4 p5 y0 y1
  ((((go_at_call 97; refine (IC.use (impl_readFile _ (by omega) (by omega) _ (by omega) (by omega) _ (by omega) (by omega)) (fun _ => True) (fun _ _ => trivial) (by first | exact HL.out | exact HL.out.last) HM.out).mono ?_)); (rintro e w2 ⟨x, m2, fp2, rfl, hx, hm, ht, HL2⟩); (have HM' := Lib.hid hm; have HT' := Lib.hid (HT.out.trans ht); (try (have HC' := Lib.hid (HC.out.step ht); clear HC; have HC := HC'; clear HC')); (try (have HR' := Lib.hid (HR.out.step ht); clear HR; have HR := HR'; clear HR')); clear HM HT hm ht; have HM := HM'; have HT := HT'; clear HM' HT'; clear HL; have HL := Lib.hid HL2; clear HL2; (try simp only []); (all_goals ((repeat' ((rcases HL.out.ite with ⟨hg, HL2⟩ | ⟨hg, HL2⟩ <;> (clear HL; have HL := Lib.hid HL2; clear HL2)))))))))
  (have y1 := World.lt_of_get HR.out.1; have y0 := World.lt_of_get HC.out.1; have p0 : ∀ o, (w2.setB (w.heap.size + 1) o).cell? ⟨w.heap.size, 0, none⟩ = some _ := fun o => (World.cell?_of_get (i := 0) (HC.out.set1 (by omega) o).1).trans rfl; have p3 : ∀ o, (w2.setB (w.heap.size + 1) o).cell? ⟨w.heap.size, 3, none⟩ = some _ := fun o => (World.cell?_of_get (i := 3) (HC.out.set1 (by omega) o).1).trans rfl; have p4 : ∀ o, (w2.setB (w.heap.size + 1) o).cell? ⟨w.heap.size, 4, none⟩ = some _ := fun o => (World.cell?_of_get (i := 4) (HC.out.set1 (by omega) o).1).trans rfl; have p5 : ∀ o, (w2.setB (w.heap.size + 1) o).cell? ⟨w.heap.size, 5, none⟩ = some _ := fun o => (World.cell?_of_get (i := 5) (HC.out.set1 (by omega) o).1).trans rfl; have e1 := World.setB_self HR.out.1; rw [← e1]; clear e1)
  ((repeat (first | go_skip | go_guarded | go_step | go_upon | go_back)); obtain ⟨rfl, rfl⟩ := HL.out.end; refine bodyPost_ret (by simp [results, Tryz.results46, go_sem, y1]; rfl) rfl ?_; exact ⟨rfl, _, HM.out.set1 HR.out.2 (by have := HB0.out; omega) _, HT.out.set1 (by omega) _⟩)
 ·(have y1 := World.lt_of_get HR.out.1; have y0 := World.lt_of_get HC.out.1; have p0 : ∀ o, (w2.setB (w.heap.size + 1) o).cell? ⟨w.heap.size, 0, none⟩ = some _ := fun o => (World.cell?_of_get (i := 0) (HC.out.set1 (by omega) o).1).trans rfl; have p3 : ∀ o, (w2.setB (w.heap.size + 1) o).cell? ⟨w.heap.size, 3, none⟩ = some _ := fun o => (World.cell?_of_get (i := 3) (HC.out.set1 (by omega) o).1).trans rfl; have p4 : ∀ o, (w2.setB (w.heap.size + 1) o).cell? ⟨w.heap.size, 4, none⟩ = some _ := fun o => (World.cell?_of_get (i := 4) (HC.out.set1 (by omega) o).1).trans rfl; have p5 : ∀ o, (w2.setB (w.heap.size + 1) o).cell? ⟨w.heap.size, 5, none⟩ = some _ := fun o => (World.cell?_of_get (i := 5) (HC.out.set1 (by omega) o).1).trans rfl; have e1 := World.setB_self HR.out.1; rw [← e1]; clear e1)
  (repeat (first | go_skip | go_guarded | go_step | go_upon | go_back))
  rw [World.setB_self HR.out.1]
  clear p0 p3 p4 p5 y0 y1
  ((((go_at_call 98; refine (IC.use (impl_writeFile _ (by omega) (by omega) _ (by omega) (by omega) _ (by omega)) (fun _ => True) (fun _ _ => trivial) (by first | exact HL.out | exact HL.out.last) HM.out).mono ?_)); (rintro e w2 ⟨x, m2, fp2, rfl, hx, hm, ht, HL2⟩); (have HM' := Lib.hid hm; have HT' := Lib.hid (HT.out.trans ht); (try (have HC' := Lib.hid (HC.out.step ht); clear HC; have HC := HC'; clear HC')); (try (have HR' := Lib.hid (HR.out.step ht); clear HR; have HR := HR'; clear HR')); clear HM HT hm ht; have HM := HM'; have HT := HT'; clear HM' HT'; clear HL; have HL := Lib.hid HL2; clear HL2; (try simp only []); (all_goals ((repeat' ((rcases HL.out.ite with ⟨hg, HL2⟩ | ⟨hg, HL2⟩ <;> (clear HL; have HL := Lib.hid HL2; clear HL2)))))))))
  (have y1 := World.lt_of_get HR.out.1; have y0 := World.lt_of_get HC.out.1; have p0 : ∀ o, (w2.setB (w.heap.size + 1) o).cell? ⟨w.heap.size, 0, none⟩ = some _ := fun o => (World.cell?_of_get (i := 0) (HC.out.set1 (by omega) o).1).trans rfl; have p3 : ∀ o, (w2.setB (w.heap.size + 1) o).cell? ⟨w.heap.size, 3, none⟩ = some _ := fun o => (World.cell?_of_get (i := 3) (HC.out.set1 (by omega) o).1).trans rfl; have p4 : ∀ o, (w2.setB (w.heap.size + 1) o).cell? ⟨w.heap.size, 4, none⟩ = some _ := fun o => (World.cell?_of_get (i := 4) (HC.out.set1 (by omega) o).1).trans rfl; have p5 : ∀ o, (w2.setB (w.heap.size + 1) o).cell? ⟨w.heap.size, 5, none⟩ = some _ := fun o => (World.cell?_of_get (i := 5) (HC.out.set1 (by omega) o).1).trans rfl; have e1 := World.setB_self HR.out.1; rw [← e1]; clear e1)
  ((repeat (first | go_skip | go_guarded | go_step | go_upon | go_back)); obtain ⟨rfl, rfl⟩ := HL.out.end; refine bodyPost_ret (by simp [results, Tryz.results46, go_sem, y1]; rfl) rfl ?_; exact ⟨rfl, _, HM.out.set1 HR.out.2 (by have := HB0.out; omega) _, HT.out.set1 (by omega) _⟩)
 ·(have y1 := World.lt_of_get HR.out.1; have y0 := World.lt_of_get HC.out.1; have p0 : ∀ o, (w2.setB (w.heap.size + 1) o).cell? ⟨w.heap.size, 0, none⟩ = some _ := fun o => (World.cell?_of_get (i := 0) (HC.out.set1 (by omega) o).1).trans rfl; have p3 : ∀ o, (w2.setB (w.heap.size + 1) o).cell? ⟨w.heap.size, 3, none⟩ = some _ := fun o => (World.cell?_of_get (i := 3) (HC.out.set1 (by omega) o).1).trans rfl; have p4 : ∀ o, (w2.setB (w.heap.size + 1) o).cell? ⟨w.heap.size, 4, none⟩ = some _ := fun o => (World.cell?_of_get (i := 4) (HC.out.set1 (by omega) o).1).trans rfl; have p5 : ∀ o, (w2.setB (w.heap.size + 1) o).cell? ⟨w.heap.size, 5, none⟩ = some _ := fun o => (World.cell?_of_get (i := 5) (HC.out.set1 (by omega) o).1).trans rfl; have e1 := World.setB_self HR.out.1; rw [← e1]; clear e1)
  (repeat (first | go_skip | go_guarded | go_step | go_upon | go_back))
  rw [World.setB_self HR.out.1]
  clear p0 p3 p4 p5 y0 y1
  ((((go_at_call 99; refine (IC.use (impl_cutFile _ (by omega) (by omega) _ (by omega) (by omega)) (fun _ => True) (fun _ _ => trivial) (by first | exact HL.out | exact HL.out.last) HM.out).mono ?_)); (rintro e w2 ⟨x, m2, fp2, rfl, hx, hm, ht, HL2⟩); (have HM' := Lib.hid hm; have HT' := Lib.hid (HT.out.trans ht); (try (have HC' := Lib.hid (HC.out.step ht); clear HC; have HC := HC'; clear HC')); (try (have HR' := Lib.hid (HR.out.step ht); clear HR; have HR := HR'; clear HR')); clear HM HT hm ht; have HM := HM'; have HT := HT'; clear HM' HT'; clear HL; have HL := Lib.hid HL2; clear HL2; (try simp only []); (all_goals ((repeat' ((rcases HL.out.ite with ⟨hg, HL2⟩ | ⟨hg, HL2⟩ <;> (clear HL; have HL := Lib.hid HL2; clear HL2)))))))))
  (have y1 := World.lt_of_get HR.out.1; have y0 := World.lt_of_get HC.out.1; have p0 : ∀ o, (w2.setB (w.heap.size + 1) o).cell? ⟨w.heap.size, 0, none⟩ = some _ := fun o => (World.cell?_of_get (i := 0) (HC.out.set1 (by omega) o).1).trans rfl; have p3 : ∀ o, (w2.setB (w.heap.size + 1) o).cell? ⟨w.heap.size, 3, none⟩ = some _ := fun o => (World.cell?_of_get (i := 3) (HC.out.set1 (by omega) o).1).trans rfl; have p4 : ∀ o, (w2.setB (w.heap.size + 1) o).cell? ⟨w.heap.size, 4, none⟩ = some _ := fun o => (World.cell?_of_get (i := 4) (HC.out.set1 (by omega) o).1).trans rfl; have p5 : ∀ o, (w2.setB (w.heap.size + 1) o).cell? ⟨w.heap.size, 5, none⟩ = some _ := fun o => (World.cell?_of_get (i := 5) (HC.out.set1 (by omega) o).1).trans rfl; have e1 := World.setB_self HR.out.1; rw [← e1]; clear e1)
  ((repeat (first | go_skip | go_guarded | go_step | go_upon | go_back)); obtain ⟨rfl, rfl⟩ := HL.out.end; refine bodyPost_ret (by simp [results, Tryz.results46, go_sem, y1]; rfl) rfl ?_; exact ⟨rfl, _, HM.out.set1 HR.out.2 (by have := HB0.out; omega) _, HT.out.set1 (by omega) _⟩)
end Go.Proofs.YtieenbnmfaekiaaGreatDoor
