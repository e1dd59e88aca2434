/- Texts of this claim, merged: the walks and what they stand on. Each condition stands in its theorem. -/
import Derived.Test.YtieenbnmfaekiaaGreatDoorSS10
set_option linter.unusedVariables false
set_option linter.unusedSimpArgs false
set_option maxRecDepth 100000
set_option maxHeartbeats 8000000
namespace Go.Proofs.YtieenbnmfaekiaaGreatDoor
open Go.ChangeShapes Go.WideShapes Go.ChangeAt Go.RowKit
theorem IC.use {α β : Type} {f : FuncId} {args : Value → Array Value} {p : Mp α} {ret : α → Value} (h : IC f args p ret) (S : α → Prop) (hS : ∀ m, p.fits m → S (p.run m).1) {k : α → Mp β} {w0 w : World} {fp : List Nat} {b : Nat} {m : MachD} {r : β × MachD} (L : Lft (p >>= k) m r) (hm : IM w0 w b fp m) :
  Calls Tryz.prog f (args (.pointer (some ⟨b, 0, none⟩))) w fun e w' => ∃ a m1 fp1, e = .returned (ret a) ∧ S a ∧ IM w0 w' b fp1 m1 ∧ IT w fp w' fp1 ∧ Lft (k a) m1 r := by
 refine (h w0 w fp b m hm L.step.1).mono ?_
 rintro e w' ⟨rfl, fp1, hm', ht⟩
 exact ⟨_, _, fp1, rfl, hS m L.step.1, hm', ht, L.step.2⟩
theorem IC.use2 {α γ β : Type} {f : FuncId} {args : Value → Array Value} {p : Mp (α × γ)} {ret : α × γ → Value} (h : IC f args p ret) (S : α × γ → Prop) (hS : ∀ m, p.fits m → S (p.run m).1) {k : α × γ → Mp β} {w0 w : World} {fp : List Nat} {b : Nat} {m : MachD} {r : β × MachD} (L : Lft (p >>= k) m r) (hm : IM w0 w b fp m) :
  Calls Tryz.prog f (args (.pointer (some ⟨b, 0, none⟩))) w fun e w' => ∃ x y m1 fp1, e = .returned (ret (x, y)) ∧ S (x, y) ∧ IM w0 w' b fp1 m1 ∧ IT w fp w' fp1 ∧ Lft (k (x, y)) m1 r := by
 refine (h w0 w fp b m hm L.step.1).mono ?_
 rintro e w' ⟨rfl, fp1, hm', ht⟩
 exact ⟨_, _, _, fp1, rfl, hS m L.step.1, hm', ht, L.step.2⟩
theorem ICgo {α : Type} {f : FuncId} {args : Value → Array Value} {p : Mp α} {ret : α → Value}
  (h : ∀ (w0 w : World) (fp : List Nat) (b : Nat) (m : MachD) (res : α) (mres : MachD), Hid (IM w0 w b fp m) → Hid (IT w fp w fp) → Hid (Lft p m (res, mres)) →
   Calls Tryz.prog f (args (.pointer (some ⟨b, 0, none⟩))) w fun e w' => e = .returned (ret res) ∧ ∃ fp', IM w0 w' b fp' mres ∧ IT w fp w' fp') : IC f args p ret :=
 fun w0 w fp b m H hf => h w0 w fp b m _ _ H (IT.refl w fp) ⟨hf, rfl⟩
def KL {α : Type} (R : RowOf α) (e : TypeId) (w : World) (B : Nat) (fp : List Nat) (v : Value) (ks : List α) : Prop := OwnL R e w B v ks ∧ ∀ j, v.ownBlock = some j → j ∉ fp
theorem KL.step {α : Type} {R : RowOf α} {e : TypeId} {w w' : World} {B : Nat} {fp fp' : List Nat} {v : Value} {ks : List α} (h : KL R e w B fp v ks) (t : IT w fp w' fp') : KL R e w' B fp' v ks := t.own h.1 h.2
theorem KL.below {α : Type} {R : RowOf α} {e : TypeId} {w w' : World} {B : Nat} {fp : List Nat} {v : Value} {ks : List α} (h : KL R e w B fp v ks) (hb : Below w.heap.size w w') : KL R e w' B fp v ks := ⟨own_bel h.1 hb, h.2⟩
theorem KL.at_ {w : World} {B : Nat} {fp : List Nat} {ao : Option Addr} {cap : Nat} {ks : List ByteArray} (h : KL rStr 9 w B fp (.slice ao ks.length cap) ks) {n : Nat} (hn : n < ks.length) : ∃ b off, ao = some ⟨b, off, none⟩ ∧ b < w.heap.size ∧ w.cell? ⟨b, off + n, none⟩ = some (.string ks[n]) := by
 have hne : ks ≠ [] := by intro e; rw [e] at hn; cases hn
 obtain ⟨ao', cap', e0, _, _, _, h4⟩ := h.1.rd.shapeS
 obtain ⟨b, off, e, hb, hc⟩ := h4 hne
 cases e0
 exact ⟨b, off, e, hb, hc n hn⟩
def BX (w : World) (fp : List Nat) (q : Nat) (o : Obj) : Prop := w.heap[q]? = some o ∧ q ∉ fp
theorem BX.step {w w' : World} {fp fp' : List Nat} {q : Nat} {o : Obj} (h : BX w fp q o) (t : IT w fp w' fp') : BX w' fp' q o := by
 refine ⟨(t.up.block q (World.lt_of_get h.1) h.2).trans h.1, fun hx => ?_⟩
 rcases t.sub q hx with h1 | h1
 ·exact h.2 h1
 ·have := World.lt_of_get h.1
  omega
theorem BX.below {w w' : World} {fp : List Nat} {q : Nat} {o : Obj} (h : BX w fp q o) (hb : Below w.heap.size w w') : BX w' fp q o := ⟨(Grew.below hb q (World.lt_of_get h.1)).trans h.1, h.2⟩
theorem KL.lower {α : Type} {R : RowOf α} {e : TypeId} {w : World} {B B' : Nat} {fp : List Nat} {v : Value} {ks : List α} (h : KL R e w B fp v ks) (hB : B' ≤ B) : KL R e w B' fp v ks := ⟨h.1.base hB, h.2⟩
theorem under_use {β : Type} {p : ByteArray} {k : List ByteArray → Mp β} {w0 w : World} {fp : List Nat} {b : Nat} {m : MachD} {r : β × MachD} (L : Lft (K.under p >>= k) m r) (hm : IM w0 w b fp m) :
  Calls Tryz.prog 96 #[.pointer (some ⟨b, 0, none⟩), .string p] w fun e w' => ∃ ao cap ks m1 fp1, e = .returned (.slice ao ks.length cap) ∧ KS p ks ∧ IM w0 w' b fp1 m1 ∧ IT w fp w' fp1 ∧ KL rStr 9 w' w.heap.size fp1 (.slice ao ks.length cap) ks ∧ Lft (k ks) m1 r := by
 refine (impl_under p w0 w fp b m hm L.step.1).mono ?_
 rintro e w' ⟨vs, rfl, ho, fp', hm', ht, hn⟩
 obtain ⟨ao, cap, rfl⟩ := ho.rd.form
 exact ⟨ao, cap, _, _, fp', rfl, under_ks p m L.step.1, hm', ht, ⟨ho, hn⟩, L.step.2⟩
theorem strings_CutPrefix (a : ByteArray) (w : World) (ha : a.size ≤ 1048576) : Calls Tryz.prog 177 #[.string a, .string ⟨#[45]⟩] w fun e w' => e = .returned (.tuple #[.string (if begins a ⟨#[45]⟩ then a.extract 1 a.size else a), .bool (begins a ⟨#[45]⟩)]) ∧ w = w' := by
 have H : Calls Tryz.prog 192 #[.string a, .string ⟨#[45]⟩] w fun e w' => e = .returned (.tuple #[.string (if begins a ⟨#[45]⟩ then a.extract 1 a.size else a), .bool (begins a ⟨#[45]⟩)]) ∧ w = w' := by
  have PH := Lib.hid (lite_HasPrefix a ⟨#[45]⟩ w (by omega) (by decide))
  cases ho : begins a ⟨#[45]⟩ with
  | true =>
   have h1 : 1 ≤ a.size := by
    unfold begins at ho
    simp at ho
    exact ho.1
   have h2 : (1 : Int) ≤ a.size := by omega
   have HO := Lib.hid ho
   clear ho
   go_enter Tryz.func192, Tryz.ntmps192
   go_wp2_with fail
   (go_at_call 188; refine PH.out.mono ?_; rintro e w' ⟨rfl, rfl⟩)
   rw [HO.out]
   go_wp2
   refine bodyPost_ret (by simp [results, Tryz.results192, go_sem]; rfl) rfl ?_
   exact ⟨by simp, rfl⟩
  | false =>
   have HO := Lib.hid ho
   clear ho
   go_enter Tryz.func192, Tryz.ntmps192
   go_wp2_with fail
   (go_at_call 188; refine PH.out.mono ?_; rintro e w' ⟨rfl, rfl⟩)
   rw [HO.out]
   go_wp2
   refine bodyPost_ret (by simp [results, Tryz.results192, go_sem]; rfl) rfl ?_
   exact ⟨by simp, rfl⟩
 generalize (if begins a ⟨#[45]⟩ then a.extract 1 a.size else a) = r at H ⊢
 generalize begins a ⟨#[45]⟩ = bb at H ⊢
 have HH := Lib.hid H
 clear H
 go_enter Tryz.func177, Tryz.ntmps177
 go_wp2_with fail
 (go_at_call 192; refine HH.out.mono ?_; rintro e w' ⟨rfl, rfl⟩)
 go_wp2
 refine bodyPost_ret (by simp [results, Tryz.results177, go_sem]; rfl) rfl ?_
 exact ⟨rfl, rfl⟩
theorem begins_dash (x : ByteArray) : begins x ⟨#[45]⟩ = decide (x.data.toList.head? = some 45) := by
 obtain ⟨⟨l⟩⟩ := x
 cases l with
 | nil => rfl
 | cons c l =>
  unfold begins
  rw [show (ByteArray.mk #[45]).size = 1 from rfl, ByteArray.toList_eq, ByteArray.toList_eq, ByteArray.data_extract, Array.toList_extract]
  have : decide (1 ≤ (ByteArray.mk ⟨c :: l⟩).size) = true := decide_eq_true (by show 1 ≤ (c :: l).length; simp)
  rw [this]
  by_cases hc : c = 45
  ·subst hc; simp
  ·simp [hc]
theorem impl_messageOf (x : ByteArray) (w : World) (hg : Glob w) (hs : x.size ≤ 1048576) : Calls Tryz.prog 149 #[.string x] w fun e w' => e = .returned (.string (K.messageOf x)) ∧ Below w.heap.size w w' := by
 have C := Lib.hid (strings_CutPrefix x w hs)
 have hb := begins_dash x
 cases h : begins x ⟨#[45]⟩ with
 | true =>
  rw [h] at hb
  have hd : x.data.toList.head? = some 45 := of_decide_eq_true hb.symm
  have HE := Lib.hid (messageOf_yes hd)
  have HO := Lib.hid h
  have hz : (x.extract 1 x.size).size ≤ 1048576 := by rw [ByteArray.size_extract]; omega
  have U := Lib.hid (impl_UnhexT (x.extract 1 x.size) w hg hz)
  clear hd hb h hg
  go_enter Tryz.func149, Tryz.ntmps149
  (skip); repeat (first | go_skip | go_guarded | go_step | go_upon | go_back)
  (go_at_call 177; refine C.out.mono ?_; rintro e w' ⟨rfl, rfl⟩)
  rw [HO.out, if_pos rfl]
  (try simp only []); repeat (first | go_skip | go_guarded | go_step | go_upon | go_back)
  (go_at_call 175; refine U.out.mono ?_; rintro e w2 ⟨b, _, rfl, hb⟩)
  go_wp2
  go_ret
  exact ⟨by rw [HE.out]; rfl, hb⟩
 | false =>
  rw [h] at hb
  have hd : ¬ x.data.toList.head? = some 45 := of_decide_eq_false hb.symm
  have HE := Lib.hid (messageOf_no hd)
  have HO := Lib.hid h
  clear hd hb h hg
  go_enter Tryz.func149, Tryz.ntmps149
  (skip); repeat (first | go_skip | go_guarded | go_step | go_upon | go_back)
  (go_at_call 177; refine C.out.mono ?_; rintro e w' ⟨rfl, rfl⟩)
  rw [HO.out]
  go_wp2
  go_ret
  exact ⟨by rw [HE.out]; rfl, Below.refl _ _⟩
theorem impl_num (k : ByteArray) : IC 84 (fun x => #[x, .string k]) (K.num k) (fun n => .int .i64 n) := by
 refine ICgo (fun w0 w fp b m res mres HM HT HL => ?_)
 unfold K.num at HL
 ((repeat' ((rcases HL.out.ite with ⟨hg, HL2⟩ | ⟨hg, HL2⟩ <;> (clear HL; have HL := Lib.hid HL2; clear HL2)))))
 all_goals (go_enter Tryz.func84, Tryz.ntmps84; all_goals ((repeat' (first | go_skip | go_guarded | go_step | go_upon | go_back | ((first | ((go_at_call 105; refine (IC.use (impl_look _) (fun a => a.size ≤ 1048576) (fun m h => getC_size h.1 _) (by first | exact HL.out | exact HL.out.last) HM.out).mono ?_); (rintro e w2 ⟨x, m2, fp2, rfl, hx, hm, ht, HL2⟩); (replace HM := Lib.hid hm; replace HT := Lib.hid (HT.out.trans ht); clear hm ht; clear HL; have HL := Lib.hid HL2; clear HL2; (try simp only []); (all_goals ((repeat' ((rcases HL.out.ite with ⟨hg, HL2⟩ | ⟨hg, HL2⟩ <;> (clear HL; have HL := Lib.hid HL2; clear HL2)))))))) | ((go_at_call 107; refine (impl_NumOf _ _ HM.out.globs (by omega)).mono ?_); rintro e w2 ⟨rfl, hb⟩; (replace HM := Lib.hid (HM.out.below hb); replace HT := Lib.hid (HT.out.trans (IT.below hb)); clear hb; (try simp only []))))) | (exfalso; (simp only [bne_eq_false_iff_eq, beq_eq_false_iff_ne, beq_iff_eq, bne_iff_ne] at *); omega)))))
 all_goals (obtain ⟨rfl, rfl⟩ := HL.out.end; ((refine bodyPost_ret (by simp [results, Tryz.results84, go_sem]; rfl) rfl ?_)); exact ⟨rfl, _, HM.out, HT.out⟩)
theorem spec_l11LoadPage (id : Int) (id0 : -9223372036854775808 ≤ id) (id1 : id ≤ 9223372036854775807) (page : Int) (page0 : -9223372036854775808 ≤ page) (page1 : page ≤ 9223372036854775807) : SC 80 (fun x => #[x, .int .i64 id, .int .i64 page]) (K.loadPage id page) (fun v' p => .tuple #[v', .string p.1, .int .i64 p.2]) := by
 refine SCgo (fun w m a0 c0 a1 c1 a2 c2 res mres H0 H1 H2 HL => ?_)
 unfold K.loadPage at HL
 have hk := pagesKey_small id id0 id1
 simp only [message_bind] at HL
 ((repeat' ((rcases HL.out.ite with ⟨hg, HL2⟩ | ⟨hg, HL2⟩ <;> (clear HL; have HL := Lib.hid HL2; clear HL2)))))
 all_goals (go_enter Tryz.func80, Tryz.ntmps80; ((repeat (first | ((with_reducible refine opqM2 w (.cells #[.slice a0 m.cells.length c0, .slice a1 m.rd.length c1, .slice a2 m.wr.length c2] 60) (.cells #[.slice none 0 0, .slice none 0 0, .slice none 0 0] 60) ?_ ?_); (· with_reducible exact box_first w (.cells #[.slice a0 m.cells.length c0, .slice a1 m.rd.length c1, .slice a2 m.wr.length c2] 60) (.cells #[.slice none 0 0, .slice none 0 0, .slice none 0 0] 60) (by repeat (first | with_reducible exact Below.refl _ _ | with_reducible apply Below.ofAlloc)))) | go_skip | go_guarded | go_step | go_upon | go_back)); (rintro w1 ⟨B, P, R⟩; have Z := World.lt_of_get R; have e1 := setB_two P R; rw [← e1]; have HW0 := Lib.hid (fun o r => H0.out.below (S_of B o r)); have HW1 := Lib.hid (fun o r => H1.out.below (S_of B o r)); have HW2 := Lib.hid (fun o r => H2.out.below (S_of B o r)); have Zp := Nat.lt_of_succ_lt Z; clear e1 P R H0 H1 H2; ((repeat' ((rcases HL.out.ite with ⟨hg, HL2⟩ | ⟨hg, HL2⟩ <;> (clear HL; have HL := Lib.hid HL2; clear HL2))))))); all_goals ((repeat' (first | go_skip | go_guarded | go_step | go_upon | go_back | ((first | ((go_at_call 112; refine (spec_l01In _ _ _ _).mono ?_); rintro e w2 ⟨rfl, rfl⟩; (try simp only []); (try rw [HN.out]); (try rw [HM.out]); (try simp (disch := omega) only [inB_yes, inB_no])) | ((go_at_call 129; refine (spec_UnhexT _ _ (by omega)).mono ?_); rintro e w2 ⟨b, hun, rfl, hb⟩; (have q0 := (HW0.out _ _).below hb; have q1 := (HW1.out _ _).below hb; have q2 := (HW2.out _ _).below hb; obtain ⟨B', P, R, Z', Zx⟩ := box_later B Z hb; clear Zx; clear hb; (clear HW0 HW1 HW2 B Z; have e1 := setB_two P R; rw [← e1]; clear e1; have HW0 := Lib.hid (fun o r => rdl_two (str_cells _) q0 P R o r); have HW1 := Lib.hid (fun o r => rdl_two (str_strs _) q1 P R o r); have HW2 := Lib.hid (fun o r => rdl_two (str_strs _) q2 P R o r); have B := B'; have Z := Z'; (try clear Zp); have Zp := Nat.lt_of_succ_lt Z; clear B' Z' P R q0 q1 q2; (try simp only []))); (rcases hun with rfl | hun <;> first | ((try rw [hun] at HL); (try rw [hun]); cases b) | skip)))) | (refine wp_region_ordU (id := 3) [(0, true), (1, true), (3, true), (2, false), (4, false), (5, false), (6, true), (7, true), (8, true), (9, false), (10, false)] 6 (by kernel_rfl) (by kernel_rfl) ?_; (repeat (first | (refine wpOrd_quiet rfl (fun K hK => ?_); go_simp; refine hK _ ?_; clear hK K) | (refine wpOrd_grow rfl (fun K hK => ?_); go_simp; (first | ((first | (go_at_call 134; refine (spec_l11Head _ _ (by omega) (by omega)).mono ?_) | (go_at_call 117; refine (spec_KeyNum _ _ _ _ (by first | omega | decide) (by first | omega | decide) (by omega) (by omega)).mono ?_)); rintro e w' ⟨rfl, hb⟩; obtain ⟨X, rfl⟩ := hb.ext; clear hb) | ((go_at_call 128; refine (SC.use (spec_l04Look _) (fun a => a.size ≤ 1048576) (fun m h => getC_size h.1 _) (by first | exact HL.out | exact HL.out.last) (⟨_, _, _, rfl, by (refine ⟨?_, ?_, ?_⟩ <;> ((repeat (first | with_reducible exact HW0.out _ _ | with_reducible exact HW1.out _ _ | with_reducible exact HW2.out _ _ | with_reducible refine RdL.ext ?_ _))))⟩ : MRd _ _ _)).mono ?_); (rintro e w' ⟨v2, x, m2, rfl, hx, hm, hb, HL2⟩); clear HL; have HL := Lib.hid HL2; clear HL2; obtain ⟨f0, g0, f1, g1, f2, g2, rfl, q0, q1, q2⟩ := hm.form; obtain ⟨X, rfl⟩ := hb.ext; have Q0 := Lib.hid q0; have Q1 := Lib.hid q1; have Q2 := Lib.hid q2; clear hm q0 q1 q2 hb)); (try go_simp); refine hK _ _ (by show Sx _ _; (try simp only [← Array.append_assoc]); repeat (first | with_reducible apply Sx.more | with_reducible apply Sx.ext | with_reducible exact Sx.refl _)) ?_; clear hK K) | (refine wpOrd_tail rfl rfl (fun K hK => ?_); go_simp; refine hK _ _ ?_; clear hK K))); have Q0' := Q0.out; have Q1' := Q1.out; have Q2' := Q2.out; clear Q0 Q1 Q2; (try simp only [World.ext_ext, World.drew_ext, Array.append_assoc] at Q0' Q1' Q2'); refine wpOrd_nilT w m2 f0 g0 f1 g1 f2 g2 ⟨(S_of B _ _).ofExt _, (two_ext Z _ _ _).1, (two_ext Z _ _ _).2, both_set (str_cells _) Z Q0' _ _, both_set (str_strs _) Z Q1' _ _, both_set (str_strs _) Z Q2' _ _, World.lt_of_get (two_ext Z _ _ _).2⟩ ?_; clear Q0' Q1' Q2'; rintro w3 ⟨B', P, R, q0, q1, q2, Z'⟩; (clear HW0 HW1 HW2 B Z; have e1 := setB_two P R; rw [← e1]; clear e1; have HW0 := Lib.hid (fun o r => rdl_two (str_cells _) q0 P R o r); have HW1 := Lib.hid (fun o r => rdl_two (str_strs _) q1 P R o r); have HW2 := Lib.hid (fun o r => rdl_two (str_strs _) q2 P R o r); have B := B'; have Z := Z'; (try clear Zp); have Zp := Nat.lt_of_succ_lt Z; clear B' Z' P R q0 q1 q2); (try (have hmc := msg_cases x hx; (rcases hmc with ⟨hm0, hm1, hmq⟩ | ⟨hm0, hm1, hm2, hmq⟩ | ⟨hm0, hm1, hm2, hmq, hm3⟩ <;> (rw [hmq] at HL; clear hmq)))); (all_goals ((repeat' ((rcases HL.out.ite with ⟨hg, HL2⟩ | ⟨hg, HL2⟩ <;> (clear HL; have HL := Lib.hid HL2; clear HL2))))))) | (exfalso; (simp only [bne_eq_false_iff_eq, beq_eq_false_iff_ne, beq_iff_eq, bne_iff_ne] at *); omega)))))
 all_goals (obtain ⟨rfl, rfl⟩ := HL.out.end; refine bodyPost_ret (by simp [results, Tryz.results80, go_sem, Z]; rfl) rfl ?_; exact ⟨_, rfl, ⟨_, _, _, rfl, HW0.out _ _, HW1.out _ _, HW2.out _ _⟩, S_of B _ _⟩)
theorem spec_l07BlockOf (id : Int) (id0 : -9223372036854775808 ≤ id) (id1 : id ≤ 9223372036854775807) (place : Int) (place0 : -9223372036854775808 ≤ place) (place1 : place ≤ 9223372036854775807) : SC 156 (fun x => #[x, .int .i64 id, .int .i64 place]) (K.block id place) (fun v' t => .tuple #[v', .string t]) := by
 refine SCgo (fun w m a0 c0 a1 c1 a2 c2 res mres H0 H1 H2 HL => ?_)
 unfold K.block at HL
 ((repeat' ((rcases HL.out.ite with ⟨hg, HL2⟩ | ⟨hg, HL2⟩ <;> (clear HL; have HL := Lib.hid HL2; clear HL2)))))
 all_goals (go_enter Tryz.func156, Tryz.ntmps156; ((repeat (first | ((with_reducible refine opqM2 w (.cells #[.slice a0 m.cells.length c0, .slice a1 m.rd.length c1, .slice a2 m.wr.length c2] 60) (.cells #[.slice none 0 0, .slice none 0 0, .slice none 0 0] 60) ?_ ?_); (· with_reducible exact box_first w (.cells #[.slice a0 m.cells.length c0, .slice a1 m.rd.length c1, .slice a2 m.wr.length c2] 60) (.cells #[.slice none 0 0, .slice none 0 0, .slice none 0 0] 60) (by repeat (first | with_reducible exact Below.refl _ _ | with_reducible apply Below.ofAlloc)))) | go_skip | go_guarded | go_step | go_upon | go_back)); (rintro w1 ⟨B, P, R⟩; have Z := World.lt_of_get R; have e1 := setB_two P R; rw [← e1]; have HW0 := Lib.hid (fun o r => H0.out.below (S_of B o r)); have HW1 := Lib.hid (fun o r => H1.out.below (S_of B o r)); have HW2 := Lib.hid (fun o r => H2.out.below (S_of B o r)); have Zp := Nat.lt_of_succ_lt Z; clear e1 P R H0 H1 H2; ((repeat' ((rcases HL.out.ite with ⟨hg, HL2⟩ | ⟨hg, HL2⟩ <;> (clear HL; have HL := Lib.hid HL2; clear HL2))))))); all_goals ((repeat' (first | go_skip | go_guarded | go_step | go_upon | go_back | ((((go_at_call 129; refine (spec_UnhexT _ _ (by omega)).mono ?_); rintro e w2 ⟨b, hun, rfl, hb⟩; (have q0 := (HW0.out _ _).below hb; have q1 := (HW1.out _ _).below hb; have q2 := (HW2.out _ _).below hb; obtain ⟨B', P, R, Z', Zx⟩ := box_later B Z hb; clear Zx; clear hb; (clear HW0 HW1 HW2 B Z; have e1 := setB_two P R; rw [← e1]; clear e1; have HW0 := Lib.hid (fun o r => rdl_two (str_cells _) q0 P R o r); have HW1 := Lib.hid (fun o r => rdl_two (str_strs _) q1 P R o r); have HW2 := Lib.hid (fun o r => rdl_two (str_strs _) q2 P R o r); have B := B'; have Z := Z'; (try clear Zp); have Zp := Nat.lt_of_succ_lt Z; clear B' Z' P R q0 q1 q2; (try simp only []))); (rcases hun with rfl | hun <;> first | ((try rw [hun] at HL); (try rw [hun]); cases b) | skip)))) | (refine wp_region_ordU (id := 1) [(0, true), (1, true), (2, true), (3, false), (4, false), (5, true), (6, true), (7, true), (8, false), (9, false)] 5 (by kernel_rfl) (by kernel_rfl) ?_; (repeat (first | (refine wpOrd_quiet rfl (fun K hK => ?_); go_simp; refine hK _ ?_; clear hK K) | (refine wpOrd_grow rfl (fun K hK => ?_); go_simp; (first | ((go_at_call 159; refine (spec_l07Block _ _ _ (by omega) (by omega) (by omega) (by omega)).mono ?_); rintro e w' ⟨rfl, hb⟩; obtain ⟨X, rfl⟩ := hb.ext; clear hb) | ((go_at_call 128; refine (SC.use (spec_l04Look _) (fun a => a.size ≤ 1048576) (fun m h => getC_size h.1 _) (by first | exact HL.out | exact HL.out.last) (⟨_, _, _, rfl, by (refine ⟨?_, ?_, ?_⟩ <;> ((repeat (first | with_reducible exact HW0.out _ _ | with_reducible exact HW1.out _ _ | with_reducible exact HW2.out _ _ | with_reducible refine RdL.ext ?_ _))))⟩ : MRd _ _ _)).mono ?_); (rintro e w' ⟨v2, x, m2, rfl, hx, hm, hb, HL2⟩); clear HL; have HL := Lib.hid HL2; clear HL2; obtain ⟨f0, g0, f1, g1, f2, g2, rfl, q0, q1, q2⟩ := hm.form; obtain ⟨X, rfl⟩ := hb.ext; have Q0 := Lib.hid q0; have Q1 := Lib.hid q1; have Q2 := Lib.hid q2; clear hm q0 q1 q2 hb)); (try go_simp); refine hK _ _ (by show Sx _ _; repeat (first | with_reducible apply Sx.more | with_reducible apply Sx.ext | with_reducible exact Sx.refl _)) ?_; clear hK K) | (refine wpOrd_tail rfl rfl (fun K hK => ?_); go_simp; refine hK _ _ ?_; clear hK K))); have Q0' := Q0.out; have Q1' := Q1.out; have Q2' := Q2.out; clear Q0 Q1 Q2; (try simp only [World.ext_ext, World.drew_ext, Array.append_assoc] at Q0' Q1' Q2'); refine wpOrd_nilT w m2 f0 g0 f1 g1 f2 g2 ⟨(S_of B _ _).ofExt _, (two_ext Z _ _ _).1, (two_ext Z _ _ _).2, both_set (str_cells _) Z Q0' _ _, both_set (str_strs _) Z Q1' _ _, both_set (str_strs _) Z Q2' _ _, World.lt_of_get (two_ext Z _ _ _).2⟩ ?_; clear Q0' Q1' Q2'; rintro w3 ⟨B', P, R, q0, q1, q2, Z'⟩; (clear HW0 HW1 HW2 B Z; have e1 := setB_two P R; rw [← e1]; clear e1; have HW0 := Lib.hid (fun o r => rdl_two (str_cells _) q0 P R o r); have HW1 := Lib.hid (fun o r => rdl_two (str_strs _) q1 P R o r); have HW2 := Lib.hid (fun o r => rdl_two (str_strs _) q2 P R o r); have B := B'; have Z := Z'; (try clear Zp); have Zp := Nat.lt_of_succ_lt Z; clear B' Z' P R q0 q1 q2); (all_goals ((repeat' ((rcases HL.out.ite with ⟨hg, HL2⟩ | ⟨hg, HL2⟩ <;> (clear HL; have HL := Lib.hid HL2; clear HL2))))))) | (exfalso; (simp only [bne_eq_false_iff_eq, beq_eq_false_iff_ne, beq_iff_eq, bne_iff_ne] at *); omega)))))
 all_goals (obtain ⟨rfl, rfl⟩ := HL.out.end; refine bodyPost_ret (by simp [results, Tryz.results156, go_sem, Z]; rfl) rfl ?_; exact ⟨_, rfl, ⟨_, _, _, rfl, HW0.out _ _, HW1.out _ _, HW2.out _ _⟩, S_of B _ _⟩)
theorem spec_l07Lay (id : Int) (id0 : -9223372036854775808 ≤ id) (id1 : id ≤ 9223372036854775807) (place : Int) (place0 : -9223372036854775808 ≤ place) (place1 : place ≤ 9223372036854775807) (text : ByteArray) (textz : text.size ≤ 1048576) : SC 157 (fun x => #[x, .int .i64 id, .int .i64 place, .string text]) (K.lay (K.blockKey id place) (hexT text)) (fun v' _ => v') := by
 refine SCgo (fun w m a0 c0 a1 c1 a2 c2 res mres H0 H1 H2 HL => ?_)
 go_enter Tryz.func157, Tryz.ntmps157
 (try simp only [])
 ((repeat (first | ((with_reducible refine opqM2 w (.cells #[.slice a0 m.cells.length c0, .slice a1 m.rd.length c1, .slice a2 m.wr.length c2] 60) (.cells #[.slice none 0 0, .slice none 0 0, .slice none 0 0] 60) ?_ ?_); (· with_reducible exact box_first w (.cells #[.slice a0 m.cells.length c0, .slice a1 m.rd.length c1, .slice a2 m.wr.length c2] 60) (.cells #[.slice none 0 0, .slice none 0 0, .slice none 0 0] 60) (by repeat (first | with_reducible exact Below.refl _ _ | with_reducible apply Below.ofAlloc)))) | go_skip | go_guarded | go_step | go_upon | go_back)); (rintro w1 ⟨B, P, R⟩; have Z := World.lt_of_get R; have e1 := setB_two P R; rw [← e1]; have HW0 := Lib.hid (fun o r => H0.out.below (S_of B o r)); have HW1 := Lib.hid (fun o r => H1.out.below (S_of B o r)); have HW2 := Lib.hid (fun o r => H2.out.below (S_of B o r)); have Zp := Nat.lt_of_succ_lt Z; clear e1 P R H0 H1 H2; ((repeat' ((rcases HL.out.ite with ⟨hg, HL2⟩ | ⟨hg, HL2⟩ <;> (clear HL; have HL := Lib.hid HL2; clear HL2)))))))
 ((repeat' (first | go_skip | go_guarded | go_step | go_upon | go_back | (((((go_at_call 126; refine (spec_Hex _ _ (by omega)).mono ?_)); rintro e w2 ⟨rfl, hb⟩; (have q0 := (HW0.out _ _).below hb; have q1 := (HW1.out _ _).below hb; have q2 := (HW2.out _ _).below hb; obtain ⟨B', P, R, Z', Zx⟩ := box_later B Z hb; clear Zx; clear hb; (clear HW0 HW1 HW2 B Z; have e1 := setB_two P R; rw [← e1]; clear e1; have HW0 := Lib.hid (fun o r => rdl_two (str_cells _) q0 P R o r); have HW1 := Lib.hid (fun o r => rdl_two (str_strs _) q1 P R o r); have HW2 := Lib.hid (fun o r => rdl_two (str_strs _) q2 P R o r); have B := B'; have Z := Z'; (try clear Zp); have Zp := Nat.lt_of_succ_lt Z; clear B' Z' P R q0 q1 q2; (try simp only [])))))) | (refine wp_region_ordU (id := 2) [(0, true), (1, true), (2, true), (4, true), (3, false), (5, false), (6, false)] 6 (by kernel_rfl) (by kernel_rfl) ?_; (repeat (first | (refine wpOrd_quiet rfl (fun K hK => ?_); go_simp; refine hK _ ?_; clear hK K) | (refine wpOrd_grow rfl (fun K hK => ?_); go_simp; (first | (((go_at_call 159; refine (spec_l07Block _ _ _ (by omega) (by omega) (by omega) (by omega)).mono ?_)); rintro e w' ⟨rfl, hb⟩; obtain ⟨X, rfl⟩ := hb.ext; clear hb) | ((go_at_call 118; refine (SC.use (spec_l04Lay _ _) (fun _ => True) (fun _ _ => trivial) (by first | exact HL.out | exact HL.out.last) (⟨_, _, _, rfl, by (refine ⟨?_, ?_, ?_⟩ <;> ((repeat (first | with_reducible exact HW0.out _ _ | with_reducible exact HW1.out _ _ | with_reducible exact HW2.out _ _ | with_reducible refine RdL.ext ?_ _))))⟩ : MRd _ _ _)).mono ?_); (rintro e w' ⟨v2, x, m2, rfl, hx, hm, hb, HL2⟩); clear HL; have HL := Lib.hid HL2; clear HL2; obtain ⟨f0, g0, f1, g1, f2, g2, rfl, q0, q1, q2⟩ := hm.form; obtain ⟨X, rfl⟩ := hb.ext; have Q0 := Lib.hid q0; have Q1 := Lib.hid q1; have Q2 := Lib.hid q2; clear hm q0 q1 q2 hb)); (try go_simp); refine hK _ _ (by show Sx _ _; repeat (first | with_reducible apply Sx.more | with_reducible apply Sx.ext | with_reducible exact Sx.refl _)) ?_; clear hK K) | (refine wpOrd_tail rfl rfl (fun K hK => ?_); go_simp; refine hK _ _ ?_; clear hK K))); have Q0' := Q0.out; have Q1' := Q1.out; have Q2' := Q2.out; clear Q0 Q1 Q2; (try simp only [World.ext_ext, World.drew_ext, Array.append_assoc] at Q0' Q1' Q2'); refine wpOrd_nilT w m2 f0 g0 f1 g1 f2 g2 ⟨(S_of B _ _).ofExt _, (two_ext Z _ _ _).1, (two_ext Z _ _ _).2, both_set (str_cells _) Z Q0' _ _, both_set (str_strs _) Z Q1' _ _, both_set (str_strs _) Z Q2' _ _, World.lt_of_get (two_ext Z _ _ _).2⟩ ?_; clear Q0' Q1' Q2'; rintro w3 ⟨B', P, R, q0, q1, q2, Z'⟩; (clear HW0 HW1 HW2 B Z; have e1 := setB_two P R; rw [← e1]; clear e1; have HW0 := Lib.hid (fun o r => rdl_two (str_cells _) q0 P R o r); have HW1 := Lib.hid (fun o r => rdl_two (str_strs _) q1 P R o r); have HW2 := Lib.hid (fun o r => rdl_two (str_strs _) q2 P R o r); have B := B'; have Z := Z'; (try clear Zp); have Zp := Nat.lt_of_succ_lt Z; clear B' Z' P R q0 q1 q2); (all_goals ((repeat' ((rcases HL.out.ite with ⟨hg, HL2⟩ | ⟨hg, HL2⟩ <;> (clear HL; have HL := Lib.hid HL2; clear HL2))))))) | (exfalso; (simp only [bne_eq_false_iff_eq, beq_eq_false_iff_ne, beq_iff_eq, bne_iff_ne] at *); omega))))
 all_goals (obtain ⟨rfl, rfl⟩ := HL.out.end; refine bodyPost_ret (by simp [results, Tryz.results157, go_sem, Z]; rfl) rfl ?_; exact ⟨_, rfl, ⟨_, _, _, rfl, HW0.out _ _, HW1.out _ _, HW2.out _ _⟩, S_of B _ _⟩)
def broughtIn (x lo hi : Int) : Int := if hi < lo then lo else if x < lo then lo else if hi < x then hi else x
theorem spec_Brought (x lo hi : Int) (w : World) :
  Calls Tryz.prog 158 #[.int .i64 x, .int .i64 lo, .int .i64 hi] w fun e w' => e = .returned (.int .i64 (broughtIn x lo hi)) ∧ w' = w := by
 by_cases h0 : hi < lo
 ·by_cases h1 : x < hi
  ·have hq : broughtIn x lo hi = lo := by unfold broughtIn; (repeat (rw [if_pos (by omega)]))
   rw [hq]
   clear hq
   go_enter Tryz.func158, Tryz.ntmps158
   go_wp2
   all_goals go_ret
   all_goals exact ⟨congrArg (fun z => Ending.returned (.int .i64 z)) (by omega), rfl⟩
  ·by_cases h2 : hi < x
   ·have hq : broughtIn x lo hi = lo := by unfold broughtIn; (repeat (rw [if_pos (by omega)]))
    rw [hq]
    clear hq
    go_enter Tryz.func158, Tryz.ntmps158
    go_wp2
    all_goals go_ret
    all_goals exact ⟨congrArg (fun z => Ending.returned (.int .i64 z)) (by omega), rfl⟩
   ·have hq : broughtIn x lo hi = lo := by unfold broughtIn; (repeat (rw [if_pos (by omega)]))
    rw [hq]
    clear hq
    go_enter Tryz.func158, Tryz.ntmps158
    go_wp2
    all_goals go_ret
    all_goals exact ⟨congrArg (fun z => Ending.returned (.int .i64 z)) (by omega), rfl⟩
 ·by_cases h1 : x < lo
  ·have hq : broughtIn x lo hi = lo := by unfold broughtIn; (repeat (first | rw [if_pos (by omega)] | rw [if_neg (by omega)]))
   rw [hq]
   clear hq
   go_enter Tryz.func158, Tryz.ntmps158
   go_wp2
   all_goals go_ret
   all_goals exact ⟨congrArg (fun z => Ending.returned (.int .i64 z)) (by omega), rfl⟩
  ·by_cases h2 : hi < x
   ·have hq : broughtIn x lo hi = hi := by unfold broughtIn; (repeat (first | rw [if_pos (by omega)] | rw [if_neg (by omega)]))
    rw [hq]
    clear hq
    go_enter Tryz.func158, Tryz.ntmps158
    go_wp2
    all_goals go_ret
    all_goals exact ⟨congrArg (fun z => Ending.returned (.int .i64 z)) (by omega), rfl⟩
   ·have hq : broughtIn x lo hi = x := by unfold broughtIn; (repeat (rw [if_neg (by omega)]))
    rw [hq]
    clear hq
    go_enter Tryz.func158, Tryz.ntmps158
    go_wp2
    all_goals go_ret
    all_goals exact ⟨congrArg (fun z => Ending.returned (.int .i64 z)) (by omega), rfl⟩
theorem unhexT_size (v : ByteArray) : (unhexT v).size ≤ 20000 := by
 unfold unhexT
 split
 ·split
  ·rename_i h; rw [strOf_size]; exact h.1
  ·decide
 ·decide
theorem spec_BroughtN (x : Int) (k : Nat) (w : World) (h : 0 ≤ x) : Calls Tryz.prog 158 #[.int .i64 x, .int .i64 0, .int .i64 k] w fun e w' => e = .returned (.int .i64 ((min x.toNat k : Nat) : Int)) ∧ Below w.heap.size w w' := by
  refine (spec_Brought x 0 k w).mono ?_
  rintro e w' ⟨rfl, rfl⟩
  have e : broughtIn x 0 k = ((min x.toNat k : Nat) : Int) := by unfold broughtIn; repeat' split
                                                                 all_goals omega
  exact ⟨by rw [e], Below.refl _ _⟩
theorem Lft.eachB_at {α γ : Type} {f : α → Mp Unit} {xs : List α} {n : Nat} (hn : n < xs.length) {κ : Unit → Mp γ} {m : MachD} {r : γ × MachD} (h : Lft (Mp.each f (xs.drop n) >>= κ) m r) : Lft (f xs[n] >>= fun _ => Mp.each f (xs.drop (n + 1)) >>= κ) m r := by
 rw [List.drop_eq_getElem_cons hn] at h
 have e : (Mp.each f (xs[n] :: xs.drop (n + 1)) >>= κ) = (f xs[n] >>= fun _ => Mp.each f (xs.drop (n + 1)) >>= κ) := Mp.bind_assoc (f xs[n]) (fun _ => Mp.each f (xs.drop (n + 1))) κ
 rw [← e]
 exact h
theorem Lft.eachB_end {α γ : Type} {f : α → Mp Unit} {xs : List α} {n : Nat} (hn : xs.length ≤ n) {κ : Unit → Mp γ} {m : MachD} {r : γ × MachD} (h : Lft (Mp.each f (xs.drop n) >>= κ) m r) : Lft (κ ()) m r := by
 rw [List.drop_eq_nil_of_le hn] at h
 exact h
theorem spec_l07CutFile (id : Int) (id0 : -9223372036854775808 ≤ id) (id1 : id ≤ 9223372036854775807) (n : Int) (n0 : -9223372036854775808 ≤ n) (n1 : n ≤ 9223372036854775807) : SC 123 (fun x => #[x, .int .i64 id, .int .i64 n]) (K.cutFile id n) (fun v' r => .tuple #[v', .int .i64 r]) := by
  refine SCgo (fun w m a0 c0 a1 c1 a2 c2 res mres H0 H1 H2 HL => ?_)
  unfold K.cutFile at HL
  go_enter Tryz.func123, Tryz.ntmps123
  (try simp only [])
  ((repeat (first | ((with_reducible refine opqM2 w (.cells #[.slice a0 m.cells.length c0, .slice a1 m.rd.length c1, .slice a2 m.wr.length c2] 60) (.cells #[.slice none 0 0, .slice none 0 0, .slice none 0 0] 60) ?_ ?_); (· with_reducible exact box_first w (.cells #[.slice a0 m.cells.length c0, .slice a1 m.rd.length c1, .slice a2 m.wr.length c2] 60) (.cells #[.slice none 0 0, .slice none 0 0, .slice none 0 0] 60) (by repeat (first | with_reducible exact Below.refl _ _ | with_reducible apply Below.ofAlloc)))) | go_skip | go_guarded | go_step | go_upon | go_back)); (rintro w1 ⟨B, P, R⟩; have Z := World.lt_of_get R; have e1 := setB_two P R; rw [← e1]; have HW0 := Lib.hid (fun o r => H0.out.below (S_of B o r)); have HW1 := Lib.hid (fun o r => H1.out.below (S_of B o r)); have HW2 := Lib.hid (fun o r => H2.out.below (S_of B o r)); have Zp := Nat.lt_of_succ_lt Z; clear e1 P R H0 H1 H2; ((repeat' ((rcases HL.out.ite with ⟨hg, HL2⟩ | ⟨hg, HL2⟩ <;> (clear HL; have HL := Lib.hid HL2; clear HL2)))))))
  ((repeat' (first | go_skip | go_guarded | go_step | go_upon | go_back | ((first | ((first | (go_at_call 156; refine (SC.use (spec_l07BlockOf _ (by omega) (by omega) _ (by omega) (by omega)) (fun a => a.size ≤ 20000) (fun m _ => unhexT_size _) (by first | exact HL.out | exact HL.out.last) (⟨_, _, _, rfl, HW0.out _ _, HW1.out _ _, HW2.out _ _⟩ : MRd _ _ _)).mono ?_) | (go_at_call 155; refine (SC.use (spec_l07SizeFile _ (by omega) (by omega)) (fun a => 0 ≤ a ∧ a ≤ 999) (fun m _ => num_bd _ m) (by first | exact HL.out | exact HL.out.last) (⟨_, _, _, rfl, HW0.out _ _, HW1.out _ _, HW2.out _ _⟩ : MRd _ _ _)).mono ?_)); (rintro e w2 ⟨v2, x, m2, rfl, hx, hm, hb, HL2⟩); (obtain ⟨b0, d0, b1, d1, b2, d2, rfl, q0, q1, q2⟩ := hm.form; obtain ⟨B', P, R, Z', Zx⟩ := box_later B Z hb; clear Zx; clear hm hb; (clear HW0 HW1 HW2 B Z; have e1 := setB_two P R; rw [← e1]; clear e1; have HW0 := Lib.hid (fun o r => rdl_two (str_cells _) q0 P R o r); have HW1 := Lib.hid (fun o r => rdl_two (str_strs _) q1 P R o r); have HW2 := Lib.hid (fun o r => rdl_two (str_strs _) q2 P R o r); have B := B'; have Z := Z'; (try clear Zp); have Zp := Nat.lt_of_succ_lt Z; clear B' Z' P R q0 q1 q2; (try simp only [])); clear HL; have HL := Lib.hid HL2; clear HL2; (all_goals ((repeat' ((rcases HL.out.ite with ⟨hg, HL2⟩ | ⟨hg, HL2⟩ <;> (clear HL; have HL := Lib.hid HL2; clear HL2)))))))) | ((go_at_call 112; refine (spec_l01In _ _ _ _).mono ?_); rintro e w2 ⟨rfl, rfl⟩; (try simp only []); (try rw [HN.out]); (try rw [HM.out]); (try simp (disch := omega) only [inB_yes, inB_no])))) | ((refine wp_region_ordU (id := 8) [(0, true), (1, true), (2, true), (3, true), (4, true), (5, true), (6, true), (7, false), (8, false), (9, true), (10, false), (11, false)] 11 (by kernel_rfl) (by kernel_rfl) ?_); (repeat (first | (refine wpOrd_quiet rfl (fun K hK => ?_); go_simp; (try simp (disch := omega) only [IntWalk.i64_in, Int.tmod_eq_emod_of_nonneg, Int.tdiv_eq_ediv_of_nonneg]); refine hK _ ?_; clear hK K) | (refine wpOrd_grow rfl (fun K hK => ?_); go_simp; ((((go_at_call 158; refine (spec_BroughtN _ _ _ (by omega)).mono ?_)); rintro e w' ⟨rfl, hb⟩; obtain ⟨X, rfl⟩ := hb.ext; clear hb)); (try go_simp); refine hK _ _ (by show Sx _ _; repeat (first | with_reducible apply Sx.ext | with_reducible exact Sx.refl _)) ?_; clear hK K) | (refine wpOrd_grow rfl (fun K hK => ?_); go_simp; refine hK _ _ (by show Sx _ _; repeat (with_reducible exact Sx.drew _)) ?_; clear hK K))); have Q0' := Q0.out; have Q1' := Q1.out; have Q2' := Q2.out; clear Q0 Q1 Q2; refine wpOrd_nilT w m2 f0 g0 f1 g1 f2 g2 ⟨(S_of B _ _).ofExt _, (two_ext Z _ _ _).1, (two_ext Z _ _ _).2, both_set (str_cells _) Z Q0' _ _, both_set (str_strs _) Z Q1' _ _, both_set (str_strs _) Z Q2' _ _, World.lt_of_get (two_ext Z _ _ _).2⟩ ?_; clear Q0' Q1' Q2'; rintro w3 ⟨B', P, R, q0, q1, q2, Z'⟩; (clear HW0 HW1 HW2 B Z; have e1 := setB_two P R; rw [← e1]; clear e1; have HW0 := Lib.hid (fun o r => rdl_two (str_cells _) q0 P R o r); have HW1 := Lib.hid (fun o r => rdl_two (str_strs _) q1 P R o r); have HW2 := Lib.hid (fun o r => rdl_two (str_strs _) q2 P R o r); have B := B'; have Z := Z'; (try clear Zp); have Zp := Nat.lt_of_succ_lt Z; clear B' Z' P R q0 q1 q2); (all_goals ((repeat' ((rcases HL.out.ite with ⟨hg, HL2⟩ | ⟨hg, HL2⟩ <;> (clear HL; have HL := Lib.hid HL2; clear HL2))))))) | (exfalso; (simp only [bne_eq_false_iff_eq, beq_eq_false_iff_ne, beq_iff_eq, bne_iff_ne] at *); omega))))
  all_goals first
    | (obtain ⟨rfl, rfl⟩ := HL.out.end; refine bodyPost_ret (by simp [results, Tryz.results123, go_sem, Z]; rfl) rfl ?_; exact ⟨_, rfl, ⟨_, _, _, rfl, HW0.out _ _, HW1.out _ _, HW2.out _ _⟩, S_of B _ _⟩)
    | skip
  · have hq0 : min (n % 8).toNat x.size ≤ x.size := Nat.min_le_right _ _
    have hq1 : ((min (n % 8).toNat x.size : Nat) : Int) ≤ x.size := by omega
    have hq3 : (x.extract 0 (min (n % 8).toNat x.size)).size ≤ 1048576 := by rw [ByteArray.size_extract]; omega
    ((refine wp_region_ordU (id := 8) [(0, true), (1, true), (2, true), (3, true), (4, true), (5, true), (6, true), (7, false), (8, false), (9, true), (10, false), (11, false)] 11 (by kernel_rfl) (by kernel_rfl) ?_); (repeat (first | (refine wpOrd_quiet rfl (fun K hK => ?_); go_simp; (try simp (disch := omega) only [IntWalk.i64_in, Int.tmod_eq_emod_of_nonneg, Int.tdiv_eq_ediv_of_nonneg]); refine hK _ ?_; clear hK K) | (refine wpOrd_grow rfl (fun K hK => ?_); go_simp; (first | (((go_at_call 158; refine (spec_BroughtN _ _ _ (by omega)).mono ?_)); rintro e w' ⟨rfl, hb⟩; obtain ⟨X, rfl⟩ := hb.ext; clear hb) | (((go_at_call 157; refine (SC.use (spec_l07Lay _ (by omega) (by omega) _ (by omega) (by omega) _ (by omega)) (fun _ => True) (fun _ _ => trivial) (by first | exact HL.out | exact HL.out.last) (⟨_, _, _, rfl, by (refine ⟨?_, ?_, ?_⟩ <;> ((repeat (first | with_reducible exact HW0.out _ _ | with_reducible exact HW1.out _ _ | with_reducible exact HW2.out _ _ | with_reducible refine RdL.ext ?_ _))))⟩ : MRd _ _ _)).mono ?_)); (rintro e w' ⟨v2, x, m2, rfl, hx, hm, hb, HL2⟩); clear HL; have HL := Lib.hid HL2; clear HL2; obtain ⟨f0, g0, f1, g1, f2, g2, rfl, q0, q1, q2⟩ := hm.form; obtain ⟨X, rfl⟩ := hb.ext; have Q0 := Lib.hid q0; have Q1 := Lib.hid q1; have Q2 := Lib.hid q2; clear hm q0 q1 q2 hb)); (try go_simp); refine hK _ _ (by show Sx _ _; repeat (first | with_reducible apply Sx.more | with_reducible apply Sx.ext | with_reducible exact Sx.refl _)) ?_; clear hK K) | (refine wpOrd_tail rfl rfl (fun K hK => ?_); go_simp; refine hK _ _ ?_; clear hK K) | (refine wpOrd_grow rfl (fun K hK => ?_); go_simp; refine hK _ _ (by show Sx _ _; repeat (with_reducible exact Sx.drew _)) ?_; clear hK K))); have Q0' := Q0.out; have Q1' := Q1.out; have Q2' := Q2.out; clear Q0 Q1 Q2; (try simp only [World.ext_ext, World.drew_ext, Array.append_assoc] at Q0' Q1' Q2'); refine wpOrd_nilT w m2 f0 g0 f1 g1 f2 g2 ⟨(S_of B _ _).ofExt _, (two_ext Z _ _ _).1, (two_ext Z _ _ _).2, both_set (str_cells _) Z Q0' _ _, both_set (str_strs _) Z Q1' _ _, both_set (str_strs _) Z Q2' _ _, World.lt_of_get (two_ext Z _ _ _).2⟩ ?_; clear Q0' Q1' Q2'; rintro w3 ⟨B', P, R, q0, q1, q2, Z'⟩; (clear HW0 HW1 HW2 B Z; have e1 := setB_two P R; rw [← e1]; clear e1; have HW0 := Lib.hid (fun o r => rdl_two (str_cells _) q0 P R o r); have HW1 := Lib.hid (fun o r => rdl_two (str_strs _) q1 P R o r); have HW2 := Lib.hid (fun o r => rdl_two (str_strs _) q2 P R o r); have B := B'; have Z := Z'; (try clear Zp); have Zp := Nat.lt_of_succ_lt Z; clear B' Z' P R q0 q1 q2); (all_goals ((repeat' ((rcases HL.out.ite with ⟨hg, HL2⟩ | ⟨hg, HL2⟩ <;> (clear HL; have HL := Lib.hid HL2; clear HL2)))))))
    (repeat (first | go_skip | go_guarded | go_step | go_upon | go_back))
    rename Int => sz
    have hs0 : n / 8 + 1 = (((n / 8).toNat + 1 : Nat) : Int) := by omega
    rw [hs0]
    have hcnt : (sz.toNat + 7) / 8 - ((n / 8).toNat + 1) = (sz.toNat + 7) / 8 - ((n / 8).toNat + 1) := rfl
    clear hs0
    have hsb : (n / 8).toNat + 1 ≤ 200 := by omega
    generalize (n / 8).toNat + 1 = s at HL hcnt hsb ⊢
    generalize hcd : (sz.toNat + 7) / 8 - s = cnt at HL
    clear hcnt
    have hlen : (List.range' s cnt).length = cnt := List.length_range'
    go_loopw [9] (fun k wr => ∃ (i : Nat) (m1 : MachD), k = .int .i64 ((s + i : Nat) : Int) ∧ i ≤ cnt ∧ MBx w wr m1 ∧ Lft (Mp.each (fun p : Nat => K.lay (K.blockKey id (p : Int)) ⟨#[]⟩) ((List.range' s cnt).drop i) >>= fun _ => K.setNum (K.sizeKey id) n >>= fun _ => pure (0 : Int)) m1 (res, mres)) (fun k _ => cnt - ((intOf k).toNat - s))
    case atStart => exact ⟨0, _, rfl, Nat.zero_le _, (⟨_, _, _, _, _, _, S_of B _ _, (two_at Z _ _).1, (two_at Z _ _).2, HW0.out _ _, HW1.out _ _, HW2.out _ _⟩ : MBx _ _ _), HL.out⟩
    case round =>
      clear HL
      obtain ⟨i, m1, rfl, hi, hbx, hl⟩ := hrel
      obtain ⟨b0, d0, b1, d1, b2, d2, B', P, R, q0, q1, q2⟩ := hbx
      have Z' := World.lt_of_get R
      (clear HW0 HW1 HW2 B Z; have e1 := setB_two P R; rw [← e1]; clear e1; have HW0 := Lib.hid (fun o r => rdl_two (str_cells _) q0 P R o r); have HW1 := Lib.hid (fun o r => rdl_two (str_strs _) q1 P R o r); have HW2 := Lib.hid (fun o r => rdl_two (str_strs _) q2 P R o r); have B := B'; have Z := Z'; (try clear Zp); have Zp := Nat.lt_of_succ_lt Z; clear B' Z' P R q0 q1 q2; (try simp only []))
      by_cases hlt : i < cnt
      case pos =>
        have hl2 := hl.eachB_at (by rw [hlen]; exact hlt)
        rw [List.getElem_range', Nat.one_mul] at hl2
        have HL := Lib.hid hl2
        clear hl hl2
        have hpl : ((s + i : Nat) : Int) * 8 < sz := by omega
        have hpb : ((s + i : Nat) : Int) ≤ 400 := by omega
        generalize hpp : s + i = pl at HL hpl hpb ⊢
        (repeat (first | go_skip | go_guarded | go_step | go_upon | go_back))
        ((refine wp_region_ordU (id := 11) [(0, true), (1, true), (2, true), (3, false), (4, false), (5, false)] 5 (by kernel_rfl) (by kernel_rfl) ?_); (repeat (first | (refine wpOrd_quiet rfl (fun K hK => ?_); go_simp; refine hK _ ?_; clear hK K) | (refine wpOrd_grow rfl (fun K hK => ?_); go_simp; (first | (((go_at_call 159; refine (spec_l07Block _ _ _ (by omega) (by omega) (by omega) (by omega)).mono ?_)); rintro e w' ⟨rfl, hb⟩; obtain ⟨X, rfl⟩ := hb.ext; clear hb) | (((go_at_call 118; refine (SC.use (spec_l04Lay _ _) (fun _ => True) (fun _ _ => trivial) (by first | exact HL.out | exact HL.out.last) (⟨_, _, _, rfl, by (refine ⟨?_, ?_, ?_⟩ <;> ((repeat (first | with_reducible exact HW0.out _ _ | with_reducible exact HW1.out _ _ | with_reducible exact HW2.out _ _ | with_reducible refine RdL.ext ?_ _))))⟩ : MRd _ _ _)).mono ?_)); (rintro e w' ⟨v2, x, m2, rfl, hx, hm, hb, HL2⟩); clear HL; have HL := Lib.hid HL2; clear HL2; obtain ⟨f0, g0, f1, g1, f2, g2, rfl, q0, q1, q2⟩ := hm.form; obtain ⟨X, rfl⟩ := hb.ext; have Q0 := Lib.hid q0; have Q1 := Lib.hid q1; have Q2 := Lib.hid q2; clear hm q0 q1 q2 hb)); (try go_simp); refine hK _ _ (by show Sx _ _; repeat (first | with_reducible apply Sx.more | with_reducible apply Sx.ext | with_reducible exact Sx.refl _)) ?_; clear hK K) | (refine wpOrd_tail rfl rfl (fun K hK => ?_); go_simp; refine hK _ _ ?_; clear hK K))); have Q0' := Q0.out; have Q1' := Q1.out; have Q2' := Q2.out; clear Q0 Q1 Q2; (try simp only [World.ext_ext, World.drew_ext, Array.append_assoc] at Q0' Q1' Q2'); refine wpOrd_nilT w m2 f0 g0 f1 g1 f2 g2 ⟨(S_of B _ _).ofExt _, (two_ext Z _ _ _).1, (two_ext Z _ _ _).2, both_set (str_cells _) Z Q0' _ _, both_set (str_strs _) Z Q1' _ _, both_set (str_strs _) Z Q2' _ _, World.lt_of_get (two_ext Z _ _ _).2⟩ ?_; clear Q0' Q1' Q2'; rintro w3 ⟨B', P, R, q0, q1, q2, Z'⟩; (clear HW0 HW1 HW2 B Z; have e1 := setB_two P R; rw [← e1]; clear e1; have HW0 := Lib.hid (fun o r => rdl_two (str_cells _) q0 P R o r); have HW1 := Lib.hid (fun o r => rdl_two (str_strs _) q1 P R o r); have HW2 := Lib.hid (fun o r => rdl_two (str_strs _) q2 P R o r); have B := B'; have Z := Z'; (try clear Zp); have Zp := Nat.lt_of_succ_lt Z; clear B' Z' P R q0 q1 q2); (all_goals ((repeat' ((rcases HL.out.ite with ⟨hg, HL2⟩ | ⟨hg, HL2⟩ <;> (clear HL; have HL := Lib.hid HL2; clear HL2)))))))
        (repeat (first | go_skip | go_guarded | go_step | go_upon | go_back))
        go_roundw
        case rel => exact ⟨i + 1, m2, by have : s + (i + 1) = pl + 1 := by omega
                                         rw [this]; go_num, by omega, (⟨_, _, _, _, _, _, S_of B _ _, (two_at Z _ _).1, (two_at Z _ _).2, HW0.out _ _, HW1.out _ _, HW2.out _ _⟩ : MBx _ _ _), HL.out⟩
        case measure => simp [intOf]; omega
      case neg =>
        have HL := Lib.hid (hl.eachB_end (by rw [hlen]; omega))
        clear hl
        have hpl : ¬ ((s + i : Nat) : Int) * 8 < sz := by omega
        have hpb : ((s + i : Nat) : Int) ≤ 400 := by omega
        generalize hpp : s + i = pl at HL hpl hpb ⊢
        (repeat (first | go_skip | go_guarded | go_step | go_upon | go_back))
        ((refine wp_region_ordU (id := 13) [(0, true), (1, true), (3, true), (2, false), (4, false), (5, false), (6, false)] 5 (by kernel_rfl) (by kernel_rfl) ?_); (repeat (first | (refine wpOrd_quiet rfl (fun K hK => ?_); go_simp; refine hK _ ?_; clear hK K) | (refine wpOrd_grow rfl (fun K hK => ?_); go_simp; (first | (((go_at_call 117; refine (spec_KeyNum _ _ _ _ (by first | omega | decide) (by first | omega | decide) (by omega) (by omega)).mono ?_)); rintro e w' ⟨rfl, hb⟩; obtain ⟨X, rfl⟩ := hb.ext; clear hb) | (((go_at_call 116; refine (SC.use (spec_l05SetNum _ _ (by omega) (by omega)) (fun _ => True) (fun _ _ => trivial) (by first | exact HL.out | exact HL.out.last) (⟨_, _, _, rfl, by (refine ⟨?_, ?_, ?_⟩ <;> ((repeat (first | with_reducible exact HW0.out _ _ | with_reducible exact HW1.out _ _ | with_reducible exact HW2.out _ _ | with_reducible refine RdL.ext ?_ _))))⟩ : MRd _ _ _)).mono ?_)); (rintro e w' ⟨v2, x, m2, rfl, hx, hm, hb, HL2⟩); clear HL; have HL := Lib.hid HL2; clear HL2; obtain ⟨f0, g0, f1, g1, f2, g2, rfl, q0, q1, q2⟩ := hm.form; obtain ⟨X, rfl⟩ := hb.ext; have Q0 := Lib.hid q0; have Q1 := Lib.hid q1; have Q2 := Lib.hid q2; clear hm q0 q1 q2 hb)); (try go_simp); refine hK _ _ (by show Sx _ _; repeat (first | with_reducible apply Sx.more | with_reducible apply Sx.ext | with_reducible exact Sx.refl _)) ?_; clear hK K) | (refine wpOrd_tail rfl rfl (fun K hK => ?_); go_simp; refine hK _ _ ?_; clear hK K))); have Q0' := Q0.out; have Q1' := Q1.out; have Q2' := Q2.out; clear Q0 Q1 Q2; (try simp only [World.ext_ext, World.drew_ext, Array.append_assoc] at Q0' Q1' Q2'); refine wpOrd_nilT w m2 f0 g0 f1 g1 f2 g2 ⟨(S_of B _ _).ofExt _, (two_ext Z _ _ _).1, (two_ext Z _ _ _).2, both_set (str_cells _) Z Q0' _ _, both_set (str_strs _) Z Q1' _ _, both_set (str_strs _) Z Q2' _ _, World.lt_of_get (two_ext Z _ _ _).2⟩ ?_; clear Q0' Q1' Q2'; rintro w3 ⟨B', P, R, q0, q1, q2, Z'⟩; (clear HW0 HW1 HW2 B Z; have e1 := setB_two P R; rw [← e1]; clear e1; have HW0 := Lib.hid (fun o r => rdl_two (str_cells _) q0 P R o r); have HW1 := Lib.hid (fun o r => rdl_two (str_strs _) q1 P R o r); have HW2 := Lib.hid (fun o r => rdl_two (str_strs _) q2 P R o r); have B := B'; have Z := Z'; (try clear Zp); have Zp := Nat.lt_of_succ_lt Z; clear B' Z' P R q0 q1 q2); (all_goals ((repeat' ((rcases HL.out.ite with ⟨hg, HL2⟩ | ⟨hg, HL2⟩ <;> (clear HL; have HL := Lib.hid HL2; clear HL2)))))))
        (repeat (first | go_skip | go_guarded | go_step | go_upon | go_back))
        all_goals (obtain ⟨rfl, rfl⟩ := HL.out.end; refine bodyPost_ret (by simp [results, Tryz.results123, go_sem, Z]; rfl) rfl ?_; exact ⟨_, rfl, ⟨_, _, _, rfl, HW0.out _ _, HW1.out _ _, HW2.out _ _⟩, S_of B _ _⟩)
  · skip
    rename Int => sz
    have hs0 : n / 8 = (((n / 8).toNat : Nat) : Int) := by omega
    rw [hs0]
    have hcnt : (sz.toNat + 7) / 8 - ((n / 8).toNat) = (sz.toNat + 7) / 8 - ((n / 8).toNat) := rfl
    clear hs0
    have hsb : (n / 8).toNat ≤ 200 := by omega
    generalize (n / 8).toNat = s at HL hcnt hsb ⊢
    generalize hcd : (sz.toNat + 7) / 8 - s = cnt at HL
    clear hcnt
    have hlen : (List.range' s cnt).length = cnt := List.length_range'
    go_loopw [9] (fun k wr => ∃ (i : Nat) (m1 : MachD), k = .int .i64 ((s + i : Nat) : Int) ∧ i ≤ cnt ∧ MBx w wr m1 ∧ Lft (Mp.each (fun p : Nat => K.lay (K.blockKey id (p : Int)) ⟨#[]⟩) ((List.range' s cnt).drop i) >>= fun _ => K.setNum (K.sizeKey id) n >>= fun _ => pure (0 : Int)) m1 (res, mres)) (fun k _ => cnt - ((intOf k).toNat - s))
    case atStart => exact ⟨0, _, rfl, Nat.zero_le _, (⟨_, _, _, _, _, _, S_of B _ _, (two_at Z _ _).1, (two_at Z _ _).2, HW0.out _ _, HW1.out _ _, HW2.out _ _⟩ : MBx _ _ _), HL.out⟩
    case round =>
      clear HL
      obtain ⟨i, m1, rfl, hi, hbx, hl⟩ := hrel
      obtain ⟨b0, d0, b1, d1, b2, d2, B', P, R, q0, q1, q2⟩ := hbx
      have Z' := World.lt_of_get R
      (clear HW0 HW1 HW2 B Z; have e1 := setB_two P R; rw [← e1]; clear e1; have HW0 := Lib.hid (fun o r => rdl_two (str_cells _) q0 P R o r); have HW1 := Lib.hid (fun o r => rdl_two (str_strs _) q1 P R o r); have HW2 := Lib.hid (fun o r => rdl_two (str_strs _) q2 P R o r); have B := B'; have Z := Z'; (try clear Zp); have Zp := Nat.lt_of_succ_lt Z; clear B' Z' P R q0 q1 q2; (try simp only []))
      by_cases hlt : i < cnt
      case pos =>
        have hl2 := hl.eachB_at (by rw [hlen]; exact hlt)
        rw [List.getElem_range', Nat.one_mul] at hl2
        have HL := Lib.hid hl2
        clear hl hl2
        have hpl : ((s + i : Nat) : Int) * 8 < sz := by omega
        have hpb : ((s + i : Nat) : Int) ≤ 400 := by omega
        generalize hpp : s + i = pl at HL hpl hpb ⊢
        (repeat (first | go_skip | go_guarded | go_step | go_upon | go_back))
        ((refine wp_region_ordU (id := 11) [(0, true), (1, true), (2, true), (3, false), (4, false), (5, false)] 5 (by kernel_rfl) (by kernel_rfl) ?_); (repeat (first | (refine wpOrd_quiet rfl (fun K hK => ?_); go_simp; refine hK _ ?_; clear hK K) | (refine wpOrd_grow rfl (fun K hK => ?_); go_simp; (first | (((go_at_call 159; refine (spec_l07Block _ _ _ (by omega) (by omega) (by omega) (by omega)).mono ?_)); rintro e w' ⟨rfl, hb⟩; obtain ⟨X, rfl⟩ := hb.ext; clear hb) | (((go_at_call 118; refine (SC.use (spec_l04Lay _ _) (fun _ => True) (fun _ _ => trivial) (by first | exact HL.out | exact HL.out.last) (⟨_, _, _, rfl, by (refine ⟨?_, ?_, ?_⟩ <;> ((repeat (first | with_reducible exact HW0.out _ _ | with_reducible exact HW1.out _ _ | with_reducible exact HW2.out _ _ | with_reducible refine RdL.ext ?_ _))))⟩ : MRd _ _ _)).mono ?_)); (rintro e w' ⟨v2, x, m2, rfl, hx, hm, hb, HL2⟩); clear HL; have HL := Lib.hid HL2; clear HL2; obtain ⟨f0, g0, f1, g1, f2, g2, rfl, q0, q1, q2⟩ := hm.form; obtain ⟨X, rfl⟩ := hb.ext; have Q0 := Lib.hid q0; have Q1 := Lib.hid q1; have Q2 := Lib.hid q2; clear hm q0 q1 q2 hb)); (try go_simp); refine hK _ _ (by show Sx _ _; repeat (first | with_reducible apply Sx.more | with_reducible apply Sx.ext | with_reducible exact Sx.refl _)) ?_; clear hK K) | (refine wpOrd_tail rfl rfl (fun K hK => ?_); go_simp; refine hK _ _ ?_; clear hK K))); have Q0' := Q0.out; have Q1' := Q1.out; have Q2' := Q2.out; clear Q0 Q1 Q2; (try simp only [World.ext_ext, World.drew_ext, Array.append_assoc] at Q0' Q1' Q2'); refine wpOrd_nilT w m2 f0 g0 f1 g1 f2 g2 ⟨(S_of B _ _).ofExt _, (two_ext Z _ _ _).1, (two_ext Z _ _ _).2, both_set (str_cells _) Z Q0' _ _, both_set (str_strs _) Z Q1' _ _, both_set (str_strs _) Z Q2' _ _, World.lt_of_get (two_ext Z _ _ _).2⟩ ?_; clear Q0' Q1' Q2'; rintro w3 ⟨B', P, R, q0, q1, q2, Z'⟩; (clear HW0 HW1 HW2 B Z; have e1 := setB_two P R; rw [← e1]; clear e1; have HW0 := Lib.hid (fun o r => rdl_two (str_cells _) q0 P R o r); have HW1 := Lib.hid (fun o r => rdl_two (str_strs _) q1 P R o r); have HW2 := Lib.hid (fun o r => rdl_two (str_strs _) q2 P R o r); have B := B'; have Z := Z'; (try clear Zp); have Zp := Nat.lt_of_succ_lt Z; clear B' Z' P R q0 q1 q2); (all_goals ((repeat' ((rcases HL.out.ite with ⟨hg, HL2⟩ | ⟨hg, HL2⟩ <;> (clear HL; have HL := Lib.hid HL2; clear HL2)))))))
        (repeat (first | go_skip | go_guarded | go_step | go_upon | go_back))
        go_roundw
        case rel => exact ⟨i + 1, m2, by have : s + (i + 1) = pl + 1 := by omega
                                         rw [this]; go_num, by omega, (⟨_, _, _, _, _, _, S_of B _ _, (two_at Z _ _).1, (two_at Z _ _).2, HW0.out _ _, HW1.out _ _, HW2.out _ _⟩ : MBx _ _ _), HL.out⟩
        case measure => simp [intOf]; omega
      case neg =>
        have HL := Lib.hid (hl.eachB_end (by rw [hlen]; omega))
        clear hl
        have hpl : ¬ ((s + i : Nat) : Int) * 8 < sz := by omega
        have hpb : ((s + i : Nat) : Int) ≤ 400 := by omega
        generalize hpp : s + i = pl at HL hpl hpb ⊢
        (repeat (first | go_skip | go_guarded | go_step | go_upon | go_back))
        ((refine wp_region_ordU (id := 13) [(0, true), (1, true), (3, true), (2, false), (4, false), (5, false), (6, false)] 5 (by kernel_rfl) (by kernel_rfl) ?_); (repeat (first | (refine wpOrd_quiet rfl (fun K hK => ?_); go_simp; refine hK _ ?_; clear hK K) | (refine wpOrd_grow rfl (fun K hK => ?_); go_simp; (first | (((go_at_call 117; refine (spec_KeyNum _ _ _ _ (by first | omega | decide) (by first | omega | decide) (by omega) (by omega)).mono ?_)); rintro e w' ⟨rfl, hb⟩; obtain ⟨X, rfl⟩ := hb.ext; clear hb) | (((go_at_call 116; refine (SC.use (spec_l05SetNum _ _ (by omega) (by omega)) (fun _ => True) (fun _ _ => trivial) (by first | exact HL.out | exact HL.out.last) (⟨_, _, _, rfl, by (refine ⟨?_, ?_, ?_⟩ <;> ((repeat (first | with_reducible exact HW0.out _ _ | with_reducible exact HW1.out _ _ | with_reducible exact HW2.out _ _ | with_reducible refine RdL.ext ?_ _))))⟩ : MRd _ _ _)).mono ?_)); (rintro e w' ⟨v2, x, m2, rfl, hx, hm, hb, HL2⟩); clear HL; have HL := Lib.hid HL2; clear HL2; obtain ⟨f0, g0, f1, g1, f2, g2, rfl, q0, q1, q2⟩ := hm.form; obtain ⟨X, rfl⟩ := hb.ext; have Q0 := Lib.hid q0; have Q1 := Lib.hid q1; have Q2 := Lib.hid q2; clear hm q0 q1 q2 hb)); (try go_simp); refine hK _ _ (by show Sx _ _; repeat (first | with_reducible apply Sx.more | with_reducible apply Sx.ext | with_reducible exact Sx.refl _)) ?_; clear hK K) | (refine wpOrd_tail rfl rfl (fun K hK => ?_); go_simp; refine hK _ _ ?_; clear hK K))); have Q0' := Q0.out; have Q1' := Q1.out; have Q2' := Q2.out; clear Q0 Q1 Q2; (try simp only [World.ext_ext, World.drew_ext, Array.append_assoc] at Q0' Q1' Q2'); refine wpOrd_nilT w m2 f0 g0 f1 g1 f2 g2 ⟨(S_of B _ _).ofExt _, (two_ext Z _ _ _).1, (two_ext Z _ _ _).2, both_set (str_cells _) Z Q0' _ _, both_set (str_strs _) Z Q1' _ _, both_set (str_strs _) Z Q2' _ _, World.lt_of_get (two_ext Z _ _ _).2⟩ ?_; clear Q0' Q1' Q2'; rintro w3 ⟨B', P, R, q0, q1, q2, Z'⟩; (clear HW0 HW1 HW2 B Z; have e1 := setB_two P R; rw [← e1]; clear e1; have HW0 := Lib.hid (fun o r => rdl_two (str_cells _) q0 P R o r); have HW1 := Lib.hid (fun o r => rdl_two (str_strs _) q1 P R o r); have HW2 := Lib.hid (fun o r => rdl_two (str_strs _) q2 P R o r); have B := B'; have Z := Z'; (try clear Zp); have Zp := Nat.lt_of_succ_lt Z; clear B' Z' P R q0 q1 q2); (all_goals ((repeat' ((rcases HL.out.ite with ⟨hg, HL2⟩ | ⟨hg, HL2⟩ <;> (clear HL; have HL := Lib.hid HL2; clear HL2)))))))
        (repeat (first | go_skip | go_guarded | go_step | go_upon | go_back))
        all_goals (obtain ⟨rfl, rfl⟩ := HL.out.end; refine bodyPost_ret (by simp [results, Tryz.results123, go_sem, Z]; rfl) rfl ?_; exact ⟨_, rfl, ⟨_, _, _, rfl, HW0.out _ _, HW1.out _ _, HW2.out _ _⟩, S_of B _ _⟩)
end Go.Proofs.YtieenbnmfaekiaaGreatDoor
