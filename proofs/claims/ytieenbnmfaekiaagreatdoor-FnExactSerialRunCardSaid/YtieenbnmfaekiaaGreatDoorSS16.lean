/- Texts of this claim, merged: the walks and what they stand on. Each condition stands in its theorem. -/
import Derived.Test.YtieenbnmfaekiaaGreatDoorSS15
set_option linter.unusedVariables false
set_option linter.unusedSimpArgs false
set_option maxRecDepth 100000
set_option maxHeartbeats 8000000
namespace Go.Proofs.YtieenbnmfaekiaaGreatDoor
def wG (text : List UInt8) (a b place : Nat) (old : List UInt8) (i : Nat) : List UInt8 :=
 (List.range' (max a (place * 8)) (min b (place * 8 + i) - max a (place * 8))).foldl (fun l k => K.setAt l (k - place * 8) (text.getD (k - a) 0)) old
theorem wG_zero (text : List UInt8) (a b place : Nat) (old : List UInt8) : wG text a b place old 0 = old := by
 unfold wG
 rw [show min b (place * 8 + 0) - max a (place * 8) = 0 by omega]
 rfl
theorem wG_end (text : List UInt8) (a b place : Nat) (old : List UInt8) : wG text a b place old 8 = K.wBlock text a b place old := rfl
theorem wG_no {text : List UInt8} {a b place : Nat} {old : List UInt8} {i : Nat} (h : place * 8 + i < a ∨ b ≤ place * 8 + i) : wG text a b place old (i + 1) = wG text a b place old i := by
 unfold wG
 rw [show min b (place * 8 + (i + 1)) - max a (place * 8) = min b (place * 8 + i) - max a (place * 8) by omega]
theorem wG_yes {text : List UInt8} {a b place : Nat} {old : List UInt8} {i : Nat} (h1 : a ≤ place * 8 + i) (h2 : place * 8 + i < b) : wG text a b place old (i + 1) = K.setAt (wG text a b place old i) i (text.getD (place * 8 + i - a) 0) := by
 unfold wG
 rw [show min b (place * 8 + (i + 1)) - max a (place * 8) = (min b (place * 8 + i) - max a (place * 8)) + 1 by omega, List.range'_concat, List.foldl_append]
 simp only [List.foldl_cons, List.foldl_nil]
 rw [show max a (place * 8) + 1 * (min b (place * 8 + i) - max a (place * 8)) = place * 8 + i by omega, show place * 8 + i - place * 8 = i by omega]
theorem zeros_snoc (l : List UInt8) (j : Nat) : l ++ List.replicate (j + 1) 0 = (l ++ List.replicate j 0) ++ [0] := by
 rw [List.replicate_succ', List.append_assoc]
theorem setAt_zeros {l : List UInt8} {i j : Nat} (c : UInt8) (h1 : i < l.length + j) (h2 : ∀ k, k < j → l.length + k ≤ i) : (l ++ List.replicate j 0).set i c = K.setAt l i c := by
 unfold K.setAt
 by_cases hj : j = 0
 ·subst hj
  rw [show i + 1 - l.length = 0 by omega]
 ·have := h2 (j - 1) (by omega)
  rw [show i + 1 - l.length = j by omega]
theorem setAt_length (l : List UInt8) (i : Nat) (c : UInt8) : (K.setAt l i c).length = max l.length (i + 1) := by
 unfold K.setAt
 rw [List.length_set, List.length_append, List.length_replicate]
 omega
theorem wG_length {text : List UInt8} {a b place : Nat} {old : List UInt8} {n : Nat} (h : old.length ≤ n) (hn : 8 ≤ n) : ∀ i, i ≤ 8 → (wG text a b place old i).length ≤ n
 | 0, _ => by rw [wG_zero]; exact h
 | i + 1, hi => by
  have ih := wG_length (text := text) (a := a) (b := b) (place := place) h hn i (by omega)
  by_cases h1 : a ≤ place * 8 + i ∧ place * 8 + i < b
  ·rw [wG_yes h1.1 h1.2, setAt_length]
   omega
  ·rw [wG_no (by omega)]
   exact ih
end Go.Proofs.YtieenbnmfaekiaaGreatDoor
namespace Go
open Go.ChangeShapes Go.WideShapes Go.ChangeAt Go.RowKit
theorem ownB_setA {e : TypeId} {w : World} {B g n cap k : Nat} {l : List UInt8} {c : UInt8} (h : OwnB e w B (.slice (some ⟨g, 0, none⟩) n cap) l) (hk : k < l.length) :
  (∃ u, w.cell? ⟨g, k, none⟩ = some u) ∧ w.frozen? ⟨g, k, none⟩ = false ∧ OwnB e (w.setCell ⟨g, k, none⟩ (.int .u8 (c.toNat : Int))) B (.slice (some ⟨g, 0, none⟩) n cap) (l.set k c) := by
 rcases h with ⟨hv, _⟩ | ⟨g', cap', cur, fz, hv, h1, h2, h3, h4, h5, h6, h7⟩
 ·cases hv
 ·cases hv
  have hkc : k < cur.size := by omega
  refine ⟨⟨cur[k], by simp [World.cell?, h2, hkc]⟩, ?_, .inr ⟨g, cap, cur.setIfInBounds k (.int .u8 (c.toNat : Int)), fz, by rw [List.length_set], h1, ?_, by simpa using h3, by rw [List.length_set]; exact h4, h5, by simpa using h6, ?_⟩⟩
  ·rcases h3 with rfl | h3
   ·simp [World.frozen?, h2]
   ·obtain ⟨lo, hi⟩ := fz
    simp only [World.frozen?, h2, Bool.and_eq_false_iff, decide_eq_false_iff_not]
    left
    simp only at h3
    omega
  ·rw [setCell_eq_setRow w g k cur e fz _ h2]
   exact setRow_heap w g cur _ e _ h2
  ·rw [List.length_set, Array.toList_setIfInBounds, List.take_set, h7]
   unfold bytesOf
   rw [List.map_set]
end Go
namespace Go.Proofs.YtieenbnmfaekiaaGreatDoor
open Go.ChangeShapes Go.WideShapes Go.ChangeAt Go.RowKit
def lenV : Value → Nat
 | .slice _ n _ => n
 | _ => 0
theorem rdl_bytes2 {e : TypeId} {w : World} {B : Nat} {v : Value} {l : List UInt8} (h : OwnB e w B v l) {p : Nat} (hp : p + 1 < B) (o r : Obj) : Sl ((w.setB (p + 1) r).setB p o) v l.length (bytesOf l) := by
 have h1 := Sl.setB h.sl (fun hk => by have := (h.lt _ hk).1; omega) r (p := p + 1)
 exact Sl.setB h1 (fun hk => by have := (h.lt _ hk).1; omega) o
theorem MBx.past {w wb wr : World} {m : MachD} (h : MBx w wb m) (hb : Below wb.heap.size wb wr) : MBx w wr m := by
 obtain ⟨b0, d0, b1, d1, b2, d2, B, P, R, q0, q1, q2⟩ := h
 exact ⟨b0, d0, b1, d1, b2, d2, Below.then B hb, (Grew.below hb _ (World.lt_of_get P)).trans P, (Grew.below hb _ (World.lt_of_get R)).trans R, q0.below hb, q1.below hb, q2.below hb⟩
theorem spec_l07WriteFile (id : Int) (id0 : -9223372036854775808 ≤ id) (id1 : id ≤ 9223372036854775807) (a : Int) (aa0 : -9223372036854775808 ≤ a) (aa1 : a ≤ 9223372036854775807) (text : ByteArray) (textz : text.size ≤ 1048576) : SC 122 (fun x => #[x, .int .i64 id, .int .i64 a, .string text]) (K.writeFile id a text) (fun v' r => .tuple #[v', .int .i64 r]) := by
  refine SCgo (fun w m a0 c0 a1 c1 a2 c2 res mres H0 H1 H2 HL => ?_)
  unfold K.writeFile at HL
  simp only [Mp.ite_bind, Mp.pure_bind] at HL
  by_cases he : text.size = 0
  case' pos => (have hs := text_no he; obtain ⟨rfl, ht⟩ := hs; have hz0 : (⟨#[]⟩ : ByteArray).size = 0 := rfl)
  case' neg => (have hs := text_is he; obtain ⟨hp, ht⟩ := hs)
  all_goals (go_enter Tryz.func122, Tryz.ntmps122; ((repeat (first | ((with_reducible refine opqM2 w (.cells #[.slice a0 m.cells.length c0, .slice a1 m.rd.length c1, .slice a2 m.wr.length c2] 60) (.cells #[.slice none 0 0, .slice none 0 0, .slice none 0 0] 60) ?_ ?_); (· with_reducible exact box_first w (.cells #[.slice a0 m.cells.length c0, .slice a1 m.rd.length c1, .slice a2 m.wr.length c2] 60) (.cells #[.slice none 0 0, .slice none 0 0, .slice none 0 0] 60) (by repeat (first | with_reducible exact Below.refl _ _ | with_reducible apply Below.ofAlloc)))) | go_skip | go_guarded | go_step | go_upon | go_back)); (rintro w1 ⟨B, P, R⟩; have Z := World.lt_of_get R; have e1 := setB_two P R; rw [← e1]; have HW0 := Lib.hid (fun o r => H0.out.below (S_of B o r)); have HW1 := Lib.hid (fun o r => H1.out.below (S_of B o r)); have HW2 := Lib.hid (fun o r => H2.out.below (S_of B o r)); have Zp := Nat.lt_of_succ_lt Z; clear e1 P R H0 H1 H2; ((repeat' ((rcases HL.out.ite with ⟨hg, HL2⟩ | ⟨hg, HL2⟩ <;> (clear HL; have HL := Lib.hid HL2; clear HL2))))))))
  all_goals (repeat (first | go_skip | go_guarded | go_step | go_upon | go_back))
  all_goals (((((go_at_call 155; refine (SC.use (spec_l07SizeFile _ (by omega) (by omega)) (fun a => 0 ≤ a ∧ a ≤ 999) (fun m _ => num_bd _ m) (by first | exact HL.out | exact HL.out.last) (⟨_, _, _, rfl, HW0.out _ _, HW1.out _ _, HW2.out _ _⟩ : MRd _ _ _)).mono ?_)); (rintro e w2 ⟨v2, x, m2, rfl, hx, hm, hb, HL2⟩); (obtain ⟨b0, d0, b1, d1, b2, d2, rfl, q0, q1, q2⟩ := hm.form; obtain ⟨B', P, R, Z', Zx⟩ := box_later B Z hb; clear Zx; clear hm hb; (clear HW0 HW1 HW2 B Z; have e1 := setB_two P R; rw [← e1]; clear e1; have HW0 := Lib.hid (fun o r => rdl_two (str_cells _) q0 P R o r); have HW1 := Lib.hid (fun o r => rdl_two (str_strs _) q1 P R o r); have HW2 := Lib.hid (fun o r => rdl_two (str_strs _) q2 P R o r); have B := B'; have Z := Z'; (try clear Zp); have Zp := Nat.lt_of_succ_lt Z; clear B' Z' P R q0 q1 q2; (try simp only [])); clear HL; have HL := Lib.hid HL2; clear HL2; (all_goals ((repeat' ((rcases HL.out.ite with ⟨hg, HL2⟩ | ⟨hg, HL2⟩ <;> (clear HL; have HL := Lib.hid HL2; clear HL2; try first | (exfalso; omega) | (have hgz : _ ∨ _ := hg; clear hg; rcases hgz with hg | hg <;> (skip)) | (have hgz := not_or.1 hg; clear hg; obtain ⟨hg, hgo⟩ := hgz; try replace hgo := Decidable.not_not.1 hgo)))))))))))
  all_goals by_cases hr : 0 ≤ a ∧ a ≤ x
  all_goals (try (exfalso; omega))
  all_goals (repeat' (first | go_skip | go_guarded | go_step | go_upon | go_back | ((((go_at_call 112; refine (spec_l01In _ _ _ _).mono ?_); rintro e w2 ⟨rfl, rfl⟩; (try simp only []); (try rw [HN.out]); (try rw [HM.out]); (try simp (disch := omega) only [inB_yes, inB_no])))) | (refine wp_region_ordU (id := 23) [(0, true), (1, true), (3, true), (2, false), (4, false), (5, false)] 5 (by kernel_rfl) (by kernel_rfl) ?_; (repeat (fail)); have Q0' := Q0.out; have Q1' := Q1.out; have Q2' := Q2.out; clear Q0 Q1 Q2; refine wpOrd_nilT w m2 f0 g0 f1 g1 f2 g2 ⟨(S_of B _ _).ofExt _, (two_ext Z _ _ _).1, (two_ext Z _ _ _).2, both_set (str_cells _) Z Q0' _ _, both_set (str_strs _) Z Q1' _ _, both_set (str_strs _) Z Q2' _ _, World.lt_of_get (two_ext Z _ _ _).2⟩ ?_; clear Q0' Q1' Q2'; rintro w3 ⟨B', P, R, q0, q1, q2, Z'⟩; (clear HW0 HW1 HW2 B Z; have e1 := setB_two P R; rw [← e1]; clear e1; have HW0 := Lib.hid (fun o r => rdl_two (str_cells _) q0 P R o r); have HW1 := Lib.hid (fun o r => rdl_two (str_strs _) q1 P R o r); have HW2 := Lib.hid (fun o r => rdl_two (str_strs _) q2 P R o r); have B := B'; have Z := Z'; (try clear Zp); have Zp := Nat.lt_of_succ_lt Z; clear B' Z' P R q0 q1 q2); (all_goals ((repeat' ((rcases HL.out.ite with ⟨hg, HL2⟩ | ⟨hg, HL2⟩ <;> (clear HL; have HL := Lib.hid HL2; clear HL2))))))) | (exfalso; (simp only [bne_eq_false_iff_eq, beq_eq_false_iff_ne, beq_iff_eq, bne_iff_ne] at *); omega)))
  all_goals first
    | (obtain ⟨rfl, rfl⟩ := HL.out.end; refine bodyPost_ret (by simp [results, Tryz.results122, go_sem, Z]; rfl) rfl ?_; exact ⟨_, rfl, ⟨_, _, _, rfl, HW0.out _ _, HW1.out _ _, HW2.out _ _⟩, S_of B _ _⟩)
    | skip
  rename Int => sz
  obtain ⟨na, rfl⟩ := Int.eq_ofNat_of_zero_le hr.1
  rw [Int.toNat_natCast] at HL
  obtain ⟨e, hend⟩ : ∃ e : Nat, e = na + text.size := ⟨_, rfl⟩
  rw [← hend] at HL
  have he1 : (na : Int) + (text.size : Int) ≤ e ∧ (e : Int) ≤ na + text.size := by omega
  have he2 : e ≤ 64 ∧ na < e := by omega
  unfold K.places at HL
  generalize hcd : (e + 7) / 8 - na / 8 = cnt at HL
  have hlen : (List.range' (na / 8) cnt).length = cnt := List.length_range'
  have HE := Lib.hid hend
  clear hend
  go_loopw [12, 13, 14, 15, 16] (fun k u13 u14 u15 u16 wr => ∃ (i : Nat) (m1 : MachD), k = .int .i64 ((na / 8 + i : Nat) : Int) ∧ i ≤ cnt ∧ MBx w wr m1 ∧ Lft (Mp.each (K.writeBlock id text na e) ((List.range' (na / 8) cnt).drop i) >>= fun _ => if sz < (na : Int) + text.size then K.setNum (K.sizeKey id) ((na : Int) + text.size) >>= fun _ => pure (0 : Int) else pure 0) m1 (res, mres)) (fun k _ _ _ _ _ => cnt - ((intOf k).toNat - na / 8))
  case atStart => exact ⟨0, _, rfl, Nat.zero_le _, (⟨_, _, _, _, _, _, S_of B _ _, (two_at Z _ _).1, (two_at Z _ _).2, HW0.out _ _, HW1.out _ _, HW2.out _ _⟩ : MBx _ _ _), HL.out⟩
  case round =>
    clear HL
    obtain ⟨i, m1, rfl, hi, hbx, hl⟩ := hrel
    obtain ⟨b0, d0, b1, d1, b2, d2, B', P, R, q0, q1, q2⟩ := hbx
    have Z' := World.lt_of_get R
    (clear HW0 HW1 HW2 B Z; have e1 := setB_two P R; rw [← e1]; clear e1; have HW0 := Lib.hid (fun o r => rdl_two (str_cells _) q0 P R o r); have HW1 := Lib.hid (fun o r => rdl_two (str_strs _) q1 P R o r); have HW2 := Lib.hid (fun o r => rdl_two (str_strs _) q2 P R o r); have B := B'; have Z := Z'; (try clear Zp); have Zp := Nat.lt_of_succ_lt Z; clear B' Z' P R q0 q1 q2; (try simp only []))
    by_cases hlt : i < cnt
    case neg =>
      have HL := Lib.hid (hl.eachB_end (by rw [hlen]; omega))
      clear hl
      have hpl : ¬ ((na / 8 + i : Nat) : Int) * 8 < e := by omega
      have hpb : ((na / 8 + i : Nat) : Int) ≤ 400 := by omega
      generalize hpp : na / 8 + i = pl at HL hpl hpb ⊢
      ((repeat' ((rcases HL.out.ite with ⟨hg, HL2⟩ | ⟨hg, HL2⟩ <;> (clear HL; have HL := Lib.hid HL2; clear HL2)))))
      all_goals (repeat (first | go_skip | go_guarded | go_step | go_upon | go_back))
      all_goals (try (refine wp_region_ordU (id := 23) [(0, true), (1, true), (3, true), (2, false), (4, false), (5, false)] 5 (by kernel_rfl) (by kernel_rfl) ?_; (repeat (first | (refine wpOrd_quiet rfl (fun K hK => ?_); go_simp; refine hK _ ?_; clear hK K) | (refine wpOrd_grow rfl (fun K hK => ?_); go_simp; (first | ((go_at_call 117; refine (spec_KeyNum _ _ _ _ (by first | omega | decide) (by first | omega | decide) (by omega) (by omega)).mono ?_); rintro e w' ⟨rfl, hb⟩; obtain ⟨X, rfl⟩ := hb.ext; clear hb) | (((go_at_call 116; refine (SC.use (spec_l05SetNum _ _ (by omega) (by omega)) (fun _ => True) (fun _ _ => trivial) (by first | exact HL.out | exact HL.out.last) (⟨_, _, _, rfl, by (refine ⟨?_, ?_, ?_⟩ <;> ((repeat (first | with_reducible exact HW0.out _ _ | with_reducible exact HW1.out _ _ | with_reducible exact HW2.out _ _ | with_reducible refine RdL.ext ?_ _))))⟩ : MRd _ _ _)).mono ?_)); (rintro e w' ⟨v2, x, m2, rfl, hx, hm, hb, HL2⟩); clear HL; have HL := Lib.hid HL2; clear HL2; obtain ⟨f0, g0, f1, g1, f2, g2, rfl, q0, q1, q2⟩ := hm.form; obtain ⟨X, rfl⟩ := hb.ext; have Q0 := Lib.hid q0; have Q1 := Lib.hid q1; have Q2 := Lib.hid q2; clear hm q0 q1 q2 hb)); (try go_simp); refine hK _ _ (by show Sx _ _; repeat (first | with_reducible apply Sx.more | with_reducible apply Sx.ext | with_reducible exact Sx.refl _)) ?_; clear hK K) | (refine wpOrd_tail rfl rfl (fun K hK => ?_); go_simp; refine hK _ _ ?_; clear hK K))); have Q0' := Q0.out; have Q1' := Q1.out; have Q2' := Q2.out; clear Q0 Q1 Q2; (try simp only [World.ext_ext, World.drew_ext, Array.append_assoc] at Q0' Q1' Q2'); refine wpOrd_nilT w m2 f0 g0 f1 g1 f2 g2 ⟨(S_of B _ _).ofExt _, (two_ext Z _ _ _).1, (two_ext Z _ _ _).2, both_set (str_cells _) Z Q0' _ _, both_set (str_strs _) Z Q1' _ _, both_set (str_strs _) Z Q2' _ _, World.lt_of_get (two_ext Z _ _ _).2⟩ ?_; clear Q0' Q1' Q2'; rintro w3 ⟨B', P, R, q0, q1, q2, Z'⟩; (clear HW0 HW1 HW2 B Z; have e1 := setB_two P R; rw [← e1]; clear e1; have HW0 := Lib.hid (fun o r => rdl_two (str_cells _) q0 P R o r); have HW1 := Lib.hid (fun o r => rdl_two (str_strs _) q1 P R o r); have HW2 := Lib.hid (fun o r => rdl_two (str_strs _) q2 P R o r); have B := B'; have Z := Z'; (try clear Zp); have Zp := Nat.lt_of_succ_lt Z; clear B' Z' P R q0 q1 q2); (all_goals ((repeat' ((rcases HL.out.ite with ⟨hg, HL2⟩ | ⟨hg, HL2⟩ <;> (clear HL; have HL := Lib.hid HL2; clear HL2))))))))
      all_goals (repeat (first | go_skip | go_guarded | go_step | go_upon | go_back))
      all_goals (obtain ⟨rfl, rfl⟩ := HL.out.end; refine bodyPost_ret (by simp [results, Tryz.results122, go_sem, Z]; rfl) rfl ?_; exact ⟨_, rfl, ⟨_, _, _, rfl, HW0.out _ _, HW1.out _ _, HW2.out _ _⟩, S_of B _ _⟩)
    case pos =>
      have hl2 := hl.eachB_at (by rw [hlen]; exact hlt)
      rw [List.getElem_range', Nat.one_mul] at hl2
      unfold K.writeBlock at hl2
      rw [Mp.bind_assoc] at hl2
      have HL := Lib.hid hl2
      clear hl hl2
      have hpl : ((na / 8 + i : Nat) : Int) * 8 < e := by omega
      have hpb : ((na / 8 + i : Nat) : Int) ≤ 400 := by omega
      generalize hpp : na / 8 + i = pl at HL hpl hpb ⊢
      (repeat (first | go_skip | go_guarded | go_step | go_upon | go_back))
      (((((go_at_call 156; refine (SC.use (spec_l07BlockOf _ (by omega) (by omega) _ (by omega) (by omega)) (fun a => a.size ≤ 20000) (fun m _ => unhexT_size _) (by first | exact HL.out | exact HL.out.last) (⟨_, _, _, rfl, HW0.out _ _, HW1.out _ _, HW2.out _ _⟩ : MRd _ _ _)).mono ?_)); (rintro e w2 ⟨v2, x, m2, rfl, hx, hm, hb, HL2⟩); (obtain ⟨b0, d0, b1, d1, b2, d2, rfl, q0, q1, q2⟩ := hm.form; obtain ⟨B', P, R, Z', Zx⟩ := box_later B Z hb; clear Zx; clear hm hb; (clear HW0 HW1 HW2 B Z; have e1 := setB_two P R; rw [← e1]; clear e1; have HW0 := Lib.hid (fun o r => rdl_two (str_cells _) q0 P R o r); have HW1 := Lib.hid (fun o r => rdl_two (str_strs _) q1 P R o r); have HW2 := Lib.hid (fun o r => rdl_two (str_strs _) q2 P R o r); have B := B'; have Z := Z'; (try clear Zp); have Zp := Nat.lt_of_succ_lt Z; clear B' Z' P R q0 q1 q2; (try simp only [])); clear HL; have HL := Lib.hid HL2; clear HL2; (all_goals ((repeat' ((rcases HL.out.ite with ⟨hg, HL2⟩ | ⟨hg, HL2⟩ <;> (clear HL; have HL := Lib.hid HL2; clear HL2))))))))))
      obtain ⟨wb, hwb⟩ : ∃ wb : World, wb = ((w2.setB (w.heap.size + 1) (.cells #[.slice none 0 0, .slice none 0 0, .slice none 0 0] 60)).setB w.heap.size (.cells #[.slice b0 m2.cells.length d0, .slice b1 m2.rd.length d1, .slice b2 m2.wr.length d2] 60)) := ⟨_, rfl⟩
      obtain ⟨bv, w6, hcv, hob, hbw⟩ := conv_bytes wb x (by omega)
      have HMB : Hid (MBx w wb m2) := by rw [hwb]; exact (⟨_, _, _, _, _, _, S_of B _ _, (two_at Z _ _).1, (two_at Z _ _).2, HW0.out _ _, HW1.out _ _, HW2.out _ _⟩ : MBx _ _ _)
      rw [hwb] at hcv
      (repeat (first | go_skip | go_guarded | go_step | go_upon | go_back))
      clear hcv
      have hxl : x.data.toList.length ≤ 20000 := by simpa using hx
      have hzt : text.data.toList.length = text.size := by simp
      go_loopw [14, 15, 16] (fun o k u16 wr => ∃ (j : Nat), k = .int .i64 j ∧ j ≤ 8 ∧ OwnB 5 wr wb.heap.size o (wG text.data.toList na e pl x.data.toList j) ∧ Below wb.heap.size wb wr) (fun _ k _ _ => 8 - (intOf k).toNat)
      case atStart => exact ⟨0, rfl, Nat.zero_le _, by rw [wG_zero]; exact hob, hbw⟩
      case round =>
        clear hob hbw
        obtain ⟨j, rfl, hj, hob, hbw⟩ := hrel
        have hwl := wG_length (text := text.data.toList) (a := na) (b := e) (place := pl) (old := x.data.toList) (n := 20000) hxl (by decide) j hj
        by_cases hj8 : (j : Int) < 8
        case neg =>
          have HOB := Lib.hid hob
          have HBW := Lib.hid hbw
          clear hob hbw
          obtain rfl : j = 8 := by omega
          have hbx := MBx.past HMB.out HBW.out
          obtain ⟨b0, d0, b1, d1, b2, d2, B', P, R, q0, q1, q2⟩ := hbx
          have Z' := World.lt_of_get R
          have hc : ∀ o r, Sem.run Tryz.prog (convert 78 9 _) ((_ : World).setB (w.heap.size + 1) r |>.setB w.heap.size o) = .ok (.string (strOf (wG text.data.toList na e pl x.data.toList 8))) _ := fun o r => run_string_of (P := Tryz.prog) _ Tryz.byteTQ Tryz.underlying9 (rdl_bytes2 HOB.out (show w.heap.size + 1 < wb.heap.size from by obtain ⟨_, _, _, _, _, _, _, _, hR, _⟩ := HMB.out; exact World.lt_of_get hR) o r)
          have hwz : (strOf (wG text.data.toList na e pl x.data.toList 8)).size ≤ 1048576 := by rw [strOf_size]; omega
          have hwe := wG_end text.data.toList na e pl x.data.toList
          rw [← hwe] at HL
          clear hwe
          (clear HW0 HW1 HW2 B Z; have e1 := setB_two P R; rw [← e1]; clear e1; have HW0 := Lib.hid (fun o r => rdl_two (str_cells _) q0 P R o r); have HW1 := Lib.hid (fun o r => rdl_two (str_strs _) q1 P R o r); have HW2 := Lib.hid (fun o r => rdl_two (str_strs _) q2 P R o r); have B := B'; have Z := Z'; (try clear Zp); have Zp := Nat.lt_of_succ_lt Z; clear B' Z' P R q0 q1 q2; (try simp only []))
          generalize wG text.data.toList na e pl x.data.toList 8 = bl at HL HOB hc hwz hwl
          (repeat (first | go_skip | go_guarded | go_step | go_upon | go_back))
          (((((go_at_call 157; refine (SC.use (spec_l07Lay _ (by omega) (by omega) _ (by omega) (by omega) _ (by omega)) (fun _ => True) (fun _ _ => trivial) (by first | exact HL.out | exact HL.out.last) (⟨_, _, _, rfl, HW0.out _ _, HW1.out _ _, HW2.out _ _⟩ : MRd _ _ _)).mono ?_)); (rintro e w2 ⟨v2, x, m2, rfl, hx, hm, hb, HL2⟩); (obtain ⟨b0, d0, b1, d1, b2, d2, rfl, q0, q1, q2⟩ := hm.form; obtain ⟨B', P, R, Z', Zx⟩ := box_later B Z hb; clear Zx; clear hm hb; (clear HW0 HW1 HW2 B Z; have e1 := setB_two P R; rw [← e1]; clear e1; have HW0 := Lib.hid (fun o r => rdl_two (str_cells _) q0 P R o r); have HW1 := Lib.hid (fun o r => rdl_two (str_strs _) q1 P R o r); have HW2 := Lib.hid (fun o r => rdl_two (str_strs _) q2 P R o r); have B := B'; have Z := Z'; (try clear Zp); have Zp := Nat.lt_of_succ_lt Z; clear B' Z' P R q0 q1 q2; (try simp only [])); clear HL; have HL := Lib.hid HL2; clear HL2; (all_goals ((repeat' ((rcases HL.out.ite with ⟨hg, HL2⟩ | ⟨hg, HL2⟩ <;> (clear HL; have HL := Lib.hid HL2; clear HL2))))))))))
          (repeat (first | go_skip | go_guarded | go_step | go_upon | go_back))
          exact ⟨⟨i + 1, m2, by have : na / 8 + (i + 1) = pl + 1 := by omega
                                rw [this]; go_num, by omega, (⟨_, _, _, _, _, _, S_of B _ _, (two_at Z _ _).1, (two_at Z _ _).2, HW0.out _ _, HW1.out _ _, HW2.out _ _⟩ : MBx _ _ _), HL.out⟩, by simp [intOf]; omega⟩
        case pos =>
          by_cases k1 : (pl : Int) * 8 + j < na
          case pos =>
            have HG := Lib.hid (wG_no (text := text.data.toList) (a := na) (b := e) (place := pl) (old := x.data.toList) (i := j) (.inl (by omega)))
            have HOB := Lib.hid hob
            have HBW := Lib.hid hbw
            clear hob hbw
            (repeat (first | go_skip | go_guarded | go_step | go_upon | go_back))
            go_roundw
            case rel => exact ⟨j + 1, by go_num, by omega, by rw [HG.out]; exact HOB.out, HBW.out⟩
            case measure => simp [intOf]; omega
          case neg =>
            by_cases k2 : (e : Int) ≤ (pl : Int) * 8 + j
            case pos =>
              have HG := Lib.hid (wG_no (text := text.data.toList) (a := na) (b := e) (place := pl) (old := x.data.toList) (i := j) (.inr (by omega)))
              have HOB := Lib.hid hob
              have HBW := Lib.hid hbw
              clear hob hbw
              (repeat (first | go_skip | go_guarded | go_step | go_upon | go_back))
              go_roundw
              case rel => exact ⟨j + 1, by go_num, by omega, by rw [HG.out]; exact HOB.out, HBW.out⟩
              case measure => simp [intOf]; omega
            case neg =>
              have HG := Lib.hid (wG_yes (text := text.data.toList) (a := na) (b := e) (place := pl) (old := x.data.toList) (i := j) (by omega) (by omega))
              generalize wG text.data.toList na e pl x.data.toList j = l at hob hwl HG
              have HOB := Lib.hid hob
              have HBW := Lib.hid hbw
              clear hob hbw
              (repeat (first | go_skip | go_guarded | go_step | go_upon | go_back))
              generalize hbq : decide ((pl : Int) * 8 < (na : Int) + (text.size : Int)) = bq
              have HBQ := Lib.hid hbq
              clear hbq
              go_loopw [14] (fun o wr => ∃ z : Nat, OwnB 5 wr wb.heap.size o (l ++ List.replicate z 0) ∧ Below wb.heap.size wb wr ∧ ∀ k, k < z → l.length + k ≤ j) (fun o _ => j + 1 - lenV o)
              case atStart => exact ⟨0, by rw [List.replicate_zero, List.append_nil]; exact HOB.out, HBW.out, fun k hk => absurd hk (Nat.not_lt_zero _)⟩
              case round =>
                obtain ⟨z, hob, hbw, hz⟩ := hrel
                obtain ⟨oa, oc, rfl⟩ := hob.form
                have hzl : l.length + z ≤ 20009 := by
                  rcases Nat.eq_zero_or_pos z with h0 | h0
                  · omega
                  · have := hz (z - 1) (by omega)
                    omega
                have hll : (l ++ List.replicate z (0 : UInt8)).length = l.length + z := by simp
                have HZ := Lib.hid hz
                clear hz
                have HOB := Lib.hid hob
                have HBW := Lib.hid hbw
                clear hob hbw
                have HS := Lib.hid (zeros_snoc l z)
                by_cases hle : ((l.length + z : Nat) : Int) ≤ j
                case pos =>
                  have hle2 : (((l ++ List.replicate z (0 : UInt8)).length : Nat) : Int) ≤ j := by rw [hll]; exact hle
                  have hyl : (l ++ List.replicate z (0 : UInt8)).length ≤ 20009 := by rw [hll]; exact hzl
                  have HLL := Lib.hid hll
                  clear hll
                  generalize hys : l ++ List.replicate z (0 : UInt8) = ys at HOB HS HLL hyl hle2 ⊢
                  clear hys
                  go_wp2_with (at_builtin; refine Stop.here ?_)
                  refine wpList_appB _ Tryz.byteTQ rfl (.tmp 76) (.tmp 77) rfl (B := wb.heap.size) (l := ys) (m := [0]) (HOB.out.alloc _) rfl (Sl.lit1 _ 0 0 rfl _ _ rfl) rfl (by simp; omega) (by have := HBW.out.size; simp; omega) ?_
                  intro v7 w7 hown hg
                  have HB7 := Lib.hid (Below.appB (HBW.out.ofAlloc _) hg (HOB.out.alloc _))
                  have HO7 := Lib.hid hown
                  have hl7 : lenV v7 = ys.length + 1 := by
                    obtain ⟨_, _, rfl⟩ := hown.form
                    simp [lenV]
                  clear hown hg
                  ((try simp only []); repeat (first | go_skip | go_guarded | go_step | go_upon | go_back))
                  go_roundw
                  case rel => exact ⟨z + 1, by rw [HS.out]; exact HO7.out, HB7.out, fun k hk => by have h1 := HZ.out k; omega⟩
                  case measure => rw [hl7]; simp [lenV]; omega
                case neg =>
                  have HSA := Lib.hid (setAt_zeros (l := l) (i := j) (j := z) (text.data.toList.getD (pl * 8 + j - na) 0) (by omega) (fun k hk => HZ.out k hk))
                  have hjl : j < (l ++ List.replicate z (0 : UInt8)).length := by rw [hll]; omega
                  have hyl : (l ++ List.replicate z (0 : UInt8)).length ≤ 20009 := by rw [hll]; exact hzl
                  clear HZ HS hll hle
                  generalize l ++ List.replicate z (0 : UInt8) = ys at HOB HSA hjl hyl ⊢
                  obtain ⟨g, cap, hv⟩ : ∃ g cap, Value.slice oa ys.length oc = Value.slice (some ⟨g, 0, none⟩) ys.length cap := by
                    rcases HOB.out with ⟨_, he⟩ | ⟨g, cap, cur, fz, hv, _⟩
                    · rw [he] at hjl; cases hjl
                    · exact ⟨g, cap, hv⟩
                  cases hv
                  have hgp := (HOB.out.lt g rfl).1
                  obtain ⟨⟨u, hu⟩, hfr, hset⟩ := ownB_setA (k := j) (c := text.data.toList.getD (pl * 8 + j - na) 0) HOB.out hjl
                  have HSET := Lib.hid hset
                  clear hset
                  have htx : ((pl : Int) * 8 + j) - na < text.size := by omega
                  have htx0 : (0 : Int) ≤ ((pl : Int) * 8 + j) - na := by omega
                  have hjy : (j : Int) < ys.length := by omega
                  obtain ⟨ti, hti⟩ : ∃ ti : Nat, (ti : Int) = ((pl : Int) * 8 + j) - na := ⟨pl * 8 + j - na, by omega⟩
                  have hti2 : pl * 8 + j - na = ti := by omega
                  have htl : ti < text.size := by omega
                  have hgd : (text.data.toList.getD ti 0) = text[ti] := by
                    rw [List.getD_eq_getElem?_getD, List.getElem?_eq_getElem (by simpa using htl)]
                    rfl
                  rw [hti2, hgd] at HSET HSA HG
                  have hw : ((pl : Int) * 8 + j) - na = ti := hti.symm
                  clear hti hti2 hgd htx htx0
                  (repeat (first | go_skip | go_guarded | go_step | go_upon | go_back))
                  obtain rfl := HBQ.out
                  go_roundw
                  case rel => exact ⟨j + 1, by go_num, by omega, by rw [HG.out, ← HSA.out]; exact HSET.out, HBW.out.setCell (p := ⟨g, j, none⟩) hgp _⟩
                  case measure => simp [intOf]; omega
structure BW (wr : World) where
 w : World
 b : Below wr.heap.size wr w
instance (wr : World) : Nonempty (BW wr) := ⟨⟨wr, Below.refl _ _⟩⟩
theorem wG_low (text : List UInt8) (a b place : Nat) (old : List UInt8) (i : Nat) (h : place * 8 + i ≤ max a (place * 8)) : wG text a b place old i = old := by
 unfold wG
 rw [show min b (place * 8 + i) - max a (place * 8) = 0 by omega]
 rfl
theorem wG_top (text : List UInt8) (a b place : Nat) (old : List UInt8) (i : Nat) (h : min b (place * 8 + i) = min b (place * 8 + 8)) : wG text a b place old i = K.wBlock text a b place old := by
 rw [← wG_end]
 unfold wG
 rw [h]
theorem impl_writeFile (id : Int) (id0 : -9223372036854775808 ≤ id) (id1 : id ≤ 9223372036854775807) (a : Int) (aa0 : -9223372036854775808 ≤ a) (aa1 : a ≤ 9223372036854775807) (text : ByteArray) (textz : text.size ≤ 1048576) : IC 98 (fun x => #[x, .int .i64 id, .int .i64 a, .string text]) (K.writeFile id a text) (fun r => .int .i64 r) := by
  refine ICgo (fun w0 w fp mb m res mres HM HT HL => ?_)
  unfold K.writeFile at HL
  simp only [Mp.ite_bind, Mp.pure_bind] at HL
  by_cases he : text.size = 0
  case' pos => (have hs := text_no he; obtain ⟨rfl, ht⟩ := hs; have hz0 : (⟨#[]⟩ : ByteArray).size = 0 := rfl)
  case' neg => (have hs := text_is he; obtain ⟨hp, ht⟩ := hs)
  all_goals (go_enter Tryz.func98, Tryz.ntmps98; (try simp only []))
  all_goals (repeat (first | go_skip | go_guarded | go_step | go_upon | go_back))
  all_goals (((((go_at_call 145; refine (impl_sizeKey _ (by omega) (by omega) _ HM.out.globs).mono ?_)); rintro e w2 ⟨rfl, hb⟩; (replace HM := Lib.hid (HM.out.below hb); replace HT := Lib.hid (HT.out.trans (IT.below hb)); clear hb; (try simp only [])))))
  all_goals (repeat (first | go_skip | go_guarded | go_step | go_upon | go_back))
  all_goals (((((go_at_call 84; refine (IC.use (impl_num _) (fun a => 0 ≤ a ∧ a ≤ 999) (fun m _ => num_bd _ m) (by first | exact HL.out | exact HL.out.last) HM.out).mono ?_)); (rintro e w2 ⟨x, m2, fp2, rfl, hx, hm, ht, HL2⟩); (replace HM := Lib.hid hm; replace HT := Lib.hid (HT.out.trans ht); clear hm ht; clear HL; have HL := Lib.hid HL2; clear HL2; (try simp only []); (all_goals ((repeat' ((rcases HL.out.ite with ⟨hg, HL2⟩ | ⟨hg, HL2⟩ <;> (clear HL; have HL := Lib.hid HL2; clear HL2; try first | (exfalso; omega) | (have hgz : _ ∨ _ := hg; clear hg; rcases hgz with hg | hg <;> (skip)) | (have hgz := not_or.1 hg; clear hg; obtain ⟨hg, hgo⟩ := hgz; try replace hgo := Decidable.not_not.1 hgo)))))))))))
  all_goals by_cases hr : 0 ≤ a ∧ a ≤ x
  all_goals (try (exfalso; omega))
  all_goals (repeat' (first | go_skip | go_guarded | go_step | go_upon | go_back | ((((go_at_call 86; refine (impl_within _ _ _ _).mono ?_); rintro e w2 ⟨rfl, rfl⟩; (try simp only []); (try rw [HN.out]); (try rw [HP.out]); (try simp (disch := omega) only [inB_yes, inB_no])))) | (exfalso; (simp only [bne_eq_false_iff_eq, beq_eq_false_iff_ne, beq_iff_eq, bne_iff_ne] at *); omega)))
  all_goals first
    | (obtain ⟨rfl, rfl⟩ := HL.out.end; refine bodyPost_ret (by simp [results, Tryz.results98, go_sem]; rfl) rfl ?_; exact ⟨rfl, _, HM.out, HT.out⟩)
    | skip
  rename Int => sz
  obtain ⟨na, rfl⟩ := Int.eq_ofNat_of_zero_le hr.1
  rw [Int.toNat_natCast] at HL
  obtain ⟨e, hend⟩ : ∃ e : Nat, e = na + text.size := ⟨_, rfl⟩
  rw [← hend] at HL
  have hE : (na : Int) + (text.size : Int) = (e : Int) := by omega
  have he2 : e ≤ 64 ∧ na < e := by omega
  have hl0 := HL.out
  rw [hE] at hl0 ⊢
  clear HL
  unfold K.places at hl0
  generalize hcd : (e + 7) / 8 - na / 8 = cnt at hl0
  have HL := Lib.hid hl0
  clear hl0
  have hlen : (List.range' (na / 8) cnt).length = cnt := List.length_range'
  have HE := Lib.hid hend
  clear hend hE
  go_loopw [11, 12, 13, 14] (fun k _ _ _ wr => ∃ (i : Nat) (m1 : MachD) (fp1 : List Nat), k = .int .i64 ((na / 8 + i : Nat) : Int) ∧ i ≤ cnt ∧ IM w0 wr mb fp1 m1 ∧ IT w fp wr fp1 ∧ Lft (Mp.each (K.writeBlock id text na e) ((List.range' (na / 8) cnt).drop i) >>= fun _ => if sz < (e : Int) then K.setNum (K.sizeKey id) (e : Int) >>= fun _ => pure (0 : Int) else pure 0) m1 (res, mres)) (fun k _ _ _ _ => cnt - ((intOf k).toNat - na / 8))
  case atStart => exact ⟨0, _, _, rfl, Nat.zero_le _, HM.out, HT.out, HL.out⟩
  case round =>
    clear HL HM HT
    obtain ⟨i, m1, fp1, rfl, hi, hm, ht, hl⟩ := hrel
    have HM := Lib.hid hm
    have HT := Lib.hid ht
    clear hm ht
    by_cases hlt : i < cnt
    case neg =>
      have HL := Lib.hid (hl.eachB_end (by rw [hlen]; omega))
      clear hl
      have hpl : ¬ ((na / 8 + i : Nat) : Int) * 8 < e := by omega
      have hpb : ((na / 8 + i : Nat) : Int) ≤ 400 := by omega
      generalize hpp : na / 8 + i = pl at HL hpl hpb ⊢
      ((repeat' ((rcases HL.out.ite with ⟨hg, HL2⟩ | ⟨hg, HL2⟩ <;> (clear HL; have HL := Lib.hid HL2; clear HL2)))))
      all_goals (repeat (first | go_skip | go_guarded | go_step | go_upon | go_back))
      all_goals (try ((((((go_at_call 145; refine (impl_sizeKey _ (by omega) (by omega) _ HM.out.globs).mono ?_)); rintro e w2 ⟨rfl, hb⟩; (replace HM := Lib.hid (HM.out.below hb); replace HT := Lib.hid (HT.out.trans (IT.below hb)); clear hb; (try simp only []))))); (repeat (first | go_skip | go_guarded | go_step | go_upon | go_back)); (((((go_at_call 90; refine (IC.use (impl_setNum _ _ (by omega) (by omega)) (fun _ => True) (fun _ _ => trivial) (by first | exact HL.out | exact HL.out.last) HM.out).mono ?_)); (rintro e w2 ⟨x, m2, fp2, rfl, hx, hm, ht, HL2⟩); (replace HM := Lib.hid hm; replace HT := Lib.hid (HT.out.trans ht); clear hm ht; clear HL; have HL := Lib.hid HL2; clear HL2; (try simp only []); (all_goals ((repeat' ((rcases HL.out.ite with ⟨hg, HL2⟩ | ⟨hg, HL2⟩ <;> (clear HL; have HL := Lib.hid HL2; clear HL2)))))))))); (repeat (first | go_skip | go_guarded | go_step | go_upon | go_back))))
      all_goals (obtain ⟨rfl, rfl⟩ := HL.out.end; ((refine bodyPost_ret (by simp [results, Tryz.results98, go_sem]; rfl) rfl ?_)); exact ⟨rfl, _, HM.out, HT.out⟩)
    case pos =>
      have hl2 := hl.eachB_at (by rw [hlen]; exact hlt)
      rw [List.getElem_range', Nat.one_mul] at hl2
      unfold K.writeBlock at hl2
      rw [Mp.bind_assoc] at hl2
      have HL := Lib.hid hl2
      clear hl hl2
      have hpl : ((na / 8 + i : Nat) : Int) * 8 < e := by omega
      have hpb : ((na / 8 + i : Nat) : Int) ≤ 400 := by omega
      generalize hpp : na / 8 + i = pl at HL hpl hpb ⊢
      (repeat (first | go_skip | go_guarded | go_step | go_upon | go_back))
      (((((go_at_call 146; refine (IC.use (impl_block _ (by omega) (by omega) _ (by omega) (by omega)) (fun a => a.size ≤ 20000) (fun m _ => unhexT_size _) (by first | exact HL.out | exact HL.out.last) HM.out).mono ?_)); (rintro e w2 ⟨x, m2, fp2, rfl, hx, hm, ht, HL2⟩); (replace HM := Lib.hid hm; replace HT := Lib.hid (HT.out.trans ht); clear hm ht; clear HL; have HL := Lib.hid HL2; clear HL2; (try simp only []); (all_goals ((repeat' ((rcases HL.out.ite with ⟨hg, HL2⟩ | ⟨hg, HL2⟩ <;> (clear HL; have HL := Lib.hid HL2; clear HL2))))))))))
      obtain ⟨bv, w6, hcv, hob, hbw⟩ := conv_bytes w2 x (by omega)
      have hxl : x.data.toList.length ≤ 20000 := by simpa using hx
      have hzt : text.data.toList.length = text.size := by simp
      obtain ⟨s0, hs0⟩ : ∃ s0 : Nat, s0 = max na (pl * 8) := ⟨_, rfl⟩
      obtain ⟨te, hte⟩ : ∃ te : Nat, te = min e (pl * 8 + 8) := ⟨_, rfl⟩
      have f1 : max (na : Int) ((pl : Int) * 8) = (s0 : Int) := by omega
      have f2 : min (e : Int) ((pl : Int) * 8 + 8) = (te : Int) := by omega
      have f3 : s0 ≤ te ∧ pl * 8 ≤ s0 ∧ na ≤ s0 ∧ te ≤ e ∧ te ≤ pl * 8 + 8 := by omega
      have f4 : wG text.data.toList na e pl x.data.toList (s0 - pl * 8) = x.data.toList := wG_low _ _ _ _ _ _ (by omega)
      have f5 : wG text.data.toList na e pl x.data.toList (te - pl * 8) = K.wBlock text.data.toList na e pl x.data.toList := wG_top _ _ _ _ _ _ (by omega)
      have F4 := Lib.hid f4
      have F5 := Lib.hid f5
      clear f4 f5 hs0 hte
      (repeat (first | go_skip | go_guarded | go_step | go_upon | go_back))
      clear hcv
      go_loopw [12, 14] (fun o k wr => ∃ (t : Nat), k = .int .i64 t ∧ s0 ≤ t ∧ t ≤ te ∧ OwnB 5 wr w2.heap.size o (wG text.data.toList na e pl x.data.toList (t - pl * 8)) ∧ Below w2.heap.size w2 wr) (fun _ k _ => te - (intOf k).toNat)
      case atStart => exact ⟨s0, rfl, Nat.le_refl _, f3.1, by rw [F4.out]; exact hob, hbw⟩
      case round =>
        clear hob hbw
        obtain ⟨t, rfl, ht0, ht1, hob, hbw⟩ := hrel
        have hwl := wG_length (text := text.data.toList) (a := na) (b := e) (place := pl) (old := x.data.toList) (n := 20000) hxl (by decide) (t - pl * 8) (by omega)
        by_cases hj8 : (t : Int) < te
        case neg =>
          have HBW := Lib.hid hbw
          obtain rfl : t = te := by omega
          have hl3 := HL.out
          rw [← F5.out] at hl3
          clear HL
          have hwz : (strOf (wG text.data.toList na e pl x.data.toList (t - pl * 8))).size ≤ 1048576 := by rw [strOf_size]; omega
          generalize wG text.data.toList na e pl x.data.toList (t - pl * 8) = bl at hl3 hob hwz hwl
          have HL := Lib.hid hl3
          clear hl3
          have hc : ∀ W : BW wr, Sem.run Tryz.prog (convert 78 9 _) W.w = .ok (.string (strOf bl)) W.w := fun W => run_string_of (P := Tryz.prog) W.w Tryz.byteTQ Tryz.underlying9 (hob.sl.below W.b)
          clear hob hbw
          have HM' := Lib.hid (HM.out.below HBW.out)
          have HT' := Lib.hid (HT.out.trans (IT.below HBW.out))
          clear HM HT HBW
          have HM := HM'
          have HT := HT'
          clear HM' HT'
          (repeat (first | go_skip | go_guarded | go_step | go_upon | go_back))
          refine wp_region_ordUF (BW.w : BW wr → World) (id := 18) [(0, true), (1, true), (2, true), (4, true), (5, true), (3, false), (6, false), (7, false)] 7 (by kernel_rfl) (by kernel_rfl) ⟨⟨_, Below.drew (Below.refl _ _)⟩, rfl⟩ ?_
          have HM' := Lib.hid (HM.out.below (Below.drew (Below.refl _ _)))
          have HT' := Lib.hid (HT.out.trans (IT.below (Below.drew (Below.refl _ _))))
          clear HM HT
          have HM := HM'
          have HT := HT'
          clear HM' HT'
          have hbd : Below wr.heap.size wr wr.drew := Below.drew (Below.refl _ _)
          (refine wpOrd_quiet rfl (fun K hK => ?_); go_simp; (try simp (disch := omega) only [IntWalk.i64_in, Int.tmod_eq_emod_of_nonneg, Int.tdiv_eq_ediv_of_nonneg]); refine hK _ ?_; clear hK K)
          (refine wpOrd_quiet rfl (fun K hK => ?_); go_simp; (try simp (disch := omega) only [IntWalk.i64_in, Int.tmod_eq_emod_of_nonneg, Int.tdiv_eq_ediv_of_nonneg]); refine hK _ ?_; clear hK K)
          (refine wpOrd_quiet rfl (fun K hK => ?_); go_simp; (try simp (disch := omega) only [IntWalk.i64_in, Int.tmod_eq_emod_of_nonneg, Int.tdiv_eq_ediv_of_nonneg]); refine hK _ ?_; clear hK K)
          (refine wpOrd_quiet rfl (fun K hK => ?_); go_simp; (try simp (disch := omega) only [IntWalk.i64_in, Int.tmod_eq_emod_of_nonneg, Int.tdiv_eq_ediv_of_nonneg]); refine hK _ ?_; clear hK K)
          (refine wpOrd_quiet rfl (fun K hK => ?_); go_simp; (try simp (disch := omega) only [IntWalk.i64_in, Int.tmod_eq_emod_of_nonneg, Int.tdiv_eq_ediv_of_nonneg]); refine hK _ ?_; clear hK K)
          refine wpOrd_grow rfl (fun K hK => ?_); go_simp
          (go_at_call 147; refine (impl_blockKey _ _ (by omega) (by omega) (by omega) (by omega) _ HM.out.globs).mono ?_; rintro e1 w7 ⟨rfl, hb⟩)
          have hbd7 := Below.then hbd hb
          (have HM' := Lib.hid (HM.out.below hb); have HT' := Lib.hid (HT.out.trans (IT.below hb)); (try (have HK' := Lib.hid (HK.out.below hb); clear HK; have HK := HK'; clear HK')); (try (have HO' := Lib.hid (HO.out.below hb); clear HO; have HO := HO'; clear HO')); (try (have HC' := Lib.hid (HC.out.below hb); clear HC; have HC := HC'; clear HC')); (try (have HR' := Lib.hid (HR.out.below hb); clear HR; have HR := HR'; clear HR')); (try (have HA' := Lib.hid (HA.out.below hb); clear HA; have HA := HA'; clear HA')); clear HM HT hb; have HM := HM'; have HT := HT'; clear HM' HT'; (try simp only []))
          (try go_simp)
          refine hK _ _ ⟨⟨_, hbd7⟩, rfl⟩ ?_; clear hK K
          refine wpOrd_grow rfl (fun K hK => ?_); go_simp
          (go_at_call 102; refine (impl_hexOf _ _ (by omega)).mono ?_; rintro e1 w8 ⟨rfl, hb⟩)
          have hbd8 := Below.then hbd7 hb
          (have HM' := Lib.hid (HM.out.below hb); have HT' := Lib.hid (HT.out.trans (IT.below hb)); (try (have HK' := Lib.hid (HK.out.below hb); clear HK; have HK := HK'; clear HK')); (try (have HO' := Lib.hid (HO.out.below hb); clear HO; have HO := HO'; clear HO')); (try (have HC' := Lib.hid (HC.out.below hb); clear HC; have HC := HC'; clear HC')); (try (have HR' := Lib.hid (HR.out.below hb); clear HR; have HR := HR'; clear HR')); (try (have HA' := Lib.hid (HA.out.below hb); clear HA; have HA := HA'; clear HA')); clear HM HT hb; have HM := HM'; have HT := HT'; clear HM' HT'; (try simp only []))
          (try go_simp)
          refine hK _ _ ⟨⟨_, hbd8⟩, rfl⟩ ?_; clear hK K
          refine wpOrd_tail rfl rfl (fun K hK => ?_); go_simp
          (go_at_call 93; refine (IC.use (impl_lay _ _) (fun _ => True) (fun _ _ => trivial) HL.out HM.out).mono ?_; rintro e1 w9 ⟨x9, m2, fp2, rfl, hx, hm, ht, HL2⟩)
          (have HM' := Lib.hid hm; have HT' := Lib.hid (HT.out.trans ht); (try (have HK' := Lib.hid (HK.out.step ht); clear HK; have HK := HK'; clear HK')); (try (have HO' := Lib.hid (HO.out.step ht); clear HO; have HO := HO'; clear HO')); (try (have HC' := Lib.hid (HC.out.step ht); clear HC; have HC := HC'; clear HC')); (try (have HR' := Lib.hid (HR.out.step ht); clear HR; have HR := HR'; clear HR')); (try (have HA' := Lib.hid (HA.out.step ht); clear HA; have HA := HA'; clear HA')); clear HM HT hm ht; have HM := HM'; have HT := HT'; clear HM' HT'; (try dsimp only at HL2); clear HL; have HL := Lib.hid HL2; clear HL2; (try simp only []))
          (try go_simp)
          refine hK _ _ ?_; clear hK K
          refine wpOrd_nil ?_
          (repeat (first | go_skip | go_guarded | go_step | go_upon | go_back))
          go_roundw
          case rel => exact ⟨i + 1, _, _, by have : na / 8 + (i + 1) = pl + 1 := by omega
                                             rw [this]; go_num, by omega, HM.out, HT.out, HL.out⟩
          case measure => simp [intOf]; omega
        case pos =>
          obtain ⟨j, hj⟩ : ∃ j : Nat, j = t - pl * 8 := ⟨_, rfl⟩
          have hji : (t : Int) - (pl : Int) * 8 = (j : Int) := by omega
          have hj1 : t + 1 - pl * 8 = j + 1 := by omega
          have hj7 : j ≤ 8 := by omega
          rw [← hj] at hob hwl
          have HG := Lib.hid (wG_yes (text := text.data.toList) (a := na) (b := e) (place := pl) (old := x.data.toList) (i := j) (by omega) (by omega))
          generalize wG text.data.toList na e pl x.data.toList j = l at hob hwl HG
          obtain ⟨ti, hti⟩ : ∃ ti : Nat, (ti : Int) = (t : Int) - na := ⟨t - na, by omega⟩
          have hti2 : pl * 8 + j - na = ti := by omega
          have htl : ti < text.size := by have := HE.out; omega
          have hw : (t : Int) - na = ti := hti.symm
          have hgd : (text.data.toList.getD ti 0) = text[ti] := by
            rw [List.getD_eq_getElem?_getD, List.getElem?_eq_getElem (by simpa using htl)]
            rfl
          rw [hti2] at HG
          have HGD := Lib.hid hgd
          have HOB := Lib.hid hob
          have HBW := Lib.hid hbw
          have HJ := Lib.hid hj
          clear hob hbw hti hti2 hgd hj
          (repeat (first | go_skip | go_guarded | go_step | go_upon | go_back))
          go_loopw [12] (fun o wr => ∃ z : Nat, OwnB 5 wr w2.heap.size o (l ++ List.replicate z 0) ∧ Below w2.heap.size w2 wr ∧ ∀ k, k < z → l.length + k ≤ j) (fun o _ => j + 1 - lenV o)
          case atStart => exact ⟨0, by rw [List.replicate_zero, List.append_nil]; exact HOB.out, HBW.out, fun k hk => absurd hk (Nat.not_lt_zero _)⟩
          case round =>
            obtain ⟨z, hob, hbw, hz⟩ := hrel
            obtain ⟨oa, oc, rfl⟩ := hob.form
            have hzl : l.length + z ≤ 20009 := by
              rcases Nat.eq_zero_or_pos z with h0 | h0
              · omega
              · have := hz (z - 1) (by omega)
                omega
            have hll : (l ++ List.replicate z (0 : UInt8)).length = l.length + z := by simp
            have HZ := Lib.hid hz
            clear hz
            have HOB := Lib.hid hob
            have HBW := Lib.hid hbw
            clear hob hbw
            have HS := Lib.hid (zeros_snoc l z)
            by_cases hle : ((l.length + z : Nat) : Int) ≤ j
            case pos =>
              have hle2 : (((l ++ List.replicate z (0 : UInt8)).length : Nat) : Int) ≤ j := by rw [hll]; exact hle
              have hyl : (l ++ List.replicate z (0 : UInt8)).length ≤ 20009 := by rw [hll]; exact hzl
              have HLL := Lib.hid hll
              clear hll
              generalize hys : l ++ List.replicate z (0 : UInt8) = ys at HOB HS HLL hyl hle2 ⊢
              clear hys
              go_wp2_with (at_builtin; refine Stop.here ?_)
              refine wpList_appB _ Tryz.byteTQ rfl (.tmp 65) (.tmp 66) rfl (B := w2.heap.size) (l := ys) (m := [0]) (HOB.out.alloc _) rfl (Sl.lit1 _ 0 0 rfl _ _ rfl) rfl (by simp; omega) (by have := HBW.out.size; simp; omega) ?_
              intro v7 w7 hown hg
              have HB7 := Lib.hid (Below.appB (HBW.out.ofAlloc _) hg (HOB.out.alloc _))
              have HO7 := Lib.hid hown
              have hl7 : lenV v7 = ys.length + 1 := by
                obtain ⟨_, _, rfl⟩ := hown.form
                simp [lenV]
              clear hown hg
              ((try simp only []); repeat (first | go_skip | go_guarded | go_step | go_upon | go_back))
              go_roundw
              case rel => exact ⟨z + 1, by rw [HS.out]; exact HO7.out, HB7.out, fun k hk => by have h1 := HZ.out k; omega⟩
              case measure => rw [hl7]; simp [lenV]; omega
            case neg =>
              have HSA := Lib.hid (setAt_zeros (l := l) (i := j) (j := z) (text.data.toList.getD ti 0) (by omega) (fun k hk => HZ.out k hk))
              have hjl : j < (l ++ List.replicate z (0 : UInt8)).length := by rw [hll]; omega
              have hyl : (l ++ List.replicate z (0 : UInt8)).length ≤ 20009 := by rw [hll]; exact hzl
              clear HZ HS hll hle
              generalize l ++ List.replicate z (0 : UInt8) = ys at HOB HSA hjl hyl ⊢
              obtain ⟨g, cap, hv⟩ : ∃ g cap, Value.slice oa ys.length oc = Value.slice (some ⟨g, 0, none⟩) ys.length cap := by
                rcases HOB.out with ⟨_, he⟩ | ⟨g, cap, cur, fz, hv, _⟩
                · rw [he] at hjl; cases hjl
                · exact ⟨g, cap, hv⟩
              cases hv
              have hgp := (HOB.out.lt g rfl).1
              obtain ⟨⟨u, hu⟩, hfr, hset⟩ := ownB_setA (k := j) (c := text.data.toList.getD ti 0) HOB.out hjl
              rw [HGD.out] at hset HSA HG
              have HSET := Lib.hid hset
              clear hset
              have hjy : (j : Int) < ys.length := by omega
              (repeat (first | go_skip | go_guarded | go_step | go_upon | go_back))
              go_roundw
              case rel => exact ⟨t + 1, by go_num, by omega, by omega, by rw [hj1, HG.out, ← HSA.out]; exact HSET.out, HBW.out.setCell (p := ⟨g, j, none⟩) hgp _⟩
              case measure => simp [intOf]; omega
end Go.Proofs.YtieenbnmfaekiaaGreatDoor
