/- Texts of this claim, merged: the walks and what they stand on. Each condition stands in its theorem. -/
import Derived.Test.YtieenbnmfaekiaaGreatDoorSS11
set_option linter.unusedVariables false
set_option linter.unusedSimpArgs false
set_option maxRecDepth 100000
set_option maxHeartbeats 8000000
namespace Go.Proofs.YtieenbnmfaekiaaGreatDoor
open Go.ChangeShapes Go.WideShapes Go.ChangeAt Go.RowKit
theorem impl_procKey (id : Int) (id0 : -9223372036854775808 ≤ id) (id1 : id ≤ 9223372036854775807) (t : ByteArray) (tz : t.size ≤ 1000) (w : World) (hg : Glob w) : Calls Tryz.prog 85 #[.int .i64 id, .string t] w fun e w' => e = .returned (.string (K.procKey id t)) ∧ Below w.heap.size w w' := by
 have D := Lib.hid (impl_KeyNum ⟨#[114, 47]⟩ t id w hg (by decide) (by first | decide | omega) id0 id1)
 clear hg
 go_enter Tryz.func85, Tryz.ntmps85
 (repeat (first | go_skip | go_guarded | go_step | go_upon | go_back))
 (go_at_call 95; refine D.out.mono ?_; rintro e w1 ⟨rfl, hb1⟩)
 ((try simp only []); repeat (first | go_skip | go_guarded | go_step | go_upon | go_back))
 go_ret
 exact ⟨rfl, hb1⟩
theorem impl_pipeKey (id : Int) (id0 : -9223372036854775808 ≤ id) (id1 : id ≤ 9223372036854775807) (t : ByteArray) (tz : t.size ≤ 1000) (w : World) (hg : Glob w) : Calls Tryz.prog 100 #[.int .i64 id, .string t] w fun e w' => e = .returned (.string (K.pipeKey id t)) ∧ Below w.heap.size w w' := by
 have D := Lib.hid (impl_KeyNum ⟨#[112, 47]⟩ t id w hg (by decide) (by first | decide | omega) id0 id1)
 clear hg
 go_enter Tryz.func100, Tryz.ntmps100
 (repeat (first | go_skip | go_guarded | go_step | go_upon | go_back))
 (go_at_call 95; refine D.out.mono ?_; rintro e w1 ⟨rfl, hb1⟩)
 ((try simp only []); repeat (first | go_skip | go_guarded | go_step | go_upon | go_back))
 go_ret
 exact ⟨rfl, hb1⟩
theorem impl_signalKey (id : Int) (id0 : -9223372036854775808 ≤ id) (id1 : id ≤ 9223372036854775807) (t : ByteArray) (tz : t.size ≤ 1000) (w : World) (hg : Glob w) : Calls Tryz.prog 109 #[.int .i64 id, .string t] w fun e w' => e = .returned (.string (K.signalKey id t)) ∧ Below w.heap.size w w' := by
 have D := Lib.hid (impl_KeyNum ⟨#[103, 47]⟩ t id w hg (by decide) (by first | decide | omega) id0 id1)
 clear hg
 go_enter Tryz.func109, Tryz.ntmps109
 (repeat (first | go_skip | go_guarded | go_step | go_upon | go_back))
 (go_at_call 95; refine D.out.mono ?_; rintro e w1 ⟨rfl, hb1⟩)
 ((try simp only []); repeat (first | go_skip | go_guarded | go_step | go_upon | go_back))
 go_ret
 exact ⟨rfl, hb1⟩
theorem impl_sizeKey (id : Int) (id0 : -9223372036854775808 ≤ id) (id1 : id ≤ 9223372036854775807) (w : World) (hg : Glob w) : Calls Tryz.prog 145 #[.int .i64 id] w fun e w' => e = .returned (.string (K.sizeKey id)) ∧ Below w.heap.size w w' := by
 have D := Lib.hid (impl_KeyNum ⟨#[105, 47]⟩ ⟨#[47, 115]⟩ id w hg (by decide) (by first | decide | omega) id0 id1)
 clear hg
 go_enter Tryz.func145, Tryz.ntmps145
 (repeat (first | go_skip | go_guarded | go_step | go_upon | go_back))
 (go_at_call 95; refine D.out.mono ?_; rintro e w1 ⟨rfl, hb1⟩)
 ((try simp only []); repeat (first | go_skip | go_guarded | go_step | go_upon | go_back))
 go_ret
 exact ⟨rfl, hb1⟩
theorem impl_linksKey (id : Int) (id0 : -9223372036854775808 ≤ id) (id1 : id ≤ 9223372036854775807) (w : World) (hg : Glob w) : Calls Tryz.prog 92 #[.int .i64 id] w fun e w' => e = .returned (.string (keyNum K.nI id K.tL)) ∧ Below w.heap.size w w' := by
 have D := Lib.hid (impl_KeyNum ⟨#[105, 47]⟩ ⟨#[47, 108]⟩ id w hg (by decide) (by first | decide | omega) id0 id1)
 clear hg
 go_enter Tryz.func92, Tryz.ntmps92
 (repeat (first | go_skip | go_guarded | go_step | go_upon | go_back))
 (go_at_call 95; refine D.out.mono ?_; rintro e w1 ⟨rfl, hb1⟩)
 ((try simp only []); repeat (first | go_skip | go_guarded | go_step | go_upon | go_back))
 go_ret
 exact ⟨rfl, hb1⟩
theorem impl_pagesKey (id : Int) (id0 : -9223372036854775808 ≤ id) (id1 : id ≤ 9223372036854775807) (w : World) (hg : Glob w) : Calls Tryz.prog 104 #[.int .i64 id] w fun e w' => e = .returned (.string (K.pagesKey id)) ∧ Below w.heap.size w w' := by
 have D := Lib.hid (impl_KeyNum ⟨#[109, 47]⟩ ⟨#[47]⟩ id w hg (by decide) (by first | decide | omega) id0 id1)
 clear hg
 go_enter Tryz.func104, Tryz.ntmps104
 (repeat (first | go_skip | go_guarded | go_step | go_upon | go_back))
 (go_at_call 95; refine D.out.mono ?_; rintro e w1 ⟨rfl, hb1⟩)
 ((try simp only []); repeat (first | go_skip | go_guarded | go_step | go_upon | go_back))
 go_ret
 exact ⟨rfl, hb1⟩
theorem impl_nameKey (s : ByteArray) (hs : s.size ≤ 1048576) (w : World) : Calls Tryz.prog 91 #[.string s] w fun e w' => e = .returned (.string (K.nN ++ s)) ∧ w' = w := by
 have hc : ¬ 9223372036854775807 < 2 + s.size := by omega
 go_enter Tryz.func91, Tryz.ntmps91
 go_wp2
 go_ret
 exact ⟨rfl, rfl⟩
theorem impl_blockKey (id k : Int) (id0 : -9223372036854775808 ≤ id) (id1 : id ≤ 9223372036854775807) (k0 : -9223372036854775808 ≤ k) (k1 : k ≤ 9223372036854775807) (w : World) (hg : Glob w) :
  Calls Tryz.prog 147 #[.int .i64 id, .int .i64 k] w fun e w' => e = .returned (.string (K.blockKey id k)) ∧ Below w.heap.size w w' := by
 have hs := keyNum_size K.nI K.tB id id0 id1
 have c1 : (K.nI).size = 2 := rfl
 have c2 : (K.tB).size = 3 := rfl
 have hs2 : (keyNum K.nI id K.tB).size ≤ 1073741824 := by omega
 have D := Lib.hid (impl_KeyNum ⟨#[105, 47]⟩ ⟨#[47, 98, 47]⟩ id w hg (by decide) (by decide) id0 id1)
 have D2 := Lib.hid (fun w hg => impl_KeyNum (keyNum K.nI id K.tB) ⟨#[]⟩ k w hg hs2 (by decide) k0 k1)
 have HG := Lib.hid hg
 clear hs c1 c2 hs2 hg
 go_enter Tryz.func147, Tryz.ntmps147
 (repeat (first | go_skip | go_guarded | go_step | go_upon | go_back))
 (go_at_call 95; refine D.out.mono ?_; rintro e w1 ⟨rfl, hb1⟩)
 ((try simp only []); repeat (first | go_skip | go_guarded | go_step | go_upon | go_back))
 (go_at_call 95; refine (D2.out _ (HG.out.below hb1)).mono ?_; rintro e w2 ⟨rfl, hb2⟩)
 ((try simp only []); repeat (first | go_skip | go_guarded | go_step | go_upon | go_back))
 go_ret
 exact ⟨rfl, Below.then hb1 hb2⟩
theorem impl_setNum (k : ByteArray) (n : Int) (n0 : -9223372036854775808 ≤ n) (n1 : n ≤ 9223372036854775807) : IC 90 (fun x => #[x, .string k, .int .i64 n]) (K.setNum k n) (fun _ => .tuple #[]) := by
 refine ICgo (fun w0 w fp b m res mres HM HT HL => ?_)
 unfold K.setNum at HL
 rcases Decidable.em (1 ≤ n ∧ n ≤ 999) with hi | hi
 all_goals (first | rw [show K.numText n = strOf (Lib.itoa n) from if_pos hi] at HL | rw [show K.numText n = ⟨#[]⟩ from if_neg hi] at HL)
 ((repeat' ((rcases HL.out.ite with ⟨hg, HL2⟩ | ⟨hg, HL2⟩ <;> (clear HL; have HL := Lib.hid HL2; clear HL2)))))
 all_goals (go_enter Tryz.func90, Tryz.ntmps90; all_goals ((repeat' (first | go_skip | go_guarded | go_step | go_upon | go_back | ((first | ((go_at_call 93; refine (IC.use (impl_lay _ _) (fun _ => True) (fun _ _ => trivial) (by first | exact HL.out | exact HL.out.last) HM.out).mono ?_); (rintro e w2 ⟨x, m2, fp2, rfl, hx, hm, ht, HL2⟩); (replace HM := Lib.hid hm; replace HT := Lib.hid (HT.out.trans ht); clear hm ht; clear HL; have HL := Lib.hid HL2; clear HL2; (try simp only []); (all_goals ((repeat' ((rcases HL.out.ite with ⟨hg, HL2⟩ | ⟨hg, HL2⟩ <;> (clear HL; have HL := Lib.hid HL2; clear HL2)))))))) | ((go_at_call 86; refine (impl_within _ _ _ _).mono ?_); rintro e w2 ⟨rfl, rfl⟩; (try simp only []); (try rw [HN.out]); (try rw [HP.out]); (try simp (disch := omega) only [inB_yes, inB_no])) | ((go_at_call 56; refine (impl_Decimal _ _ (by omega) (by omega) HM.out.globs.tab).mono ?_); rintro e w2 ⟨rfl, hb⟩; (replace HM := Lib.hid (HM.out.below hb); replace HT := Lib.hid (HT.out.trans (IT.below hb)); clear hb; (try simp only []))))) | (exfalso; (simp only [bne_eq_false_iff_eq, beq_eq_false_iff_ne, beq_iff_eq, bne_iff_ne] at *); omega)))))
 all_goals (obtain ⟨rfl, rfl⟩ := HL.out.end; ((refine bodyPost_end (by simp [results, Tryz.results90, go_sem]; rfl) rfl ?_)); exact ⟨rfl, _, HM.out, HT.out⟩)
theorem impl_bump (k : ByteArray) : IC 89 (fun x => #[x, .string k]) (K.bump k) (fun n => .int .i64 n) := by
 refine ICgo (fun w0 w fp b m res mres HM HT HL => ?_)
 unfold K.bump at HL
 ((repeat' ((rcases HL.out.ite with ⟨hg, HL2⟩ | ⟨hg, HL2⟩ <;> (clear HL; have HL := Lib.hid HL2; clear HL2)))))
 all_goals (go_enter Tryz.func89, Tryz.ntmps89; all_goals ((repeat' (first | go_skip | go_guarded | go_step | go_upon | go_back | (((first | (go_at_call 90; refine (IC.use (impl_setNum _ _ (by omega) (by omega)) (fun _ => True) (fun _ _ => trivial) (by first | exact HL.out | exact HL.out.last) HM.out).mono ?_) | (go_at_call 84; refine (IC.use (impl_num _) (fun a => 0 ≤ a ∧ a ≤ 999) (fun m _ => num_bd _ m) (by first | exact HL.out | exact HL.out.last) HM.out).mono ?_)); (rintro e w2 ⟨x, m2, fp2, rfl, hx, hm, ht, HL2⟩); (replace HM := Lib.hid hm; replace HT := Lib.hid (HT.out.trans ht); clear hm ht; clear HL; have HL := Lib.hid HL2; clear HL2; (try simp only []); (all_goals ((repeat' ((rcases HL.out.ite with ⟨hg, HL2⟩ | ⟨hg, HL2⟩ <;> (clear HL; have HL := Lib.hid HL2; clear HL2))))))))) | (exfalso; (simp only [bne_eq_false_iff_eq, beq_eq_false_iff_ne, beq_iff_eq, bne_iff_ne] at *); omega)))))
 all_goals (obtain ⟨rfl, rfl⟩ := HL.out.end; ((refine bodyPost_ret (by simp [results, Tryz.results89, go_sem]; rfl) rfl ?_)); exact ⟨rfl, _, HM.out, HT.out⟩)
theorem impl_message (k : ByteArray) : IC 103 (fun x => #[x, .string k]) (K.message k) (fun t => .string t) := by
 refine ICgo (fun w0 w fp b m res mres HM HT HL => ?_)
 unfold K.message at HL
 ((repeat' ((rcases HL.out.ite with ⟨hg, HL2⟩ | ⟨hg, HL2⟩ <;> (clear HL; have HL := Lib.hid HL2; clear HL2)))))
 all_goals (go_enter Tryz.func103, Tryz.ntmps103; all_goals ((repeat' (first | go_skip | go_guarded | go_step | go_upon | go_back | ((first | ((go_at_call 105; refine (IC.use (impl_look _) (fun a => a.size ≤ 1048576) (fun m h => getC_size h.1 _) (by first | exact HL.out | exact HL.out.last) HM.out).mono ?_); (rintro e w2 ⟨x, m2, fp2, rfl, hx, hm, ht, HL2⟩); (replace HM := Lib.hid hm; replace HT := Lib.hid (HT.out.trans ht); clear hm ht; clear HL; have HL := Lib.hid HL2; clear HL2; (try simp only []); (all_goals ((repeat' ((rcases HL.out.ite with ⟨hg, HL2⟩ | ⟨hg, HL2⟩ <;> (clear HL; have HL := Lib.hid HL2; clear HL2)))))))) | ((go_at_call 149; refine (impl_messageOf _ _ HM.out.globs (by omega)).mono ?_); rintro e w2 ⟨rfl, hb⟩; (replace HM := Lib.hid (HM.out.below hb); replace HT := Lib.hid (HT.out.trans (IT.below hb)); clear hb; (try simp only []))))) | (exfalso; (simp only [bne_eq_false_iff_eq, beq_eq_false_iff_ne, beq_iff_eq, bne_iff_ne] at *); omega)))))
 all_goals (obtain ⟨rfl, rfl⟩ := HL.out.end; ((refine bodyPost_ret (by simp [results, Tryz.results103, go_sem]; rfl) rfl ?_)); exact ⟨rfl, _, HM.out, HT.out⟩)
theorem impl_block (id : Int) (id0 : -9223372036854775808 ≤ id) (id1 : id ≤ 9223372036854775807) (place : Int) (place0 : -9223372036854775808 ≤ place) (place1 : place ≤ 9223372036854775807) : IC 146 (fun x => #[x, .int .i64 id, .int .i64 place]) (K.block id place) (fun t => .string t) := by
 refine ICgo (fun w0 w fp b m res mres HM HT HL => ?_)
 unfold K.block at HL
 ((repeat' ((rcases HL.out.ite with ⟨hg, HL2⟩ | ⟨hg, HL2⟩ <;> (clear HL; have HL := Lib.hid HL2; clear HL2)))))
 all_goals (go_enter Tryz.func146, Tryz.ntmps146; all_goals ((repeat' (first | go_skip | go_guarded | go_step | go_upon | go_back | ((first | ((go_at_call 105; refine (IC.use (impl_look _) (fun a => a.size ≤ 1048576) (fun m h => getC_size h.1 _) (by first | exact HL.out | exact HL.out.last) HM.out).mono ?_); (rintro e w2 ⟨x, m2, fp2, rfl, hx, hm, ht, HL2⟩); (replace HM := Lib.hid hm; replace HT := Lib.hid (HT.out.trans ht); clear hm ht; clear HL; have HL := Lib.hid HL2; clear HL2; (try simp only []); (all_goals ((repeat' ((rcases HL.out.ite with ⟨hg, HL2⟩ | ⟨hg, HL2⟩ <;> (clear HL; have HL := Lib.hid HL2; clear HL2)))))))) | ((go_at_call 147; refine (impl_blockKey _ _ (by omega) (by omega) (by omega) (by omega) _ HM.out.globs).mono ?_); rintro e w2 ⟨rfl, hb⟩; (replace HM := Lib.hid (HM.out.below hb); replace HT := Lib.hid (HT.out.trans (IT.below hb)); clear hb; (try simp only []))) | ((go_at_call 175; refine (impl_UnhexT _ _ HM.out.globs (by omega)).mono ?_); rintro e w2 ⟨b, hun, rfl, hb⟩; (replace HM := Lib.hid (HM.out.below hb); replace HT := Lib.hid (HT.out.trans (IT.below hb)); clear hb; (try simp only []))))) | (exfalso; (simp only [bne_eq_false_iff_eq, beq_eq_false_iff_ne, beq_iff_eq, bne_iff_ne] at *); omega)))))
 all_goals (obtain ⟨rfl, rfl⟩ := HL.out.end; ((refine bodyPost_ret (by simp [results, Tryz.results146, go_sem]; rfl) rfl ?_)); exact ⟨rfl, _, HM.out, HT.out⟩)
theorem impl_state (id : Int) (id0 : -9223372036854775808 ≤ id) (id1 : id ≤ 9223372036854775807) : IC 39 (fun x => #[x, .int .i64 id]) (K.state id) (fun n => .int .i64 n) := by
 refine ICgo (fun w0 w fp b m res mres HM HT HL => ?_)
 unfold K.state at HL
 ((repeat' ((rcases HL.out.ite with ⟨hg, HL2⟩ | ⟨hg, HL2⟩ <;> (clear HL; have HL := Lib.hid HL2; clear HL2)))))
 all_goals (go_enter Tryz.func39, Tryz.ntmps39; all_goals ((repeat' (first | go_skip | go_guarded | go_step | go_upon | go_back | ((first | ((go_at_call 84; refine (IC.use (impl_num _) (fun a => 0 ≤ a ∧ a ≤ 999) (fun m _ => num_bd _ m) (by first | exact HL.out | exact HL.out.last) HM.out).mono ?_); (rintro e w2 ⟨x, m2, fp2, rfl, hx, hm, ht, HL2⟩); (replace HM := Lib.hid hm; replace HT := Lib.hid (HT.out.trans ht); clear hm ht; clear HL; have HL := Lib.hid HL2; clear HL2; (try simp only []); (all_goals ((repeat' ((rcases HL.out.ite with ⟨hg, HL2⟩ | ⟨hg, HL2⟩ <;> (clear HL; have HL := Lib.hid HL2; clear HL2)))))))) | ((go_at_call 85; refine (impl_procKey _ (by omega) (by omega) _ (by decide) _ HM.out.globs).mono ?_); rintro e w2 ⟨rfl, hb⟩; (replace HM := Lib.hid (HM.out.below hb); replace HT := Lib.hid (HT.out.trans (IT.below hb)); clear hb; (try simp only []))))) | (exfalso; (simp only [bne_eq_false_iff_eq, beq_eq_false_iff_ne, beq_iff_eq, bne_iff_ne] at *); omega)))))
 all_goals (obtain ⟨rfl, rfl⟩ := HL.out.end; ((refine bodyPost_ret (by simp [results, Tryz.results39, go_sem]; rfl) rfl ?_)); exact ⟨rfl, _, HM.out, HT.out⟩)
theorem impl_isPipe (id : Int) (id0 : -9223372036854775808 ≤ id) (id1 : id ≤ 9223372036854775807) : IC 101 (fun x => #[x, .int .i64 id]) (K.isPipe id) (fun b => .bool b) := by
 refine ICgo (fun w0 w fp b m res mres HM HT HL => ?_)
 unfold K.isPipe at HL
 ((repeat' ((rcases HL.out.ite with ⟨hg, HL2⟩ | ⟨hg, HL2⟩ <;> (clear HL; have HL := Lib.hid HL2; clear HL2)))))
 all_goals (go_enter Tryz.func101, Tryz.ntmps101; all_goals ((repeat' (first | go_skip | go_guarded | go_step | go_upon | go_back | ((first | ((go_at_call 84; refine (IC.use (impl_num _) (fun a => 0 ≤ a ∧ a ≤ 999) (fun m _ => num_bd _ m) (by first | exact HL.out | exact HL.out.last) HM.out).mono ?_); (rintro e w2 ⟨x, m2, fp2, rfl, hx, hm, ht, HL2⟩); (replace HM := Lib.hid hm; replace HT := Lib.hid (HT.out.trans ht); clear hm ht; clear HL; have HL := Lib.hid HL2; clear HL2; (try simp only []); (all_goals ((repeat' ((rcases HL.out.ite with ⟨hg, HL2⟩ | ⟨hg, HL2⟩ <;> (clear HL; have HL := Lib.hid HL2; clear HL2)))))))) | ((go_at_call 100; refine (impl_pipeKey _ (by omega) (by omega) _ (by decide) _ HM.out.globs).mono ?_); rintro e w2 ⟨rfl, hb⟩; (replace HM := Lib.hid (HM.out.below hb); replace HT := Lib.hid (HT.out.trans (IT.below hb)); clear hb; (try simp only []))))) | (exfalso; (simp only [bne_eq_false_iff_eq, beq_eq_false_iff_ne, beq_iff_eq, bne_iff_ne] at *); omega)))))
 all_goals (obtain ⟨rfl, rfl⟩ := HL.out.end; ((refine bodyPost_ret (by simp [results, Tryz.results101, go_sem]; rfl) rfl ?_)); exact ⟨rfl, _, HM.out, HT.out⟩)
theorem impl_fileOf (name : ByteArray) (namez : name.size ≤ 1048576) : IC 88 (fun x => #[x, .string name]) (K.fileOf name) (fun n => .int .i64 n) := by
 refine ICgo (fun w0 w fp b m res mres HM HT HL => ?_)
 unfold K.fileOf at HL
 have hc : ¬ 9223372036854775807 < 2 + name.size := by omega
 rcases name_cases name with ⟨hn, hz⟩ | hn
 all_goals (
  rw [hn] at HL
  have HN := Lib.hid hn; clear hn)
 all_goals ((repeat' ((rcases HL.out.ite with ⟨hg, HL2⟩ | ⟨hg, HL2⟩ <;> (clear HL; have HL := Lib.hid HL2; clear HL2; try exact absurd hg (by decide))))))
 all_goals (go_enter Tryz.func88, Tryz.ntmps88; all_goals ((repeat' (first | go_skip | go_guarded | go_step | go_upon | go_back | ((first | ((go_at_call 84; refine (IC.use (impl_num _) (fun a => 0 ≤ a ∧ a ≤ 999) (fun m _ => num_bd _ m) (by first | exact HL.out | exact HL.out.last) HM.out).mono ?_); (rintro e w2 ⟨x, m2, fp2, rfl, hx, hm, ht, HL2⟩); (replace HM := Lib.hid hm; replace HT := Lib.hid (HT.out.trans ht); clear hm ht; clear HL; have HL := Lib.hid HL2; clear HL2; (try simp only []); (all_goals ((repeat' ((rcases HL.out.ite with ⟨hg, HL2⟩ | ⟨hg, HL2⟩ <;> (clear HL; have HL := Lib.hid HL2; clear HL2)))))))) | ((first | (go_at_call 91; refine (impl_nameKey _ (by omega) _).mono ?_) | (go_at_call 87; refine (impl_NameOk _ _ (by omega)).mono ?_)); rintro e w2 ⟨rfl, rfl⟩; (try simp only []); (try rw [HN.out]); (try rw [HP.out])))) | (exfalso; (simp only [bne_eq_false_iff_eq, beq_eq_false_iff_ne, beq_iff_eq, bne_iff_ne] at *); omega)))))
 all_goals (obtain ⟨rfl, rfl⟩ := HL.out.end; ((refine bodyPost_ret (by simp [results, Tryz.results88, go_sem]; rfl) rfl ?_)); exact ⟨rfl, _, HM.out, HT.out⟩)
theorem IM.upon {w0 w w' : World} {fp fs : List Nat} {b : Nat} {m : MachD} (h : IM w0 w b fp m) (hu : Upon fs w w') (hn : ∀ j ∈ fs, j ∉ fp) (hB : ∀ j ∈ fs, w0.heap.size ≤ j) : IM w0 w' b fp m := by
 obtain ⟨⟨a0, c0, a1, c1, a2, c2, h0, h1, h2, h3, hd, f0, f1, f2⟩, pin, lo, hi, bel, glob⟩ := h
 exact ⟨⟨a0, c0, a1, c1, a2, c2, (hu.block b (World.lt_of_get h0) (fun hx => hn b hx pin)).trans h0, own_upon h1 hu (fun k hk hx => hn k hx (f0 k hk)), own_upon h2 hu (fun k hk hx => hn k hx (f1 k hk)), own_upon h3 hu (fun k hk hx => hn k hx (f2 k hk)), hd, f0, f1, f2⟩, pin, lo, fun j hj => Nat.lt_of_lt_of_le (hi j hj) hu.size,
  ⟨hu.os.trans bel.os, hu.tape.trans bel.tape, hu.output.trans bel.output, Nat.le_trans bel.size hu.size, fun k hk => (hu.block k (Nat.lt_of_lt_of_le hk bel.size) (fun hx => by have := hB k hx; omega)).trans (bel.block k hk)⟩, glob⟩
theorem IT.upon {w w1 w2 : World} {fp fp1 fs : List Nat} (h : IT w fp w1 fp1) (hu : Upon fs w1 w2) (hB : ∀ j ∈ fs, w.heap.size ≤ j) : IT w fp w2 fp1 :=
 ⟨⟨hu.os.trans h.up.os, hu.tape.trans h.up.tape, hu.output.trans h.up.output, Nat.le_trans h.up.size hu.size, fun k hk hn => (hu.block k (Nat.lt_of_lt_of_le hk h.up.size) (fun hx => by have := hB k hx; omega)).trans (h.up.block k hk hn)⟩, h.sub⟩
theorem KL.upon {α : Type} {R : RowOf α} {e : TypeId} {w w' : World} {B : Nat} {fp fs : List Nat} {v : Value} {ks : List α} (h : KL R e w B fp v ks) (hu : Upon fs w w') (hn : ∀ j, v.ownBlock = some j → j ∉ fs) : KL R e w' B fp v ks := ⟨own_upon h.1 hu hn, h.2⟩
def ICL {α : Type} (R : RowOf α) (e : TypeId) (f : FuncId) (args : Value → Array Value) (p : Mp (List α)) : Prop :=
 ∀ (w0 w : World) (fp : List Nat) (b : Nat) (m : MachD), IM w0 w b fp m → p.fits m →
  Calls Tryz.prog f (args (.pointer (some ⟨b, 0, none⟩))) w fun en w' => ∃ vs, en = .returned vs ∧ ∃ fp', IM w0 w' b fp' (p.run m).2 ∧ IT w fp w' fp' ∧ KL R e w' w.heap.size fp' vs (p.run m).1
theorem ICLgo {α : Type} {R : RowOf α} {e : TypeId} {f : FuncId} {args : Value → Array Value} {p : Mp (List α)}
  (h : ∀ (w0 w : World) (fp : List Nat) (b : Nat) (m : MachD) (res : List α) (mres : MachD), Hid (IM w0 w b fp m) → Hid (IT w fp w fp) → Hid (Lft p m (res, mres)) →
   Calls Tryz.prog f (args (.pointer (some ⟨b, 0, none⟩))) w fun en w' => ∃ vs, en = .returned vs ∧ ∃ fp', IM w0 w' b fp' mres ∧ IT w fp w' fp' ∧ KL R e w' w.heap.size fp' vs res) : ICL R e f args p :=
 fun w0 w fp b m H hf => h w0 w fp b m _ _ H (IT.refl w fp) ⟨hf, rfl⟩
theorem ICL.use {α β : Type} {R : RowOf α} {e : TypeId} {f : FuncId} {args : Value → Array Value} {p : Mp (List α)} (h : ICL R e f args p) (S : List α → Prop) (hS : ∀ m, p.fits m → S (p.run m).1) {k : List α → Mp β} {w0 w : World} {fp : List Nat} {b : Nat} {m : MachD} {r : β × MachD} (L : Lft (p >>= k) m r) (hm : IM w0 w b fp m) :
  Calls Tryz.prog f (args (.pointer (some ⟨b, 0, none⟩))) w fun en w' => ∃ ao cap ks m1 fp1, en = .returned (.slice ao ks.length cap) ∧ S ks ∧ IM w0 w' b fp1 m1 ∧ IT w fp w' fp1 ∧ KL R e w' w.heap.size fp1 (.slice ao ks.length cap) ks ∧ Lft (k ks) m1 r := by
 refine (h w0 w fp b m hm L.step.1).mono ?_
 rintro en w' ⟨vs, rfl, fp', hm', ht, hn⟩
 obtain ⟨ao, cap, rfl⟩ := hn.1.rd.form
 exact ⟨ao, cap, _, _, fp', rfl, hS m L.step.1, hm', ht, hn, L.step.2⟩
theorem impl_wipe (p : ByteArray) : IC 94 (fun x => #[x, .string p]) (K.wipe p) (fun _ => .tuple #[]) := by
 refine ICgo (fun w0 w fp b m res mres HM HT HL => ?_)
 unfold K.wipe at HL
 go_enter Tryz.func94, Tryz.ntmps94
 (repeat (first | go_skip | go_guarded | go_step | go_upon | go_back))
 (go_at_call 96; refine (under_use (by first | exact HL.out | exact HL.out.last) HM.out).mono ?_; rintro e w2 ⟨al, nl, ks, m2, fp2, rfl, hks, hm, ht, hkl, HL2⟩; have HK := Lib.hid (KL.lower hkl HT.out.up.size); have HM' := Lib.hid hm; have HT' := Lib.hid (HT.out.trans ht); clear HM HT hm ht hkl; have HM := HM'; have HT := HT'; clear HM' HT'; clear HL; have HL := Lib.hid HL2; clear HL2; (try simp only []))
 (repeat (first | go_skip | go_guarded | go_step | go_upon | go_back))
 go_loopw [5, 10] (fun _ k wr => ∃ (n : Nat) (m1 : MachD) (fp1 : List Nat), k = .int .i64 n ∧ n ≤ ks.length ∧ IM w0 wr b fp1 m1 ∧ IT w fp wr fp1 ∧ KL rStr 9 wr w.heap.size fp1 (.slice al ks.length nl) ks ∧ Lft (Mp.each (fun k => K.lay k ⟨#[]⟩) (ks.drop n)) m1 (res, mres)) (fun _ k _ => ks.length - (intOf k).toNat)
 case atStart => exact ⟨0, m2, fp2, rfl, Nat.zero_le _, HM.out, HT.out, HK.out, HL.out⟩
 case round =>
  clear HL HM HT HK
  obtain ⟨n, m1, fp1, rfl, hn, hm, ht, hk0, hl⟩ := hrel
  have HM := Lib.hid hm
  have HT := Lib.hid ht
  have HK := Lib.hid hk0
  clear hm ht hk0
  have hkl := hks.1
  by_cases hlt : (n : Int) < ks.length
  case pos =>
   have hk : n < ks.length := by omega
   have HL := Lib.hid (hl.each_at hk)
   obtain ⟨b', off, rfl, hbl, y0⟩ := HK.out.at_ hk
   have hkz := hks.2.1 _ (List.getElem_mem hk)
   clear hl
   generalize ks[n] = key at HL y0 hkz
   (repeat (first | go_skip | go_guarded | go_step | go_upon | go_back))
   clear y0
   (((go_at_call 93; refine (IC.use (impl_lay _ _) (fun _ => True) (fun _ _ => trivial) (by first | exact HL.out | exact HL.out.last) HM.out).mono ?_); (rintro e w2 ⟨x, m2, fp2, rfl, hx, hm, ht, HL2⟩); (have HM' := Lib.hid hm; have HT' := Lib.hid (HT.out.trans ht); (try (have HK' := Lib.hid (HK.out.step ht); clear HK; have HK := HK'; clear HK')); clear HM HT hm ht; have HM := HM'; have HT := HT'; clear HM' HT'; clear HL; have HL := Lib.hid HL2; clear HL2; (try simp only []); (all_goals ((repeat' ((rcases HL.out.ite with ⟨hg, HL2⟩ | ⟨hg, HL2⟩ <;> (clear HL; have HL := Lib.hid HL2; clear HL2)))))))))
   (repeat (first | go_skip | go_guarded | go_step | go_upon | go_back))
   go_roundw
   case rel => exact ⟨n + 1, _, _, by go_num, by omega, HM.out, HT.out, HK.out, HL.out⟩
   case measure => simp [intOf]; omega
  case neg =>
   have HL := Lib.hid (hl.each_end (by omega))
   (repeat (first | go_skip | go_guarded | go_step | go_upon | go_back))
   all_goals (obtain ⟨rfl, rfl⟩ := HL.out.end; ((refine bodyPost_end (by simp [results, Tryz.results94, go_sem]; rfl) rfl ?_)); exact ⟨rfl, _, HM.out, HT.out⟩)
theorem pipeKey_small (id : Int) (t : ByteArray) (ht : t.size ≤ 1000) (h0 : -9223372036854775808 ≤ id) (h1 : id ≤ 9223372036854775807) : (K.pipeKey id t).size ≤ 1100 := by
 have := keyNum_size K.nP t id h0 h1
 have c1 : K.nP.size = 2 := rfl
 show (keyNum K.nP id t).size ≤ _
 omega
theorem signalKey_small (id : Int) (t : ByteArray) (ht : t.size ≤ 1000) (h0 : -9223372036854775808 ≤ id) (h1 : id ≤ 9223372036854775807) : (K.signalKey id t).size ≤ 1100 := by
 have := keyNum_size K.nG t id h0 h1
 have c1 : K.nG.size = 2 := rfl
 show (keyNum K.nG id t).size ≤ _
 omega
theorem impl_makePipe  : IC 47 (fun x => #[x]) K.makePipe (fun p => .tuple #[.int .i64 p.1, .int .i64 p.2]) := by
 refine ICgo (fun w0 w fp b m res mres HM HT HL => ?_)
 unfold K.makePipe at HL
 ((repeat' ((rcases HL.out.ite with ⟨hg, HL2⟩ | ⟨hg, HL2⟩ <;> (clear HL; have HL := Lib.hid HL2; clear HL2)))))
 all_goals (go_enter Tryz.func47, Tryz.ntmps47; all_goals ((repeat' (first | go_skip | go_guarded | go_step | go_upon | go_back | ((first | ((first | (go_at_call 89; refine (IC.use (impl_bump _) (fun a => 0 ≤ a ∧ a ≤ 999) (fun m _ => bump_bd _ m) (by first | exact HL.out | exact HL.out.last) HM.out).mono ?_) | (go_at_call 90; refine (IC.use (impl_setNum _ _ (by omega) (by omega)) (fun _ => True) (fun _ _ => trivial) (by first | exact HL.out | exact HL.out.last) HM.out).mono ?_) | (go_at_call 84; refine (IC.use (impl_num _) (fun a => 0 ≤ a ∧ a ≤ 999) (fun m _ => num_bd _ m) (by first | exact HL.out | exact HL.out.last) HM.out).mono ?_)); (rintro e w2 ⟨x, m2, fp2, rfl, hx, hm, ht, HL2⟩); (replace HM := Lib.hid hm; replace HT := Lib.hid (HT.out.trans ht); clear hm ht; clear HL; have HL := Lib.hid HL2; clear HL2; (try simp only []); (all_goals ((repeat' ((rcases HL.out.ite with ⟨hg, HL2⟩ | ⟨hg, HL2⟩ <;> (clear HL; have HL := Lib.hid HL2; clear HL2)))))))) | ((go_at_call 100; refine (impl_pipeKey _ (by omega) (by omega) _ (by decide) _ HM.out.globs).mono ?_); rintro e w2 ⟨rfl, hb⟩; (replace HM := Lib.hid (HM.out.below hb); replace HT := Lib.hid (HT.out.trans (IT.below hb)); clear hb; (try simp only []))))) | (exfalso; (simp only [bne_eq_false_iff_eq, beq_eq_false_iff_ne, beq_iff_eq, bne_iff_ne] at *); omega)))))
 all_goals (obtain ⟨rfl, rfl⟩ := HL.out.end; ((refine bodyPost_ret (by simp [results, Tryz.results47, go_sem]; rfl) rfl ?_)); exact ⟨rfl, _, HM.out, HT.out⟩)
theorem impl_putPipe (id : Int) (id0 : -9223372036854775808 ≤ id) (id1 : id ≤ 9223372036854775807) (text : ByteArray) (textz : text.size ≤ 1048576) : IC 48 (fun x => #[x, .int .i64 id, .string text]) (K.putPipe id text) (fun n => .int .i64 n) := by
 refine ICgo (fun w0 w fp b m res mres HM HT HL => ?_)
 unfold K.putPipe at HL
 have hh := hexT_size text
 have hc : ¬ 9223372036854775807 < 1 + (hexT text).size := by omega
 have hk := pipeKey_small id ⟨#[47, 113, 47]⟩ (by decide) id0 id1
 ((repeat' ((rcases HL.out.ite with ⟨hg, HL2⟩ | ⟨hg, HL2⟩ <;> (clear HL; have HL := Lib.hid HL2; clear HL2)))))
 all_goals (go_enter Tryz.func48, Tryz.ntmps48; all_goals ((repeat' (first | go_skip | go_guarded | go_step | go_upon | go_back | ((first | ((first | (go_at_call 93; refine (IC.use (impl_lay _ _) (fun _ => True) (fun _ _ => trivial) (by first | exact HL.out | exact HL.out.last) HM.out).mono ?_) | (go_at_call 101; refine (IC.use (impl_isPipe _ (by omega) (by omega)) (fun _ => True) (fun _ _ => trivial) (by first | exact HL.out | exact HL.out.last) HM.out).mono ?_) | (go_at_call 90; refine (IC.use (impl_setNum _ _ (by omega) (by omega)) (fun _ => True) (fun _ _ => trivial) (by first | exact HL.out | exact HL.out.last) HM.out).mono ?_) | (go_at_call 84; refine (IC.use (impl_num _) (fun a => 0 ≤ a ∧ a ≤ 999) (fun m _ => num_bd _ m) (by first | exact HL.out | exact HL.out.last) HM.out).mono ?_)); (rintro e w2 ⟨x, m2, fp2, rfl, hx, hm, ht, HL2⟩); (replace HM := Lib.hid hm; replace HT := Lib.hid (HT.out.trans ht); clear hm ht; clear HL; have HL := Lib.hid HL2; clear HL2; (try simp only []); (all_goals ((repeat' ((rcases HL.out.ite with ⟨hg, HL2⟩ | ⟨hg, HL2⟩ <;> (clear HL; have HL := Lib.hid HL2; clear HL2)))))))) | ((first | (go_at_call 102; refine (impl_hexOf _ _ (by omega)).mono ?_) | (go_at_call 95; refine (impl_KeyNum _ _ _ _ HM.out.globs (by first | omega | decide) (by first | omega | decide) (by omega) (by omega)).mono ?_) | (go_at_call 100; refine (impl_pipeKey _ (by omega) (by omega) _ (by decide) _ HM.out.globs).mono ?_)); rintro e w2 ⟨rfl, hb⟩; (replace HM := Lib.hid (HM.out.below hb); replace HT := Lib.hid (HT.out.trans (IT.below hb)); clear hb; (try simp only []))))) | (exfalso; (simp only [bne_eq_false_iff_eq, beq_eq_false_iff_ne, beq_iff_eq, bne_iff_ne] at *); omega)))))
 all_goals (obtain ⟨rfl, rfl⟩ := HL.out.end; ((refine bodyPost_ret (by simp [results, Tryz.results48, go_sem]; rfl) rfl ?_)); exact ⟨rfl, _, HM.out, HT.out⟩)
theorem impl_takePipe (id : Int) (id0 : -9223372036854775808 ≤ id) (id1 : id ≤ 9223372036854775807) : IC 49 (fun x => #[x, .int .i64 id]) (K.takePipe id) (fun p => .tuple #[.string p.1, .int .i64 p.2]) := by
 refine ICgo (fun w0 w fp b m res mres HM HT HL => ?_)
 unfold K.takePipe at HL
 have hk := pipeKey_small id ⟨#[47, 113, 47]⟩ (by decide) id0 id1
 ((repeat' ((rcases HL.out.ite with ⟨hg, HL2⟩ | ⟨hg, HL2⟩ <;> (clear HL; have HL := Lib.hid HL2; clear HL2)))))
 all_goals (go_enter Tryz.func49, Tryz.ntmps49; all_goals ((repeat' (first | go_skip | go_guarded | go_step | go_upon | go_back | ((first | ((first | (go_at_call 93; refine (IC.use (impl_lay _ _) (fun _ => True) (fun _ _ => trivial) (by first | exact HL.out | exact HL.out.last) HM.out).mono ?_) | (go_at_call 101; refine (IC.use (impl_isPipe _ (by omega) (by omega)) (fun _ => True) (fun _ _ => trivial) (by first | exact HL.out | exact HL.out.last) HM.out).mono ?_) | (go_at_call 103; refine (IC.use (impl_message _) (fun _ => True) (fun _ _ => trivial) (by first | exact HL.out | exact HL.out.last) HM.out).mono ?_) | (go_at_call 90; refine (IC.use (impl_setNum _ _ (by omega) (by omega)) (fun _ => True) (fun _ _ => trivial) (by first | exact HL.out | exact HL.out.last) HM.out).mono ?_) | (go_at_call 84; refine (IC.use (impl_num _) (fun a => 0 ≤ a ∧ a ≤ 999) (fun m _ => num_bd _ m) (by first | exact HL.out | exact HL.out.last) HM.out).mono ?_)); (rintro e w2 ⟨x, m2, fp2, rfl, hx, hm, ht, HL2⟩); (replace HM := Lib.hid hm; replace HT := Lib.hid (HT.out.trans ht); clear hm ht; clear HL; have HL := Lib.hid HL2; clear HL2; (try simp only []); (all_goals ((repeat' ((rcases HL.out.ite with ⟨hg, HL2⟩ | ⟨hg, HL2⟩ <;> (clear HL; have HL := Lib.hid HL2; clear HL2)))))))) | ((first | (go_at_call 95; refine (impl_KeyNum _ _ _ _ HM.out.globs (by first | omega | decide) (by first | omega | decide) (by omega) (by omega)).mono ?_) | (go_at_call 100; refine (impl_pipeKey _ (by omega) (by omega) _ (by decide) _ HM.out.globs).mono ?_)); rintro e w2 ⟨rfl, hb⟩; (replace HM := Lib.hid (HM.out.below hb); replace HT := Lib.hid (HT.out.trans (IT.below hb)); clear hb; (try simp only []))))) | (exfalso; (simp only [bne_eq_false_iff_eq, beq_eq_false_iff_ne, beq_iff_eq, bne_iff_ne] at *); omega)))))
 all_goals (obtain ⟨rfl, rfl⟩ := HL.out.end; ((refine bodyPost_ret (by simp [results, Tryz.results49, go_sem]; rfl) rfl ?_)); exact ⟨rfl, _, HM.out, HT.out⟩)
theorem impl_spawn (parent : Int) (parent0 : -9223372036854775808 ≤ parent) (parent1 : parent ≤ 9223372036854775807) : IC 50 (fun x => #[x, .int .i64 parent]) (K.spawn parent) (fun p => .tuple #[.int .i64 p.1, .int .i64 p.2]) := by
 refine ICgo (fun w0 w fp b m res mres HM HT HL => ?_)
 unfold K.spawn at HL
 ((repeat' ((rcases HL.out.ite with ⟨hg, HL2⟩ | ⟨hg, HL2⟩ <;> (clear HL; have HL := Lib.hid HL2; clear HL2)))))
 all_goals (go_enter Tryz.func50, Tryz.ntmps50; all_goals ((repeat' (first | go_skip | go_guarded | go_step | go_upon | go_back | ((first | ((first | (go_at_call 89; refine (IC.use (impl_bump _) (fun a => 0 ≤ a ∧ a ≤ 999) (fun m _ => bump_bd _ m) (by first | exact HL.out | exact HL.out.last) HM.out).mono ?_) | (go_at_call 90; refine (IC.use (impl_setNum _ _ (by omega) (by omega)) (fun _ => True) (fun _ _ => trivial) (by first | exact HL.out | exact HL.out.last) HM.out).mono ?_) | (go_at_call 84; refine (IC.use (impl_num _) (fun a => 0 ≤ a ∧ a ≤ 999) (fun m _ => num_bd _ m) (by first | exact HL.out | exact HL.out.last) HM.out).mono ?_)); (rintro e w2 ⟨x, m2, fp2, rfl, hx, hm, ht, HL2⟩); (replace HM := Lib.hid hm; replace HT := Lib.hid (HT.out.trans ht); clear hm ht; clear HL; have HL := Lib.hid HL2; clear HL2; (try simp only []); (all_goals ((repeat' ((rcases HL.out.ite with ⟨hg, HL2⟩ | ⟨hg, HL2⟩ <;> (clear HL; have HL := Lib.hid HL2; clear HL2)))))))) | ((go_at_call 85; refine (impl_procKey _ (by omega) (by omega) _ (by decide) _ HM.out.globs).mono ?_); rintro e w2 ⟨rfl, hb⟩; (replace HM := Lib.hid (HM.out.below hb); replace HT := Lib.hid (HT.out.trans (IT.below hb)); clear hb; (try simp only []))))) | (exfalso; (simp only [bne_eq_false_iff_eq, beq_eq_false_iff_ne, beq_iff_eq, bne_iff_ne] at *); omega)))))
 all_goals (obtain ⟨rfl, rfl⟩ := HL.out.end; ((refine bodyPost_ret (by simp [results, Tryz.results50, go_sem]; rfl) rfl ?_)); exact ⟨rfl, _, HM.out, HT.out⟩)
theorem impl_end (id : Int) (id0 : -9223372036854775808 ≤ id) (id1 : id ≤ 9223372036854775807) (n : Int) (n0 : -9223372036854775808 ≤ n) (n1 : n ≤ 9223372036854775807) : IC 52 (fun x => #[x, .int .i64 id, .int .i64 n]) (K.endProc id n) (fun n => .int .i64 n) := by
 refine ICgo (fun w0 w fp b m res mres HM HT HL => ?_)
 unfold K.endProc at HL
 ((repeat' ((rcases HL.out.ite with ⟨hg, HL2⟩ | ⟨hg, HL2⟩ <;> (clear HL; have HL := Lib.hid HL2; clear HL2)))))
 all_goals (go_enter Tryz.func52, Tryz.ntmps52; all_goals ((repeat' (first | go_skip | go_guarded | go_step | go_upon | go_back | ((first | ((first | (go_at_call 39; refine (IC.use (impl_state _ (by omega) (by omega)) (fun a => 0 ≤ a ∧ a ≤ 999) (fun m _ => num_bd _ m) (by first | exact HL.out | exact HL.out.last) HM.out).mono ?_) | (go_at_call 90; refine (IC.use (impl_setNum _ _ (by omega) (by omega)) (fun _ => True) (fun _ _ => trivial) (by first | exact HL.out | exact HL.out.last) HM.out).mono ?_)); (rintro e w2 ⟨x, m2, fp2, rfl, hx, hm, ht, HL2⟩); (replace HM := Lib.hid hm; replace HT := Lib.hid (HT.out.trans ht); clear hm ht; clear HL; have HL := Lib.hid HL2; clear HL2; (try simp only []); (all_goals ((repeat' ((rcases HL.out.ite with ⟨hg, HL2⟩ | ⟨hg, HL2⟩ <;> (clear HL; have HL := Lib.hid HL2; clear HL2)))))))) | ((go_at_call 86; refine (impl_within _ _ _ _).mono ?_); rintro e w2 ⟨rfl, rfl⟩; (try simp only []); (try rw [HN.out]); (try rw [HP.out]); (try simp (disch := omega) only [inB_yes, inB_no])) | ((go_at_call 85; refine (impl_procKey _ (by omega) (by omega) _ (by decide) _ HM.out.globs).mono ?_); rintro e w2 ⟨rfl, hb⟩; (replace HM := Lib.hid (HM.out.below hb); replace HT := Lib.hid (HT.out.trans (IT.below hb)); clear hb; (try simp only []))))) | (exfalso; (simp only [bne_eq_false_iff_eq, beq_eq_false_iff_ne, beq_iff_eq, bne_iff_ne] at *); omega)))))
 all_goals (obtain ⟨rfl, rfl⟩ := HL.out.end; ((refine bodyPost_ret (by simp [results, Tryz.results52, go_sem]; rfl) rfl ?_)); exact ⟨rfl, _, HM.out, HT.out⟩)
theorem impl_reap (parent : Int) (parent0 : -9223372036854775808 ≤ parent) (parent1 : parent ≤ 9223372036854775807) (id : Int) (id0 : -9223372036854775808 ≤ id) (id1 : id ≤ 9223372036854775807) : IC 54 (fun x => #[x, .int .i64 parent, .int .i64 id]) (K.reap parent id) (fun p => .tuple #[.int .i64 p.1, .int .i64 p.2]) := by
 refine ICgo (fun w0 w fp b m res mres HM HT HL => ?_)
 unfold K.reap at HL
 ((repeat' ((rcases HL.out.ite with ⟨hg, HL2⟩ | ⟨hg, HL2⟩ <;> (clear HL; have HL := Lib.hid HL2; clear HL2)))))
 all_goals (go_enter Tryz.func54, Tryz.ntmps54; all_goals ((repeat' (first | go_skip | go_guarded | go_step | go_upon | go_back | ((first | ((first | (go_at_call 94; refine (IC.use (impl_wipe _) (fun _ => True) (fun _ _ => trivial) (by first | exact HL.out | exact HL.out.last) HM.out).mono ?_) | (go_at_call 39; refine (IC.use (impl_state _ (by omega) (by omega)) (fun a => 0 ≤ a ∧ a ≤ 999) (fun m _ => num_bd _ m) (by first | exact HL.out | exact HL.out.last) HM.out).mono ?_) | (go_at_call 84; refine (IC.use (impl_num _) (fun a => 0 ≤ a ∧ a ≤ 999) (fun m _ => num_bd _ m) (by first | exact HL.out | exact HL.out.last) HM.out).mono ?_)); (rintro e w2 ⟨x, m2, fp2, rfl, hx, hm, ht, HL2⟩); (replace HM := Lib.hid hm; replace HT := Lib.hid (HT.out.trans ht); clear hm ht; clear HL; have HL := Lib.hid HL2; clear HL2; (try simp only []); (all_goals ((repeat' ((rcases HL.out.ite with ⟨hg, HL2⟩ | ⟨hg, HL2⟩ <;> (clear HL; have HL := Lib.hid HL2; clear HL2; try first | (have hgz : _ ∨ _ := hg; clear hg; rcases hgz with hg | hg <;> (try have hgb := bne_iff_ne.2 hg)) | (have hgz := not_or.1 hg; clear hg; obtain ⟨hg, hgo⟩ := hgz; try replace hgo := Decidable.not_not.1 hgo))))))))) | ((go_at_call 85; refine (impl_procKey _ (by omega) (by omega) _ (by decide) _ HM.out.globs).mono ?_); rintro e w2 ⟨rfl, hb⟩; (replace HM := Lib.hid (HM.out.below hb); replace HT := Lib.hid (HT.out.trans (IT.below hb)); clear hb; (try simp only []))))) | (exfalso; (simp only [bne_eq_false_iff_eq, beq_eq_false_iff_ne, beq_iff_eq, bne_iff_ne] at *); omega)))))
 all_goals (obtain ⟨rfl, rfl⟩ := HL.out.end; ((refine bodyPost_ret (by simp [results, Tryz.results54, go_sem]; rfl) rfl ?_)); exact ⟨rfl, _, HM.out, HT.out⟩)
theorem impl_send (to : Int) (to0 : -9223372036854775808 ≤ to) (to1 : to ≤ 9223372036854775807) (n : Int) (n0 : -9223372036854775808 ≤ n) (n1 : n ≤ 9223372036854775807) : IC 57 (fun x => #[x, .int .i64 to, .int .i64 n]) (K.send to n) (fun n => .int .i64 n) := by
 refine ICgo (fun w0 w fp b m res mres HM HT HL => ?_)
 unfold K.send at HL
 have hk := signalKey_small to ⟨#[47, 113, 47]⟩ (by decide) to0 to1
 ((repeat' ((rcases HL.out.ite with ⟨hg, HL2⟩ | ⟨hg, HL2⟩ <;> (clear HL; have HL := Lib.hid HL2; clear HL2)))))
 all_goals (go_enter Tryz.func57, Tryz.ntmps57; all_goals ((repeat' (first | go_skip | go_guarded | go_step | go_upon | go_back | ((first | ((first | (go_at_call 39; refine (IC.use (impl_state _ (by omega) (by omega)) (fun a => 0 ≤ a ∧ a ≤ 999) (fun m _ => num_bd _ m) (by first | exact HL.out | exact HL.out.last) HM.out).mono ?_) | (go_at_call 90; refine (IC.use (impl_setNum _ _ (by omega) (by omega)) (fun _ => True) (fun _ _ => trivial) (by first | exact HL.out | exact HL.out.last) HM.out).mono ?_) | (go_at_call 84; refine (IC.use (impl_num _) (fun a => 0 ≤ a ∧ a ≤ 999) (fun m _ => num_bd _ m) (by first | exact HL.out | exact HL.out.last) HM.out).mono ?_)); (rintro e w2 ⟨x, m2, fp2, rfl, hx, hm, ht, HL2⟩); (replace HM := Lib.hid hm; replace HT := Lib.hid (HT.out.trans ht); clear hm ht; clear HL; have HL := Lib.hid HL2; clear HL2; (try simp only []); (all_goals ((repeat' ((rcases HL.out.ite with ⟨hg, HL2⟩ | ⟨hg, HL2⟩ <;> (clear HL; have HL := Lib.hid HL2; clear HL2)))))))) | ((go_at_call 86; refine (impl_within _ _ _ _).mono ?_); rintro e w2 ⟨rfl, rfl⟩; (try simp only []); (try rw [HN.out]); (try rw [HP.out]); (try simp (disch := omega) only [inB_yes, inB_no])) | ((first | (go_at_call 95; refine (impl_KeyNum _ _ _ _ HM.out.globs (by first | omega | decide) (by first | omega | decide) (by omega) (by omega)).mono ?_) | (go_at_call 109; refine (impl_signalKey _ (by omega) (by omega) _ (by decide) _ HM.out.globs).mono ?_)); rintro e w2 ⟨rfl, hb⟩; (replace HM := Lib.hid (HM.out.below hb); replace HT := Lib.hid (HT.out.trans (IT.below hb)); clear hb; (try simp only []))))) | (exfalso; (simp only [bne_eq_false_iff_eq, beq_eq_false_iff_ne, beq_iff_eq, bne_iff_ne] at *); omega)))))
 all_goals (obtain ⟨rfl, rfl⟩ := HL.out.end; ((refine bodyPost_ret (by simp [results, Tryz.results57, go_sem]; rfl) rfl ?_)); exact ⟨rfl, _, HM.out, HT.out⟩)
theorem impl_takeSignal (id : Int) (id0 : -9223372036854775808 ≤ id) (id1 : id ≤ 9223372036854775807) : IC 58 (fun x => #[x, .int .i64 id]) (K.takeSignal id) (fun p => .tuple #[.int .i64 p.1, .int .i64 p.2]) := by
 refine ICgo (fun w0 w fp b m res mres HM HT HL => ?_)
 unfold K.takeSignal at HL
 have hk := signalKey_small id ⟨#[47, 113, 47]⟩ (by decide) id0 id1
 ((repeat' ((rcases HL.out.ite with ⟨hg, HL2⟩ | ⟨hg, HL2⟩ <;> (clear HL; have HL := Lib.hid HL2; clear HL2)))))
 all_goals (go_enter Tryz.func58, Tryz.ntmps58; all_goals ((repeat' (first | go_skip | go_guarded | go_step | go_upon | go_back | ((first | ((first | (go_at_call 93; refine (IC.use (impl_lay _ _) (fun _ => True) (fun _ _ => trivial) (by first | exact HL.out | exact HL.out.last) HM.out).mono ?_) | (go_at_call 90; refine (IC.use (impl_setNum _ _ (by omega) (by omega)) (fun _ => True) (fun _ _ => trivial) (by first | exact HL.out | exact HL.out.last) HM.out).mono ?_) | (go_at_call 84; refine (IC.use (impl_num _) (fun a => 0 ≤ a ∧ a ≤ 999) (fun m _ => num_bd _ m) (by first | exact HL.out | exact HL.out.last) HM.out).mono ?_)); (rintro e w2 ⟨x, m2, fp2, rfl, hx, hm, ht, HL2⟩); (replace HM := Lib.hid hm; replace HT := Lib.hid (HT.out.trans ht); clear hm ht; clear HL; have HL := Lib.hid HL2; clear HL2; (try simp only []); (all_goals ((repeat' ((rcases HL.out.ite with ⟨hg, HL2⟩ | ⟨hg, HL2⟩ <;> (clear HL; have HL := Lib.hid HL2; clear HL2)))))))) | ((first | (go_at_call 95; refine (impl_KeyNum _ _ _ _ HM.out.globs (by first | omega | decide) (by first | omega | decide) (by omega) (by omega)).mono ?_) | (go_at_call 109; refine (impl_signalKey _ (by omega) (by omega) _ (by decide) _ HM.out.globs).mono ?_)); rintro e w2 ⟨rfl, hb⟩; (replace HM := Lib.hid (HM.out.below hb); replace HT := Lib.hid (HT.out.trans (IT.below hb)); clear hb; (try simp only []))))) | (exfalso; (simp only [bne_eq_false_iff_eq, beq_eq_false_iff_ne, beq_iff_eq, bne_iff_ne] at *); omega)))))
 all_goals (obtain ⟨rfl, rfl⟩ := HL.out.end; ((refine bodyPost_ret (by simp [results, Tryz.results58, go_sem]; rfl) rfl ?_)); exact ⟨rfl, _, HM.out, HT.out⟩)
theorem impl_setTimer (id : Int) (id0 : -9223372036854775808 ≤ id) (id1 : id ≤ 9223372036854775807) (a : Int) (a0 : -9223372036854775808 ≤ a) (a1 : a ≤ 9223372036854775807) : IC 59 (fun x => #[x, .int .i64 id, .int .i64 a]) (K.setTimer id a) (fun n => .int .i64 n) := by
 refine ICgo (fun w0 w fp b m res mres HM HT HL => ?_)
 unfold K.setTimer at HL
 ((repeat' ((rcases HL.out.ite with ⟨hg, HL2⟩ | ⟨hg, HL2⟩ <;> (clear HL; have HL := Lib.hid HL2; clear HL2)))))
 all_goals (go_enter Tryz.func59, Tryz.ntmps59; all_goals ((repeat' (first | go_skip | go_guarded | go_step | go_upon | go_back | ((first | ((go_at_call 90; refine (IC.use (impl_setNum _ _ (by omega) (by omega)) (fun _ => True) (fun _ _ => trivial) (by first | exact HL.out | exact HL.out.last) HM.out).mono ?_); (rintro e w2 ⟨x, m2, fp2, rfl, hx, hm, ht, HL2⟩); (replace HM := Lib.hid hm; replace HT := Lib.hid (HT.out.trans ht); clear hm ht; clear HL; have HL := Lib.hid HL2; clear HL2; (try simp only []); (all_goals ((repeat' ((rcases HL.out.ite with ⟨hg, HL2⟩ | ⟨hg, HL2⟩ <;> (clear HL; have HL := Lib.hid HL2; clear HL2)))))))) | ((go_at_call 86; refine (impl_within _ _ _ _).mono ?_); rintro e w2 ⟨rfl, rfl⟩; (try simp only []); (try rw [HN.out]); (try rw [HP.out]); (try simp (disch := omega) only [inB_yes, inB_no])) | ((go_at_call 95; refine (impl_KeyNum _ _ _ _ HM.out.globs (by first | omega | decide) (by first | omega | decide) (by omega) (by omega)).mono ?_); rintro e w2 ⟨rfl, hb⟩; (replace HM := Lib.hid (HM.out.below hb); replace HT := Lib.hid (HT.out.trans (IT.below hb)); clear hb; (try simp only []))))) | (exfalso; (simp only [bne_eq_false_iff_eq, beq_eq_false_iff_ne, beq_iff_eq, bne_iff_ne] at *); omega)))))
 all_goals (obtain ⟨rfl, rfl⟩ := HL.out.end; ((refine bodyPost_ret (by simp [results, Tryz.results59, go_sem]; rfl) rfl ?_)); exact ⟨rfl, _, HM.out, HT.out⟩)
theorem impl_storePage (id : Int) (id0 : -9223372036854775808 ≤ id) (id1 : id ≤ 9223372036854775807) (page : Int) (page0 : -9223372036854775808 ≤ page) (page1 : page ≤ 9223372036854775807) (text : ByteArray) (textz : text.size ≤ 1048576) : IC 61 (fun x => #[x, .int .i64 id, .int .i64 page, .string text]) (K.storePage id page text) (fun n => .int .i64 n) := by
 refine ICgo (fun w0 w fp b m res mres HM HT HL => ?_)
 unfold K.storePage at HL
 have hk := pagesKey_small id id0 id1
 have hh := hexT_size text
 have hc : ¬ 9223372036854775807 < 1 + (hexT text).size := by omega
 by_cases he : text.size = 0
 case' pos => (have hs := text_no he; obtain ⟨e0, ht⟩ := hs; simp only [if_pos he] at HL; subst e0; clear hc; have hz0 : (⟨#[]⟩ : ByteArray).size = 0 := rfl; have hz0 : (⟨#[]⟩ : ByteArray).size = 0 := rfl)
 case' neg => (have hs := text_is he; obtain ⟨hp, ht⟩ := hs; simp only [if_neg he] at HL)
 all_goals by_cases hp3 : 0 ≤ page ∧ page ≤ 3
 all_goals ((repeat' ((rcases HL.out.ite with ⟨hg, HL2⟩ | ⟨hg, HL2⟩ <;> (clear HL; have HL := Lib.hid HL2; clear HL2; try (exfalso; omega))))))
 all_goals (go_enter Tryz.func61, Tryz.ntmps61; all_goals ((repeat' (first | go_skip | go_guarded | go_step | go_upon | go_back | ((first | ((go_at_call 93; refine (IC.use (impl_lay _ _) (fun _ => True) (fun _ _ => trivial) (by first | exact HL.out | exact HL.out.last) HM.out).mono ?_); (rintro e w2 ⟨x, m2, fp2, rfl, hx, hm, ht, HL2⟩); (replace HM := Lib.hid hm; replace HT := Lib.hid (HT.out.trans ht); clear hm ht; clear HL; have HL := Lib.hid HL2; clear HL2; (try simp only []); (all_goals ((repeat' ((rcases HL.out.ite with ⟨hg, HL2⟩ | ⟨hg, HL2⟩ <;> (clear HL; have HL := Lib.hid HL2; clear HL2)))))))) | ((go_at_call 86; refine (impl_within _ _ _ _).mono ?_); rintro e w2 ⟨rfl, rfl⟩; (try simp only []); (try rw [HN.out]); (try rw [HP.out]); (try simp (disch := omega) only [inB_yes, inB_no])) | ((first | (go_at_call 102; refine (impl_hexOf _ _ (by omega)).mono ?_) | (go_at_call 95; refine (impl_KeyNum _ _ _ _ HM.out.globs (by first | omega | decide) (by first | omega | decide) (by omega) (by omega)).mono ?_) | (go_at_call 104; refine (impl_pagesKey _ (by omega) (by omega) _ HM.out.globs).mono ?_)); rintro e w2 ⟨rfl, hb⟩; (replace HM := Lib.hid (HM.out.below hb); replace HT := Lib.hid (HT.out.trans (IT.below hb)); clear hb; (try simp only []))))) | (exfalso; (simp only [bne_eq_false_iff_eq, beq_eq_false_iff_ne, beq_iff_eq, bne_iff_ne] at *); omega)))))
 all_goals (obtain ⟨rfl, rfl⟩ := HL.out.end; ((refine bodyPost_ret (by simp [results, Tryz.results61, go_sem]; rfl) rfl ?_)); exact ⟨rfl, _, HM.out, HT.out⟩)
theorem impl_loadPage (id : Int) (id0 : -9223372036854775808 ≤ id) (id1 : id ≤ 9223372036854775807) (page : Int) (page0 : -9223372036854775808 ≤ page) (page1 : page ≤ 9223372036854775807) : IC 62 (fun x => #[x, .int .i64 id, .int .i64 page]) (K.loadPage id page) (fun p => .tuple #[.string p.1, .int .i64 p.2]) := by
 refine ICgo (fun w0 w fp b m res mres HM HT HL => ?_)
 unfold K.loadPage at HL
 have hk := pagesKey_small id id0 id1
 ((repeat' ((rcases HL.out.ite with ⟨hg, HL2⟩ | ⟨hg, HL2⟩ <;> (clear HL; have HL := Lib.hid HL2; clear HL2)))))
 all_goals (go_enter Tryz.func62, Tryz.ntmps62; all_goals ((repeat' (first | go_skip | go_guarded | go_step | go_upon | go_back | ((first | ((go_at_call 103; refine (IC.use (impl_message _) (fun _ => True) (fun _ _ => trivial) (by first | exact HL.out | exact HL.out.last) HM.out).mono ?_); (rintro e w2 ⟨x, m2, fp2, rfl, hx, hm, ht, HL2⟩); (replace HM := Lib.hid hm; replace HT := Lib.hid (HT.out.trans ht); clear hm ht; clear HL; have HL := Lib.hid HL2; clear HL2; (try simp only []); (all_goals ((repeat' ((rcases HL.out.ite with ⟨hg, HL2⟩ | ⟨hg, HL2⟩ <;> (clear HL; have HL := Lib.hid HL2; clear HL2)))))))) | ((go_at_call 86; refine (impl_within _ _ _ _).mono ?_); rintro e w2 ⟨rfl, rfl⟩; (try simp only []); (try rw [HN.out]); (try rw [HP.out]); (try simp (disch := omega) only [inB_yes, inB_no])) | ((first | (go_at_call 95; refine (impl_KeyNum _ _ _ _ HM.out.globs (by first | omega | decide) (by first | omega | decide) (by omega) (by omega)).mono ?_) | (go_at_call 104; refine (impl_pagesKey _ (by omega) (by omega) _ HM.out.globs).mono ?_)); rintro e w2 ⟨rfl, hb⟩; (replace HM := Lib.hid (HM.out.below hb); replace HT := Lib.hid (HT.out.trans (IT.below hb)); clear hb; (try simp only []))))) | (exfalso; (simp only [bne_eq_false_iff_eq, beq_eq_false_iff_ne, beq_iff_eq, bne_iff_ne] at *); omega)))))
 all_goals (obtain ⟨rfl, rfl⟩ := HL.out.end; ((refine bodyPost_ret (by simp [results, Tryz.results62, go_sem]; rfl) rfl ?_)); exact ⟨rfl, _, HM.out, HT.out⟩)
theorem impl_dropPages (id : Int) (id0 : -9223372036854775808 ≤ id) (id1 : id ≤ 9223372036854775807) : IC 53 (fun x => #[x, .int .i64 id]) (K.dropPages id) (fun _ => .tuple #[]) := by
 refine ICgo (fun w0 w fp b m res mres HM HT HL => ?_)
 unfold K.dropPages at HL
 ((repeat' ((rcases HL.out.ite with ⟨hg, HL2⟩ | ⟨hg, HL2⟩ <;> (clear HL; have HL := Lib.hid HL2; clear HL2)))))
 all_goals (go_enter Tryz.func53, Tryz.ntmps53; all_goals ((repeat' (first | go_skip | go_guarded | go_step | go_upon | go_back | ((first | ((go_at_call 94; refine (IC.use (impl_wipe _) (fun _ => True) (fun _ _ => trivial) (by first | exact HL.out | exact HL.out.last) HM.out).mono ?_); (rintro e w2 ⟨x, m2, fp2, rfl, hx, hm, ht, HL2⟩); (replace HM := Lib.hid hm; replace HT := Lib.hid (HT.out.trans ht); clear hm ht; clear HL; have HL := Lib.hid HL2; clear HL2; (try simp only []); (all_goals ((repeat' ((rcases HL.out.ite with ⟨hg, HL2⟩ | ⟨hg, HL2⟩ <;> (clear HL; have HL := Lib.hid HL2; clear HL2)))))))) | ((go_at_call 104; refine (impl_pagesKey _ (by omega) (by omega) _ HM.out.globs).mono ?_); rintro e w2 ⟨rfl, hb⟩; (replace HM := Lib.hid (HM.out.below hb); replace HT := Lib.hid (HT.out.trans (IT.below hb)); clear hb; (try simp only []))))) | (exfalso; (simp only [bne_eq_false_iff_eq, beq_eq_false_iff_ne, beq_iff_eq, bne_iff_ne] at *); omega)))))
 all_goals (obtain ⟨rfl, rfl⟩ := HL.out.end; ((refine bodyPost_end (by simp [results, Tryz.results53, go_sem]; rfl) rfl ?_)); exact ⟨rfl, _, HM.out, HT.out⟩)
theorem impl_putOut (text : ByteArray) (textz : text.size ≤ 1048576) : IC 63 (fun x => #[x, .string text]) (K.putOut text) (fun n => .int .i64 n) := by
 refine ICgo (fun w0 w fp b m res mres HM HT HL => ?_)
 unfold K.putOut at HL
 have hh := hexT_size text
 have hc : ¬ 9223372036854775807 < 1 + (hexT text).size := by omega
 ((repeat' ((rcases HL.out.ite with ⟨hg, HL2⟩ | ⟨hg, HL2⟩ <;> (clear HL; have HL := Lib.hid HL2; clear HL2)))))
 all_goals (go_enter Tryz.func63, Tryz.ntmps63; all_goals ((repeat' (first | go_skip | go_guarded | go_step | go_upon | go_back | ((first | ((first | (go_at_call 93; refine (IC.use (impl_lay _ _) (fun _ => True) (fun _ _ => trivial) (by first | exact HL.out | exact HL.out.last) HM.out).mono ?_) | (go_at_call 90; refine (IC.use (impl_setNum _ _ (by omega) (by omega)) (fun _ => True) (fun _ _ => trivial) (by first | exact HL.out | exact HL.out.last) HM.out).mono ?_) | (go_at_call 84; refine (IC.use (impl_num _) (fun a => 0 ≤ a ∧ a ≤ 999) (fun m _ => num_bd _ m) (by first | exact HL.out | exact HL.out.last) HM.out).mono ?_)); (rintro e w2 ⟨x, m2, fp2, rfl, hx, hm, ht, HL2⟩); (replace HM := Lib.hid hm; replace HT := Lib.hid (HT.out.trans ht); clear hm ht; clear HL; have HL := Lib.hid HL2; clear HL2; (try simp only []); (all_goals ((repeat' ((rcases HL.out.ite with ⟨hg, HL2⟩ | ⟨hg, HL2⟩ <;> (clear HL; have HL := Lib.hid HL2; clear HL2)))))))) | ((go_at_call 86; refine (impl_within _ _ _ _).mono ?_); rintro e w2 ⟨rfl, rfl⟩; (try simp only []); (try rw [HN.out]); (try rw [HP.out]); (try simp (disch := omega) only [inB_yes, inB_no])) | ((first | (go_at_call 102; refine (impl_hexOf _ _ (by omega)).mono ?_) | (go_at_call 95; refine (impl_KeyNum _ _ _ _ HM.out.globs (by first | omega | decide) (by first | omega | decide) (by omega) (by omega)).mono ?_)); rintro e w2 ⟨rfl, hb⟩; (replace HM := Lib.hid (HM.out.below hb); replace HT := Lib.hid (HT.out.trans (IT.below hb)); clear hb; (try simp only []))))) | (exfalso; (simp only [bne_eq_false_iff_eq, beq_eq_false_iff_ne, beq_iff_eq, bne_iff_ne] at *); omega)))))
 all_goals (obtain ⟨rfl, rfl⟩ := HL.out.end; ((refine bodyPost_ret (by simp [results, Tryz.results63, go_sem]; rfl) rfl ?_)); exact ⟨rfl, _, HM.out, HT.out⟩)
end Go.Proofs.YtieenbnmfaekiaaGreatDoor
