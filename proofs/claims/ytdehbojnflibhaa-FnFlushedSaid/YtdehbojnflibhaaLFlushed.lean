/- The law FnFlushed: its walk. Each condition stands in its theorem. -/
import Derived.Test.YtdehbojnflibhaaDrawK
set_option linter.unusedVariables false
set_option linter.unusedSimpArgs false
namespace Go.Proofs.Ytdehbojnflibhaa
open Go.ChangeShapes Go.WideShapes Go.ChangeAt Go.RowKit
theorem extract_all (t : ByteArray) : t.extract 0 t.size = t := by
  apply ByteArray.ext
  simp
theorem extract_left (t s : ByteArray) : (t ++ s).extract 0 t.size = t := by
  apply ByteArray.ext
  simp [ByteArray.data_extract, ByteArray.data_append]
theorem jOk_full {t : ByteArray} {n : Int} (h : jOk t n = true) : jOk t t.size = true := by
  have := jOk_le h
  unfold jOk inB
  simp
  omega
theorem fallN_full (t : ByteArray) (m : Int) (k : Nat) (hk : m = k) (hm : k ≤ t.size) : fallN t m 0 = k := by
  subst hk
  unfold fallN bro
  omega
theorem fall_full {t : ByteArray} {n : Int} (h : jOk t n = true) : fallT t t.size 0 = t ∧ fallM t t.size 0 = t.size := by
  have h2 := jOk_full h
  unfold fallT fallM
  rw [h2, fallN_full t t.size t.size rfl (Nat.le_refl _)]
  exact ⟨extract_all t, rfl⟩
theorem fall_no {t : ByteArray} {n : Int} (h : jOk t n = false) : fallT t n 0 = t ∧ fallM t n 0 = n := by
  unfold fallT fallM
  rw [h]
  exact ⟨rfl, rfl⟩
theorem fall_add {t s : ByteArray} {n : Int} (h : jOk t n = true) (hs : (t.size : Int) + s.size ≤ 20000) : fallT (t ++ s) t.size 0 = t := by
  have h2 : jOk (t ++ s) t.size = true := by
    unfold jOk inB
    simp [ByteArray.size_append]
    omega
  unfold fallT
  rw [h2, fallN_full (t ++ s) t.size t.size rfl (by rw [ByteArray.size_append]; omega)]
  exact extract_left t s
/-- what the law holds behind its calls: the texts and lengths, case by case -/
def FlCase (t : ByteArray) (n : Int) (s : ByteArray) (X : Int) (yt : ByteArray) (ym : Int) (zt : ByteArray) (ok : Bool) (wt : ByteArray) : Prop :=
  flN t n = X ∧ fallT t X 0 = yt ∧ fallM t X 0 = ym ∧ adT t X s = zt ∧ atJ t X s = ok ∧ fallT zt X 0 = wt
theorem flCase (t : ByteArray) (n : Int) (s : ByteArray) : ∃ X zt ok wt, FlCase t n s X t X zt ok wt ∧ (ok = true → wt = t) := by
  cases h : jOk t n with
  | true =>
    have hx : flN t n = t.size := (flN_t h).symm
    have hf := fall_full h
    have hjf := jOk_full h
    by_cases hg : (t.size : Int) + s.size ≤ 20000
    · have ha : atJ t t.size s = true := by unfold atJ; rw [hjf, decide_eq_true hg]; rfl
      exact ⟨t.size, t ++ s, true, t, ⟨hx, hf.1, hf.2, by unfold adT; rw [ha]; rfl, ha, fall_add h hg⟩, fun _ => rfl⟩
    · have ha : atJ t t.size s = false := by unfold atJ; rw [decide_eq_false hg, Bool.and_false]
      exact ⟨t.size, t, false, t, ⟨hx, hf.1, hf.2, by unfold adT; rw [ha]; rfl, ha, hf.1⟩, fun _ => rfl⟩
  | false =>
    have hx : flN t n = n := (flN_f h).symm
    have hf := fall_no h
    have ha : atJ t n s = false := by unfold atJ; rw [h]; rfl
    exact ⟨n, t, false, t, ⟨hx, hf.1, hf.2, by unfold adT; rw [ha]; rfl, ha, hf.1⟩, fun _ => rfl⟩
theorem fl_ab : flN ⟨#[97, 98]⟩ 0 = 2 := by
  have : jOk ⟨#[97, 98]⟩ 0 = true := by decide
  rw [← flN_t this]
  rfl
set_option maxRecDepth 100000 in
set_option maxHeartbeats 4000000 in
theorem law_Flushed (v : Value) (bs : List UInt8) (W : World) (hs : Sl W v bs.length (bytesOf bs)) (hb : ∀ b, v.ownBlock = some b → b < W.heap.size) : Calls Try.prog 3 #[v] W (Yes W) := by
  have HS := Lib.hid hs
  have HB := Lib.hid hb
  unfold Yes
  by_cases hbig : 1048576 < bs.length
  · go_enter Try.func3, Try.ntmps3
    go_wp2_with fail
    (go_at_call 4; refine (laws_big v bs.length _ _ hs).mono ?_; rintro e w' ⟨rfl, rfl⟩)
    go_wp2
    go_ret
    exact ⟨rfl, (by repeat (first | with_reducible exact Below.refl _ _ | with_reducible apply Below.ofExt | with_reducible apply Below.ofAlloc | with_reducible apply Below.drew | with_reducible apply Below.ofDrewN | with_reducible assumption | (with_reducible refine Below.setCell ?_ (by first | exact Nat.le_refl _ | (simp [go_sem]; done) | (simp [go_sem]; omega)) _)))⟩
  clear hs hb
  go_enter Try.func3, Try.ntmps3
  go_wp2_with fail
  (go_at_call 4; refine (laws_big v bs.length _ _ HS.out).mono ?_; rintro e w' ⟨rfl, rfl⟩)
  go_wp2_with fail
  (go_at_call 5; refine (spec_DrawAddText v bs _ HS.out (by omega) HB.out).mono ?_; rintro e w' ⟨t, n, s, rfl, ht, hs5, hb⟩; obtain ⟨X, rfl⟩ := hb.ext; clear hb)
  obtain ⟨XX, zt, ok, wt, ⟨f1, f2, f3, f4, f5, f6⟩, fok⟩ := flCase t n s
  have F1 := Lib.hid f1; have F2 := Lib.hid f2; have F3 := Lib.hid f3; have F4 := Lib.hid f4; have F5 := Lib.hid f5; have F6 := Lib.hid f6; have FOK := Lib.hid fok
  have hzt : zt.size ≤ 1048576 := by have := adT_size (n := XX) (s := s) ht; rw [f4] at this; omega
  clear f1 f2 f3 f4 f5 f6 fok
  go_wp2_with fail
  (go_at_call 6; refine (impl_Flush _ _ _).mono ?_; rintro e w' ⟨rfl, hb⟩; obtain ⟨X1, rfl⟩ := hb.ext; clear hb; rw [F1.out])
  go_wp2_with fail
  (go_at_call 7; refine (impl_FallJournal t XX 0 _ (by omega)).mono ?_; rintro e w' ⟨rfl, hb⟩; obtain ⟨X2, rfl⟩ := hb.ext; clear hb; rw [F2.out, F3.out])
  go_wp2_with fail
  (go_at_call 8; refine (impl_AddText t XX s _ (by omega)).mono ?_; rintro e w' ⟨rfl, hb⟩; obtain ⟨X3, rfl⟩ := hb.ext; clear hb; rw [F4.out, F5.out])
  go_wp2_with fail
  (go_at_call 7; refine (impl_FallJournal zt XX 0 _ hzt).mono ?_; rintro e w' ⟨rfl, hb⟩; obtain ⟨X4, rfl⟩ := hb.ext; clear hb; rw [F6.out])
  go_wp2_with fail
  (go_at_call 6; refine (impl_Flush _ _ _).mono ?_; rintro e w' ⟨rfl, hb⟩; obtain ⟨X5, rfl⟩ := hb.ext; clear hb; rw [fl_ab])
  go_wp2_with fail
  (go_at_call 9; refine (spec_JournalOk t n _).mono ?_; rintro e w' ⟨rfl, hb⟩; obtain ⟨X6, rfl⟩ := hb.ext; clear hb)
  generalize jOk t n = jb
  cases jb
  all_goals
    cases ok
    · go_wp2
      go_ret
      exact ⟨rfl, (by repeat (first | with_reducible exact Below.refl _ _ | with_reducible apply Below.ofExt | with_reducible apply Below.ofAlloc | with_reducible apply Below.drew | with_reducible apply Below.ofDrewN | with_reducible assumption | (with_reducible refine Below.setCell ?_ (by first | exact Nat.le_refl _ | (simp [go_sem]; done) | (simp [go_sem]; omega)) _)))⟩
    · have e := FOK.out rfl
      subst e
      go_wp2
      go_ret
      exact ⟨rfl, (by repeat (first | with_reducible exact Below.refl _ _ | with_reducible apply Below.ofExt | with_reducible apply Below.ofAlloc | with_reducible apply Below.drew | with_reducible apply Below.ofDrewN | with_reducible assumption | (with_reducible refine Below.setCell ?_ (by first | exact Nat.le_refl _ | (simp [go_sem]; done) | (simp [go_sem]; omega)) _)))⟩
end Go.Proofs.Ytdehbojnflibhaa
