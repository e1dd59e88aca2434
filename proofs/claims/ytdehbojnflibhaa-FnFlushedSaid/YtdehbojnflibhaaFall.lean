/- Contracts of FallJournal. -/
import Derived.Test.YtdehbojnflibhaaJour
import Derived.Test.YtdehbojnflibhaaOrd
set_option linter.unusedVariables false
namespace Go.Proofs.Ytdehbojnflibhaa
open Go.ChangeShapes Go.WideShapes Go.ChangeAt Go.RowKit

def fallN (t : ByteArray) (n keep : Int) : Nat := (n + bro keep 0 (t.size - n)).toNat
theorem fallN_eq {t : ByteArray} {n : Int} (keep : Int) (h : jOk t n = true) : n + bro keep 0 (t.size - n) = (fallN t n keep : Int) ∧ fallN t n keep ≤ t.size := by
  have hn : 0 ≤ n ∧ n ≤ t.size := by simp [jOk, inB] at h; omega
  unfold fallN bro
  omega

def fallT (t : ByteArray) (n keep : Int) : ByteArray := if jOk t n then t.extract 0 (fallN t n keep) else t
def fallM (t : ByteArray) (n keep : Int) : Int := if jOk t n then (fallN t n keep : Int) else n
theorem fallT_t {t : ByteArray} {n keep : Int} (h : jOk t n = true) : t.extract 0 (fallN t n keep) = fallT t n keep := by simp [fallT, h]
theorem fallM_t {t : ByteArray} {n keep : Int} (h : jOk t n = true) : (fallN t n keep : Int) = fallM t n keep := by simp [fallM, h]
theorem fallT_f {t : ByteArray} {n keep : Int} (h : jOk t n = false) : t = fallT t n keep := by simp [fallT, h]
theorem fallM_f {t : ByteArray} {n keep : Int} (h : jOk t n = false) : n = fallM t n keep := by simp [fallM, h]

theorem impl_FallJournal (t : ByteArray) (n keep : Int) (w : World) (hs : t.size ≤ 1048576) :
    Calls Try.prog 7 #[.agg #[.string t, .int .i64 n], .int .i64 keep] w fun e w' => e = .returned (.agg #[.string (fallT t n keep), .int .i64 (fallM t n keep)]) ∧ Below w.heap.size w w' := by
  by_cases h : jOk t n = true
  · have hn : 0 ≤ n ∧ n ≤ t.size ∧ (t.size : Int) ≤ 20000 := by simp [jOk, inB] at h; omega
    have hb : 0 ≤ bro keep 0 (t.size - n) ∧ bro keep 0 (t.size - n) ≤ t.size - n := by unfold bro; omega
    obtain ⟨hq, hle⟩ := fallN_eq keep h
    have H := ret_jour (fallT_t (keep := keep) h) (fallM_t (keep := keep) h)
    go_enter Try.func7, Try.ntmps7
    go_wp2_with (go_at_call 14; refine (impl_JournalOk _ _ _).mono ?_; rintro e w' ⟨rfl, hb⟩; obtain ⟨X, rfl⟩ := hb.ext; clear hb)
    refine wp_region_ord [(0,true),(1,true),(2,true),(3,true),(4,true),(5,true),(6,true),(7,true),(8,true),(9,false),(10,true),(11,false)] 11 (by kernel_rfl) (by kernel_rfl) ?_
    repeat (refine wpOrd_quiet rfl (fun K hK => ?_); go_simp; (try simp (disch := omega) only [IntWalk.i64_in]); refine hK _ ?_; clear hK K)
    refine wpOrd_grow rfl (fun K hK => ?_); go_simp; go_at_call 15; refine (impl_Brought _ _ _ _).mono ?_; rintro e w' ⟨rfl, rfl⟩; try go_simp; refine hK _ _ (by show Sx _ _; (try simp only [← Array.append_assoc]); repeat (first | with_reducible exact Sx.drew _ | with_reducible exact Sx.same _ _ _ _ | with_reducible exact ⟨_, rfl⟩ | with_reducible apply Sx.more | with_reducible apply Sx.ext | with_reducible apply Sx.alloc | with_reducible apply Sx.draw | with_reducible exact Sx.refl _)) ?_; clear hK K
    repeat (refine wpOrd_quiet rfl (fun K hK => ?_); go_simp; (try simp (disch := omega) only [IntWalk.i64_in]); refine hK _ ?_; clear hK K)
    repeat (refine wpOrd_tail rfl rfl (fun K hK => ?_); go_simp; refine hK _ _ ?_; clear hK K)
    refine wpOrd_nil ?_
    go_wp2
    refine bodyPost_ret (by simp [results, Try.results7, go_sem]; rfl) rfl ?_
    exact ⟨H, (by repeat (first | with_reducible exact Below.refl _ _ | with_reducible apply Below.ofExt | with_reducible apply Below.ofAlloc | with_reducible apply Below.drew | with_reducible apply Below.ofDrewN | with_reducible assumption | (with_reducible refine Below.setCell ?_ (by first | exact Nat.le_refl _ | (simp [go_sem]; done) | (simp [go_sem]; omega)) _)))⟩
  · have hj : jOk t n = false := by simpa using h
    have H := ret_jour (fallT_f (keep := keep) hj) (fallM_f (keep := keep) hj)
    clear h
    go_enter Try.func7, Try.ntmps7
    go_wp2_with (go_at_call 14; refine (impl_JournalOk _ _ _).mono ?_; rintro e w' ⟨rfl, hb⟩; obtain ⟨X, rfl⟩ := hb.ext; clear hb)
    refine bodyPost_ret (by simp [results, Try.results7, go_sem]; rfl) rfl ?_
    exact ⟨H, (by repeat (first | with_reducible exact Below.refl _ _ | with_reducible apply Below.ofExt | with_reducible apply Below.ofAlloc | with_reducible apply Below.drew | with_reducible apply Below.ofDrewN | with_reducible assumption | (with_reducible refine Below.setCell ?_ (by first | exact Nat.le_refl _ | (simp [go_sem]; done) | (simp [go_sem]; omega)) _)))⟩

end Go.Proofs.Ytdehbojnflibhaa
