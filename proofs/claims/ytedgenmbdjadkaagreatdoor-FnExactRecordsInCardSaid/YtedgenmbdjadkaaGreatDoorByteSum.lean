/- FnExactByteSum returns true for every string, and leaves the memory as it was. No condition. -/
import Derived.Test.YtedgenmbdjadkaaGreatDoorExt
namespace Go.Proofs.YtedgenmbdjadkaaGreatDoor
open Go.ChangeShapes Go.WideShapes Go.ChangeAt Go.RowKit


def bsum (l : List UInt8) : Int := l.foldl (fun n c => (31 * n + (c.toNat : Int)) % 9973) 7

theorem bsum_bd (l : List UInt8) : 0 ≤ bsum l ∧ bsum l < 9973 := by
  have : ∀ (l : List UInt8) (n : Int), 0 ≤ n → n < 9973 → 0 ≤ l.foldl (fun n c => (31 * n + (c.toNat : Int)) % 9973) n ∧ l.foldl (fun n c => (31 * n + (c.toNat : Int)) % 9973) n < 9973 := by
    intro l
    induction l with
    | nil => intro n h1 h2; exact ⟨h1, h2⟩
    | cons c l ih => intro n h1 h2; exact ih _ (by dsimp only; omega) (by dsimp only; omega)
  exact this l 7 (by omega) (by omega)


theorem bsum_snoc (l : List UInt8) (c : UInt8) : bsum (l ++ [c]) = (31 * bsum l + (c.toNat : Int)) % 9973 := by
  simp [bsum, List.foldl_append]

set_option maxHeartbeats 400000 in
theorem spec_ByteSum (s : ByteArray) (w : World) (hs : s.size ≤ maxLen) :
    Calls Tryz.prog 50 #[.string s] w fun e w' => e = .returned (.int .i64 (bsum s.data.toList)) ∧ w' = w := by
  unfold maxLen at hs
  go_enter Tryz.func50, Tryz.ntmps50
  go_wp2
  go_loop [3, 4] (fun n i => ∃ k : Nat, k ≤ s.size ∧ i = .int .i64 k ∧ n = .int .i64 (bsum (s.data.toList.take k))) (fun _ i => s.size - (intOf i).toNat)
  case atStart => exact ⟨0, Nat.zero_le _, rfl, rfl⟩
  case round =>
    obtain ⟨k, hk, rfl, rfl⟩ := hrel
    have hd := bsum_bd (s.data.toList.take k)
    by_cases hlt : k < s.size
    · have hc : s[k].toNat < 256 := s[k].toNat_lt
      have HS : Hid (bsum (s.data.toList.take (k + 1)) = (31 * bsum (s.data.toList.take k) + (s[k].toNat : Int)) % 9973) := by rw [take_snoc s k hlt]; exact bsum_snoc _ _
      go_wp2
      all_goals
        go_round
        case rel => exact ⟨k + 1, by omega, by go_num, by rw [HS.out]⟩
        case measure => simp [intOf]; omega
    · go_wp2
      go_ret
      exact ⟨ret_int (by rw [List.take_of_length_le (by simp; omega)]), rfl⟩

set_option maxHeartbeats 400000 in
theorem impl_ByteSum (s : ByteArray) (w : World) (hs : s.size ≤ maxLen) :
    Calls Tryz.prog 57 #[.string s] w fun e w' => e = .returned (.int .i64 (bsum s.data.toList)) ∧ w' = w := by
  unfold maxLen at hs
  go_enter Tryz.func57, Tryz.ntmps57
  go_wp2
  go_loop [3, 7] (fun n i => ∃ k : Nat, k ≤ s.size ∧ i = .int .i64 k ∧ n = .int .i64 (bsum (s.data.toList.take k))) (fun _ i => s.size - (intOf i).toNat)
  case atStart => exact ⟨0, Nat.zero_le _, rfl, rfl⟩
  case round =>
    obtain ⟨k, hk, rfl, rfl⟩ := hrel
    have hd := bsum_bd (s.data.toList.take k)
    by_cases hlt : k < s.size
    · have hc : s[k].toNat < 256 := s[k].toNat_lt
      have HS : Hid (bsum (s.data.toList.take (k + 1)) = (31 * bsum (s.data.toList.take k) + (s[k].toNat : Int)) % 9973) := by rw [take_snoc s k hlt]; exact bsum_snoc _ _
      go_wp2
      all_goals
        go_round
        case rel => exact ⟨k + 1, by omega, by go_num, by rw [HS.out]⟩
        case measure => simp [intOf]; omega
    · go_wp2
      go_ret
      exact ⟨ret_int (by rw [List.take_of_length_le (by simp; omega)]), rfl⟩

end Go.Proofs.YtedgenmbdjadkaaGreatDoor
