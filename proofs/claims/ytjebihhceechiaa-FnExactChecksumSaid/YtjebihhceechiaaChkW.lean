/- The two checksum functions, walked: each returns Chk.sum of its string and leaves the world as it was. Conditions: the string has at most 1048576 bytes. -/
import Derived.Test.YtjebihhceechiaaRows
import Derived.Test.YtjebihhceechiaaChk
import Derived.WalkKit
namespace Go.Proofs.Ytjebihhceechiaa
open Go.RowKit
theorem implChecksum_any (s : ByteArray) (w : World) (hs : s.size ≤ 1048576) :
    Calls Try.prog 27 #[.string s] w fun e w' => e = .returned (.int .i64 (Chk.sum s.data.toList)) ∧ w = w' := by
  go_enter Try.func27, Try.ntmps27
  go_wp2
  go_loop [3, 4] (fun h i => ∃ k : Nat, k ≤ s.size ∧ i = .int .i64 k ∧ h = .int .i64 (Chk.sum (s.data.toList.take k))) (fun _ i => s.size - (intOf i).toNat)
  case atStart => exact ⟨0, Nat.zero_le _, rfl, rfl⟩
  case round =>
    obtain ⟨k, hk, rfl, rfl⟩ := hrel
    have hd := Chk.sum_bd (s.data.toList.take k)
    by_cases hlt : k < s.size
    · have HS : Hid (Chk.sum (s.data.toList.take (k + 1)) = (41 * Chk.sum (s.data.toList.take k) + (s[k].toNat : Int) + 1) % 999979) := by
        rw [take_snoc s k hlt]; exact Chk.sum_snoc _ _
      have hb : (s[k].toNat : Int) < 256 := by have := s[k].toNat_lt; omega
      go_wp2
      go_round
      case rel => exact ⟨k + 1, by omega, by go_num, by rw [HS.out]⟩
      case measure => simp [intOf]; omega
    · go_wp2
      go_ret
      exact ⟨ret_int (by rw [List.take_of_length_le (by simp; omega)]), rfl⟩
theorem specSum_any (s : ByteArray) (w : World) (hs : s.size ≤ 1048576) :
    Calls Try.prog 26 #[.string s] w fun e w' => e = .returned (.int .i64 (Chk.sum s.data.toList)) ∧ w = w' := by
  go_enter Try.func26, Try.ntmps26
  go_wp2
  go_loop [3, 4] (fun h i => ∃ k : Nat, k ≤ s.size ∧ i = .int .i64 k ∧ h = .int .i64 (Chk.sum (s.data.toList.take k))) (fun _ i => s.size - (intOf i).toNat)
  case atStart => exact ⟨0, Nat.zero_le _, rfl, rfl⟩
  case round =>
    obtain ⟨k, hk, rfl, rfl⟩ := hrel
    have hd := Chk.sum_bd (s.data.toList.take k)
    by_cases hlt : k < s.size
    · have HS : Hid (Chk.sum (s.data.toList.take (k + 1)) = (41 * Chk.sum (s.data.toList.take k) + (s[k].toNat : Int) + 1) % 999979) := by
        rw [take_snoc s k hlt]; exact Chk.sum_snoc _ _
      have hb : (s[k].toNat : Int) < 256 := by have := s[k].toNat_lt; omega
      go_wp2
      go_round
      case rel => exact ⟨k + 1, by omega, by go_num, by rw [HS.out]⟩
      case measure => simp [intOf]; omega
    · go_wp2
      go_ret
      exact ⟨ret_int (by rw [List.take_of_length_le (by simp; omega)]), rfl⟩
end Go.Proofs.Ytjebihhceechiaa
