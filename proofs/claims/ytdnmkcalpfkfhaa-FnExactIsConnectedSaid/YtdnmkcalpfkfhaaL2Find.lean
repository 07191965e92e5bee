/- The reference's l2Find, walked. Conditions: none. -/
import Derived.Test.YtdnmkcalpfkfhaaRows
import Derived.Test.YtdnmkcalpfkfhaaFind
namespace Go.Proofs.Ytdnmkcalpfkfhaa
open Go.RowKit
theorem l2Find_any {B n c : Nat} {A : Option Addr} {xs : List ByteArray} (s : ByteArray) (w : World) (hA : Sees elStr w B A n xs) (hn : n ≤ maxLen) :
    Calls Try.prog 132 #[.slice A n c, .string s] w fun e w' => e = .returned (.int .i64 (findI xs s)) ∧ w = w' := by
  unfold maxLen at hn
  go_enter Try.func132, Try.ntmps132
  go_wp2
  go_loop [5] (fun i => ∃ k : Nat, k ≤ n ∧ i = .int .i64 k ∧ Hid (noneTo xs s k)) (fun i => n - (intOf i).toNat)
  case atStart => exact ⟨0, Nat.zero_le _, rfl, noneTo_zero⟩
  case round =>
    obtain ⟨k, hk, rfl, hno⟩ := hrel
    by_cases hlt : k < n
    · obtain ⟨b, o, rfl, _, hx⟩ := hA.at_ hlt
      obtain ⟨x, hxk⟩ : ∃ x, xs[k]? = some x := ⟨xs[k]'(by rw [hA.len]; exact hlt), List.getElem?_eq_getElem _⟩
      have hc := hx k x hxk 0 _ rfl
      simp only [elStr, Nat.mul_one, Nat.add_zero] at hc
      clear hx
      by_cases heq : x = s
      · subst heq
        have HF := hid (findI_at hno hxk)
        clear hxk
        go_wp2
        go_ret
        exact ⟨by rw [HF.out]; rfl, rfl⟩
      · have hne := str_ne heq
        have HN := hid (noneTo_succ hno hxk heq)
        clear hxk hno
        go_wp2
        go_round
        case rel => exact ⟨k + 1, by omega, by go_num, HN⟩
        case measure => simp [intOf]; omega
    · have HF : Hid (findI xs s = -1) := findI_none hA.len (by obtain rfl : k = n := (by omega); exact hno.out)
      go_wp2
      go_ret
      exact ⟨by rw [HF.out]; rfl, rfl⟩
end Go.Proofs.Ytdnmkcalpfkfhaa
