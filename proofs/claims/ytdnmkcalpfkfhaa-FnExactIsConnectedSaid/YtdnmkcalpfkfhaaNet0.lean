/- Small functions of the networks' chapter, walked: ranges, names, comparing. Conditions: none. -/
import Derived.Test.YtdnmkcalpfkfhaaRows
import Derived.Test.YtdnmkcalpfkfhaaKit
namespace Go.Proofs.Ytdnmkcalpfkfhaa
open Go.RowKit
/-- In a range. -/
def inB (lo hi n : Int) : Bool := decide (lo ≤ n ∧ n ≤ hi)
theorem within_any (n lo hi : Int) (w : World) :
    Calls Try.prog 107 #[.int .i64 n, .int .i64 lo, .int .i64 hi] w fun e w' => e = .returned (.bool (inB lo hi n)) ∧ w = w' := by
  by_cases h1 : lo ≤ n <;> by_cases h2 : n ≤ hi
  all_goals
    go_enter Try.func107, Try.ntmps107
    go_wp2
    go_ret
    exact ⟨by simp [inB, h1, h2], rfl⟩
theorem l1In_any (n lo hi : Int) (w : World) :
    Calls Try.prog 122 #[.int .i64 n, .int .i64 lo, .int .i64 hi] w fun e w' => e = .returned (.bool (inB lo hi n)) ∧ w = w' := by
  by_cases h1 : lo ≤ n <;> by_cases h2 : n ≤ hi
  all_goals
    go_enter Try.func122, Try.ntmps122
    go_wp2
    go_ret
    exact ⟨by simp [inB, h1, h2], rfl⟩
/-- Comparing numbers. -/
def cmpB (a b : Int) : Int := if a < b then -1 else if b < a then 1 else 0
theorem compare_any (a b : Int) (w : World) :
    Calls Try.prog 115 #[.int .i64 a, .int .i64 b] w fun e w' => e = .returned (.int .i64 (cmpB a b)) ∧ w = w' := by
  by_cases h1 : a < b
  · go_enter Try.func115, Try.ntmps115
    go_wp2
    go_ret
    exact ⟨by simp [cmpB, h1], rfl⟩
  · by_cases h2 : b < a
    · go_enter Try.func115, Try.ntmps115
      go_wp2
      go_ret
      exact ⟨by rw [cmpB, if_neg (by omega), if_pos (by omega)]; rfl, rfl⟩
    · go_enter Try.func115, Try.ntmps115
      go_wp2
      go_ret
      exact ⟨by rw [cmpB, if_neg (by omega), if_neg (by omega)]; rfl, rfl⟩
end Go.Proofs.Ytdnmkcalpfkfhaa
