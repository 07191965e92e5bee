/- The checksum of a list of bytes, in plain Lean: no program in sight. Conditions: none. -/
import Derived.Below
namespace Go.Proofs.Ytdnmkcalpfkfhaa
namespace Chk
/-- One byte's turn. -/
def step (h : Int) (c : UInt8) : Int := (41 * h + (c.toNat : Int) + 1) % 999979
/-- The checksum. -/
def sum (l : List UInt8) : Int := l.foldl step 7
theorem step_bd (h : Int) (c : UInt8) : 0 ≤ step h c ∧ step h c < 999979 := by unfold step; omega
theorem sum_bd (l : List UInt8) : 0 ≤ sum l ∧ sum l < 999979 := by
  unfold sum
  have : ∀ (l : List UInt8) (a : Int), 0 ≤ a ∧ a < 999979 → 0 ≤ l.foldl step a ∧ l.foldl step a < 999979 := by
    intro l
    induction l with
    | nil => intro a h; exact h
    | cons c l ih => intro a _; exact ih _ (step_bd a c)
  exact this l 7 (by omega)
theorem sum_snoc (l : List UInt8) (c : UInt8) : sum (l ++ [c]) = (41 * sum l + (c.toNat : Int) + 1) % 999979 := by
  unfold sum; rw [List.foldl_append]; rfl
end Chk
theorem take_snoc (s : ByteArray) (k : Nat) (h : k < s.size) : s.data.toList.take (k + 1) = s.data.toList.take k ++ [s[k]] := by
  rw [List.take_succ_eq_append_getElem (by simpa using h)]; rfl
theorem ret_int {k : IntKind} {a b : Int} (h : a = b) : Ending.returned (.int k a) = .returned (.int k b) := by rw [h]
end Go.Proofs.Ytdnmkcalpfkfhaa
