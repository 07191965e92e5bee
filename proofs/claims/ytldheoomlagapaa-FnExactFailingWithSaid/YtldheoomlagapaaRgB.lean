/- How many risk groups there are, and how great. Conditions: none. -/
import Derived.Test.YtldheoomlagapaaRg
import Derived.Test.YtldheoomlagapaaMarkSs
import Derived.Test.YtldheoomlagapaaNetIs
namespace Go.Proofs.Ytldheoomlagapaa
open Go.RowKit
theorem offS_bd {k : Int} {rows : List (List Int)} {L : Nat} (h : ∀ r ∈ rows, r.length ≤ L) : ∀ j, j ≤ rows.length → offS k rows j ≤ k + ((j * L : Nat) : Int) := by
  intro j
  induction j with
  | zero => intro _; rw [offS_zero]; omega
  | succ j ih =>
    intro hj
    obtain ⟨r, hr⟩ : ∃ r, rows[j]? = some r := ⟨rows[j]'(by omega), List.getElem?_eq_getElem _⟩
    have h1 := ih (by omega)
    have h2 := h r (List.mem_of_getElem? hr)
    rw [offS_succ hr, Nat.add_mul]
    omega
theorem groups_row {fs : List Fib} {r : List Int} (h : r ∈ groupsL fs) : r.length ≤ fs.length + 1 := by
  unfold groupsL rkTo zrTo at h
  rcases List.mem_append.1 h with h | h
  · have h1 := (List.mem_filter.1 h).1
    obtain ⟨t, _, rfl⟩ := List.mem_map.1 h1
    unfold rkRow
    exact Nat.le_trans (idsTo_len _ _) (Nat.le_succ _)
  · obtain ⟨x, _, rfl⟩ := List.mem_map.1 h
    simp
theorem groups_len (fs : List Fib) : (groupsL fs).length ≤ 9 + fs.length := by
  unfold groupsL
  rw [List.length_append]
  have := rkTo_len fs 9
  have := zrTo_len fs fs.length
  omega
theorem rgL_small (xs : List ByteArray) (fs : List Fib) : (rgL xs fs).length ≤ 23 ∧ ∀ r ∈ rgL xs fs, r.length ≤ 15 := by
  unfold rgL
  cases g : goodB xs fs
  · exact ⟨by simp, fun r h => by simp at h⟩
  · have hb := goodB_bd g
    have := groups_len fs
    exact ⟨by simp; omega, fun r h => by simp at h; have := groups_row h; omega⟩
theorem rgL_off (xs : List ByteArray) (fs : List Fib) : offS 1 (rgL xs fs) (rgL xs fs).length ≤ 1000 := by
  obtain ⟨h1, h2⟩ := rgL_small xs fs
  have := offS_bd (k := 1) h2 (rgL xs fs).length (Nat.le_refl _)
  have h3 : (rgL xs fs).length * 15 ≤ 23 * 15 := Nat.mul_le_mul_right _ h1
  omega
end Go.Proofs.Ytldheoomlagapaa
