/- slices.Clone of strings, walked. Conditions: at most 1048576 of them. -/
import Derived.Test.YtldheoomlagapaaLed2
import Derived.Test.YtldheoomlagapaaToS
import Derived.Lib.SliceRun
namespace Go.Proofs.Ytldheoomlagapaa
open Go.RowKit
set_option maxHeartbeats 1000000 in
set_option maxRecDepth 100000 in
theorem cloneS_any {B n c : Nat} {A : Option Addr} {xs : List ByteArray} (w : World) (hA : Sees elStr w B A n xs) (hn : n ≤ 1048576) :
    Calls Try.prog 86 #[.slice A n c] w fun e w' => ∃ v, e = .returned v ∧ Owns elStr w' w.heap.size 9 v xs ∧ Below w.heap.size w w' := by
  have qT : ∀ (w : World) (a : Option Addr), (binOp .eql 22 (.slice a n c) (.slice none 0 0)).run Try.prog w = .ok (.bool a.isNone) w := fun w a => Lib.run_eql_slice_nil w _ _ a n c 0 0 Try.underlying22
  rcases A with _ | ad
  · have h0 : xs = [] := by
      rcases hA.2 with h | ⟨b, o, h, _⟩
      · exact List.eq_nil_of_length_eq_zero (by rw [hA.len, h])
      · cases h
    subst h0
    go_enter Try.func86, Try.ntmps86
    go_wp2
    go_ret
    exact ⟨_, rfl, World.ownsRow_nil _ _ _ _, Below.refl _ _⟩
  · obtain ⟨i0, hi, hz0, hz1, hz2⟩ := info_parts str_info
    have hS := (Led.nil w).empty elStr 9 w.heap.size rfl w.heap.size (Nat.le_refl _)
    go_enter Try.func86, Try.ntmps86
    go_wp2_with (first
      | (at_builtin; refine wpList_append_led rfl _ _ 22 rfl hS 0 rfl Try.underlying22 hi hz0 hz1 (by rw [hz2]; decide) rfl rfl rfl (hA.grow hS.bl) (by simp; omega) (by simp) ?_)
      | go_in)
    intro A' c' w1 hS1
    go_wp2
    go_ret
    exact ⟨_, rfl, hS1.own 0 rfl, hS1.bl⟩
end Go.Proofs.Ytldheoomlagapaa
