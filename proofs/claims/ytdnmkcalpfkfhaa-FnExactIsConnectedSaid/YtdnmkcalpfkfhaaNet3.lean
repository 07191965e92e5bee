/- The reference's looks at a fiber, walked. Conditions: none. -/
import Derived.Test.YtdnmkcalpfkfhaaNet1
namespace Go.Proofs.Ytdnmkcalpfkfhaa
open Go.RowKit
theorem fibB_eq2 (n : Nat) (f : Fib) : fibB n f = (inB 0 ((n : Int) - 1) f.a && inB (f.a + 1) ((n : Int) - 1) f.b && inB 1 5000 f.len && inB 0 9 f.risk) := by
  unfold fibB inB; rw [Bool.eq_iff_iff]; simp; omega
set_option maxHeartbeats 1000000 in
set_option maxRecDepth 100000 in
theorem l2Fiber_any (f : Fib) (n : Nat) (w : World) (hn : n ≤ 1048576) :
    Calls Try.prog 133 #[fibV f, .int .i64 n] w fun e w' => e = .returned (.bool (fibB n f)) ∧ Below w.heap.size w w' := by
  obtain ⟨a, b, l, r⟩ := f
  rw [fibB_eq2]
  unfold fibV
  by_cases h1 : inB 0 ((n : Int) - 1) a = true
  · have h1' := h1
    unfold inB at h1'
    simp only [decide_eq_true_eq] at h1'
    obtain ⟨h2, h3⟩ := h1'
    have e1 : IntKind.i64.wrap ((n : Int) - 1) = (n : Int) - 1 := IntWalk.i64_in _ (by omega)
    have e2 : IntKind.i64.wrap (a + 1) = a + 1 := IntWalk.i64_in _ (by omega)
    cases h4 : inB (a + 1) ((n : Int) - 1) b <;> cases h5 : inB 1 5000 l <;> cases h6 : inB 0 9 r
    all_goals
      go_enter Try.func133, Try.ntmps133
      go_wp2_with (go_at_call 122; refine (l1In_any _ _ _ _).mono ?_; rintro e w' ⟨rfl, rfl⟩)
      go_ret
      exact ⟨ret_bool (by simp [*]), bl_alloc (Below.refl _ _) _⟩
  · have h1' : inB 0 ((n : Int) - 1) a = false := by simpa using h1
    clear h1
    go_enter Try.func133, Try.ntmps133
    go_wp2_with (go_at_call 122; refine (l1In_any _ _ _ _).mono ?_; rintro e w' ⟨rfl, rfl⟩)
    go_ret
    exact ⟨ret_bool (by simp [*]), bl_alloc (Below.refl _ _) _⟩
/-- A fiber whose numbers are small. -/
def smallF (f : Fib) : Prop := (0 ≤ f.a ∧ f.a ≤ 1048576) ∧ (0 ≤ f.b ∧ f.b ≤ 1048576) ∧ (0 ≤ f.len ∧ f.len ≤ 1048576) ∧ (0 ≤ f.risk ∧ f.risk ≤ 1048576)
theorem smallF_of {n : Nat} {f : Fib} (hn : n ≤ 1048576) (h : fibB n f = true) : smallF f := by unfold fibB at h; unfold smallF; simp at h; omega
set_option maxHeartbeats 1000000 in
set_option maxRecDepth 100000 in
theorem l2Before_any (f g : Fib) (w : World) (hf : smallF f) (hg : smallF g) :
    Calls Try.prog 134 #[fibV f, fibV g] w fun e w' => e = .returned (.int .i64 (befF f g)) ∧ Below w.heap.size w w' := by
  obtain ⟨a, b, l, r⟩ := f
  obtain ⟨a', b', l', r'⟩ := g
  obtain ⟨⟨h1, h2⟩, ⟨h3, h4⟩, ⟨h5, h6⟩, ⟨h7, h8⟩⟩ := hf
  obtain ⟨⟨k1, k2⟩, ⟨k3, k4⟩, ⟨k5, k6⟩, ⟨k7, k8⟩⟩ := hg
  simp only at h1 h2 h3 h4 h5 h6 h7 h8 k1 k2 k3 k4 k5 k6 k7 k8
  unfold fibV befF
  simp only
  by_cases e1 : a = a'
  · have e1' : (a != a') = false := by simp [e1]
    rw [if_pos e1]; clear e1
    by_cases e2 : b = b'
    · have e2' : (b != b') = false := by simp [e2]
      rw [if_pos e2]; clear e2
      by_cases e3 : l = l'
      · have e3' : (l != l') = false := by simp [e3]
        rw [if_pos e3]; clear e3
        go_enter Try.func134, Try.ntmps134
        go_wp2
        go_ret
        exact ⟨rfl, bl_alloc (bl_alloc (Below.refl _ _) _) _⟩
      · have e3' : (l != l') = true := by simp [e3]
        rw [if_neg e3]; clear e3
        go_enter Try.func134, Try.ntmps134
        go_wp2
        go_ret
        exact ⟨rfl, bl_alloc (bl_alloc (Below.refl _ _) _) _⟩
    · have e2' : (b != b') = true := by simp [e2]
      rw [if_neg e2]; clear e2
      go_enter Try.func134, Try.ntmps134
      go_wp2
      go_ret
      exact ⟨rfl, bl_alloc (bl_alloc (Below.refl _ _) _) _⟩
  · have e1' : (a != a') = true := by simp [e1]
    rw [if_neg e1]; clear e1
    go_enter Try.func134, Try.ntmps134
    go_wp2
    go_ret
    exact ⟨rfl, bl_alloc (bl_alloc (Below.refl _ _) _) _⟩
end Go.Proofs.Ytdnmkcalpfkfhaa
