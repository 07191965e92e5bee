/- The other end of a fiber: the program's and the reference's functions, walked. Conditions: none. -/
import Derived.Test.YtdnmkcalpfkfhaaNetIs
namespace Go.Proofs.Ytdnmkcalpfkfhaa
open Go.RowKit
def otherF (f : Fib) (v : Int) : Int := if v = f.a then f.b else if v = f.b then f.a else -1
theorem otherF_bd {n : Nat} {f : Fib} (h : fibB n f = true) (v : Int) : -1 ≤ otherF f v ∧ otherF f v < n := by
  unfold fibB at h; simp at h; unfold otherF; split <;> (try split) <;> omega
theorem otherF_out {n : Nat} {f : Fib} {v : Int} (h : fibB n f = true) (hv : inB 0 ((n : Int) - 1) v = false) : otherF f v = -1 := by
  unfold fibB at h; simp at h; unfold inB at hv; simp at hv; unfold otherF; rw [if_neg (by omega), if_neg (by omega)]
set_option maxRecDepth 100000 in
theorem otherEnd_any (f : Fib) (v : Int) (w : World) :
    Calls Try.prog 109 #[fibV f, .int .i64 v] w fun e w' => e = .returned (.int .i64 (otherF f v)) ∧ Below w.heap.size w w' := by
  obtain ⟨a, b, l, r⟩ := f
  unfold fibV otherF
  simp only
  by_cases h1 : v = a
  · have e1 : (v == a) = true := by simp [h1]
    rw [if_pos h1]; clear h1
    go_enter Try.func109, Try.ntmps109
    go_wp2
    go_ret
    exact ⟨rfl, bl_alloc (Below.refl _ _) _⟩
  · have e1 : (v == a) = false := by simp [h1]
    rw [if_neg h1]; clear h1
    by_cases h2 : v = b
    · have e2 : (v == b) = true := by simp [h2]
      rw [if_pos h2]; clear h2
      go_enter Try.func109, Try.ntmps109
      go_wp2
      go_ret
      exact ⟨rfl, bl_alloc (Below.refl _ _) _⟩
    · have e2 : (v == b) = false := by simp [h2]
      rw [if_neg h2]; clear h2
      go_enter Try.func109, Try.ntmps109
      go_wp2
      go_ret
      exact ⟨rfl, bl_alloc (Below.refl _ _) _⟩
section
variable {n c m d : Nat} {A A' : Option Addr} {xs : List ByteArray} {fs : List Fib}
set_option maxRecDepth 100000 in
theorem l2Other_any (i : Int) (v : Int) (w : World) (h : NetIs w A n c A' m d xs fs) {f : Fib} (h0 : 0 ≤ i) (h1 : i < m) (hf : fs[i.toNat]? = some f) :
    Calls Try.prog 135 #[.agg #[.slice A n c, .slice A' m d], .int .i64 i, .int .i64 v] w fun e w' => e = .returned (.int .i64 (otherF f v)) ∧ Below w.heap.size w w' := by
  have hb0 := bl_alloc (Below.refl w.heap.size w) (.cells #[.slice A n c, .slice A' m d] 35)
  obtain ⟨b, o, rfl, _, hc⟩ := (h.grow hb0).fibs.at_ (k := i.toNat) (by omega)
  have f0 := hc _ f hf 0 _ rfl
  have f1 := hc _ f hf 1 _ rfl
  have f2 := hc _ f hf 2 _ rfl
  have f3 := hc _ f hf 3 _ rfl
  simp only [elFib, Nat.add_zero] at f0 f1 f2 f3
  have hm := h.mle
  clear hc hf h
  obtain ⟨a, b', l, r⟩ := f
  unfold otherF
  simp only at f0 f1 f2 f3 ⊢
  by_cases h2 : v = a
  · have e1 : (v == a) = true := by simp [h2]
    rw [if_pos h2]; clear h2
    go_enter Try.func135, Try.ntmps135
    go_wp2
    go_ret
    exact ⟨rfl, bl_alloc hb0 _⟩
  · have e1 : (v == a) = false := by simp [h2]
    rw [if_neg h2]; clear h2
    by_cases h3 : v = b'
    · have e2 : (v == b') = true := by simp [h3]
      rw [if_pos h3]; clear h3
      go_enter Try.func135, Try.ntmps135
      go_wp2
      go_ret
      exact ⟨rfl, bl_alloc hb0 _⟩
    · have e2 : (v == b') = false := by simp [h3]
      rw [if_neg h3]; clear h3
      go_enter Try.func135, Try.ntmps135
      go_wp2
      go_ret
      exact ⟨rfl, bl_alloc hb0 _⟩
end
end Go.Proofs.Ytdnmkcalpfkfhaa
