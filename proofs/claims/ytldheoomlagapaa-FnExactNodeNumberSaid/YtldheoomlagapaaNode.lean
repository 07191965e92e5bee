/- NodeNumber of the program and of the reference, walked: one number and one flag. Conditions: none. -/
import Derived.Test.YtldheoomlagapaaNetIs
namespace Go.Proofs.Ytldheoomlagapaa
open Go.RowKit
def nnB (xs : List ByteArray) (fs : List Fib) (s : ByteArray) : Bool := goodB xs fs && decide (0 ≤ findI xs s)
def nnI (xs : List ByteArray) (fs : List Fib) (s : ByteArray) : Int := if nnB xs fs s then findI xs s else 0
section
variable {n c m d : Nat} {A A' : Option Addr} {xs : List ByteArray} {fs : List Fib}
set_option maxRecDepth 100000 in
theorem implNode (s : ByteArray) (w : World) (h : NetIs w A n c A' m d xs fs) :
    Calls Try.prog 21 #[.agg #[.slice A n c, .slice A' m d], .string s] w fun e w' => e = .returned (.tuple #[.int .i64 (nnI xs fs s), .bool (nnB xs fs s)]) ∧ Below w.heap.size w w' := by
  have hb0 := bl_alloc (Below.refl w.heap.size w) (.cells #[.slice A n c, .slice A' m d] 30)
  have h0 := h.grow hb0
  have hno : (goodB xs fs = false ∨ (goodB xs fs = true ∧ (decide (findI xs s < 0) = true ∨ decide (findI xs s < 0) = false))) := by
    cases goodB xs fs <;> cases decide (findI xs s < 0) <;> simp
  rcases hno with g | ⟨g, g2 | g2⟩
  · have H : Hid (nnI xs fs s = 0 ∧ nnB xs fs s = false) := by unfold Hid nnI nnB; simp [g]
    go_enter Try.func21, Try.ntmps21
    go_wp2_with fail
    refine (indexS_any s _ h0.strs (by have := h.nle; simp only [maxLen]; omega)).mono ?_
    rintro e w1 ⟨rfl, rfl⟩
    go_wp2_with fail
    refine (validN _ h0).mono ?_
    rintro e w2 ⟨rfl, hb2⟩
    go_wp2_with fail
    go_ret2
    exact ⟨by rw [H.out.1, H.out.2]; rfl, bl_then hb0 hb2⟩
  · have H : Hid (nnI xs fs s = 0 ∧ nnB xs fs s = false) := by unfold Hid nnI nnB; simp at g2; simp [g]; omega
    go_enter Try.func21, Try.ntmps21
    go_wp2_with fail
    refine (indexS_any s _ h0.strs (by have := h.nle; simp only [maxLen]; omega)).mono ?_
    rintro e w1 ⟨rfl, rfl⟩
    go_wp2_with fail
    refine (validN _ h0).mono ?_
    rintro e w2 ⟨rfl, hb2⟩
    go_wp2_with fail
    go_ret2
    exact ⟨by rw [H.out.1, H.out.2]; rfl, bl_then hb0 hb2⟩
  · have H : Hid (nnI xs fs s = findI xs s ∧ nnB xs fs s = true) := by unfold Hid nnI nnB; simp at g2; simp [g, g2]
    go_enter Try.func21, Try.ntmps21
    go_wp2_with fail
    refine (indexS_any s _ h0.strs (by have := h.nle; simp only [maxLen]; omega)).mono ?_
    rintro e w1 ⟨rfl, rfl⟩
    go_wp2_with fail
    refine (validN _ h0).mono ?_
    rintro e w2 ⟨rfl, hb2⟩
    go_wp2_with fail
    go_ret2
    exact ⟨by rw [H.out.1, H.out.2]; rfl, bl_then hb0 hb2⟩
set_option maxRecDepth 100000 in
theorem specNode (s : ByteArray) (w : World) (h : NetIs w A n c A' m d xs fs) :
    Calls Try.prog 20 #[.agg #[.slice A n c, .slice A' m d], .string s] w fun e w' => e = .returned (.tuple #[.int .i64 (nnI xs fs s), .bool (nnB xs fs s)]) ∧ Below w.heap.size w w' := by
  have hb0 := bl_alloc (Below.refl w.heap.size w) (.cells #[.slice A n c, .slice A' m d] 30)
  have hx0 : Blk (w.alloc (.cells #[.slice A n c, .slice A' m d] 30)) w.heap.size 30 #[.slice A n c, .slice A' m d] := Blk.new _ _ _
  have h0 := h.grow hb0
  have hno : (goodB xs fs = false ∨ (goodB xs fs = true ∧ (decide (findI xs s < 0) = true ∨ decide (findI xs s < 0) = false))) := by
    cases goodB xs fs <;> cases decide (findI xs s < 0) <;> simp
  rcases hno with g | ⟨g, g2 | g2⟩
  · have H : Hid (nnI xs fs s = 0 ∧ nnB xs fs s = false) := by unfold Hid nnI nnB; simp [g]
    go_enter Try.func20, Try.ntmps20
    go_wp2_with fail
    refine (goodN _ h0).mono ?_
    rintro e w2 ⟨rfl, hb2⟩
    go_wp2_with fail
    go_ret2
    exact ⟨by rw [H.out.1, H.out.2]; rfl, bl_then hb0 hb2⟩
  · have H : Hid (nnI xs fs s = 0 ∧ nnB xs fs s = false) := by unfold Hid nnI nnB; simp at g2; simp [g]; omega
    go_enter Try.func20, Try.ntmps20
    go_wp2_with fail
    refine (goodN _ h0).mono ?_
    rintro e w2 ⟨rfl, hb2⟩
    have q0 := (hx0.below hb2 hx0.lt).cell 0
    simp at q0
    go_wp2_with fail
    refine (l2Find_any s _ (h0.grow hb2).strs (by have := h.nle; simp only [maxLen]; omega)).mono ?_
    rintro e w1 ⟨rfl, rfl⟩
    go_wp2_with fail
    go_ret2
    exact ⟨by rw [H.out.1, H.out.2]; rfl, bl_then hb0 hb2⟩
  · have H : Hid (nnI xs fs s = findI xs s ∧ nnB xs fs s = true) := by unfold Hid nnI nnB; simp at g2; simp [g, g2]
    go_enter Try.func20, Try.ntmps20
    go_wp2_with fail
    refine (goodN _ h0).mono ?_
    rintro e w2 ⟨rfl, hb2⟩
    have q0 := (hx0.below hb2 hx0.lt).cell 0
    simp at q0
    go_wp2_with fail
    refine (l2Find_any s _ (h0.grow hb2).strs (by have := h.nle; simp only [maxLen]; omega)).mono ?_
    rintro e w1 ⟨rfl, rfl⟩
    go_wp2_with fail
    refine (l2Find_any s _ (h0.grow hb2).strs (by have := h.nle; simp only [maxLen]; omega)).mono ?_
    rintro e w1 ⟨rfl, rfl⟩
    go_wp2_with fail
    go_ret2
    exact ⟨by rw [H.out.1, H.out.2]; rfl, bl_then hb0 hb2⟩
end
end Go.Proofs.Ytldheoomlagapaa
