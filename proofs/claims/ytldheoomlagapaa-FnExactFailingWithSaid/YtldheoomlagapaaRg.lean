/- RiskGroups of both sides and the reference's FailingWith, walked. Conditions: none. -/
import Derived.Test.YtldheoomlagapaaRows
import Derived.Test.YtldheoomlagapaaL2Groups
import Derived.Test.YtldheoomlagapaaNet0
namespace Go.Proofs.Ytldheoomlagapaa
open Go.RowKit
variable {n c m d : Nat} {A A' : Option Addr} {xs : List ByteArray} {fs : List Fib}
def rgL (xs : List ByteArray) (fs : List Fib) : List (List Int) := if goodB xs fs then groupsL fs else []
def fwB (xs : List ByteArray) (fs : List Fib) (i : Int) : Bool := goodB xs fs && inB 0 ((fs.length : Int) - 1) i
def fwL (xs : List ByteArray) (fs : List Fib) (i : Int) : List Int := if fwB xs fs i then groupL fs i.toNat else []
set_option maxHeartbeats 1000000 in
set_option maxRecDepth 100000 in
theorem implRiskGroups (w : World) (h : NetIs w A n c A' m d xs fs) :
    Calls Try.prog 33 #[.agg #[.slice A n c, .slice A' m d]] w fun e w' => ∃ s ss, e = .returned (.tuple #[slV s, .bool (goodB xs fs)]) ∧ OwnsSS w' w.heap.size (slV s) ss (rgL xs fs) ∧ Below w.heap.size w w' := by
  have hb0 := bl_alloc (Below.refl w.heap.size w) (.cells #[.slice A n c, .slice A' m d] 30)
  have hx0 : Blk (w.alloc (.cells #[.slice A n c, .slice A' m d] 30)) w.heap.size 30 #[.slice A n c, .slice A' m d] := Blk.new _ _ _
  have h0 := h.grow hb0
  cases g : goodB xs fs
  · have H : Hid (rgL xs fs = []) := by unfold Hid rgL; rw [g]; rfl
    go_enter Try.func33, Try.ntmps33
    go_wp2_with fail
    refine (validN _ h0).mono ?_
    rintro e w2 ⟨rfl, hb2⟩
    rw [g]
    go_wp2_with fail
    go_ret2
    exact ⟨⟨none, 0, 0⟩, [], rfl, by rw [H.out]; exact OwnsSS.nil _ _, bl_then hb0 hb2⟩
  · have H : Hid (rgL xs fs = groupsL fs) := by unfold Hid rgL; rw [g]; rfl
    go_enter Try.func33, Try.ntmps33
    go_wp2_with fail
    refine (validN _ h0).mono ?_
    rintro e w2 ⟨rfl, hb2⟩
    rw [g]
    have q0 := (hx0.below hb2 hx0.lt).cell 0
    have q1 := (hx0.below hb2 hx0.lt).cell 1
    simp at q0 q1
    have hbw := bl_then hb0 hb2
    go_wp2_with fail
    refine (groups_any _ (h.grow hbw)).mono ?_
    rintro e w3 ⟨s, ss, rfl, hs, hb3⟩
    have HS := hid hs
    clear hs
    go_wp2_with fail
    go_ret2
    exact ⟨s, ss, rfl, by rw [H.out]; exact HS.out.base_ hbw.size, bl_then hbw hb3⟩
set_option maxHeartbeats 1000000 in
set_option maxRecDepth 100000 in
theorem specRiskGroups (w : World) (h : NetIs w A n c A' m d xs fs) :
    Calls Try.prog 32 #[.agg #[.slice A n c, .slice A' m d]] w fun e w' => ∃ s ss, e = .returned (.tuple #[slV s, .bool (goodB xs fs)]) ∧ OwnsSS w' w.heap.size (slV s) ss (rgL xs fs) ∧ Below w.heap.size w w' := by
  have hb0 := bl_alloc (Below.refl w.heap.size w) (.cells #[.slice A n c, .slice A' m d] 30)
  have hx0 : Blk (w.alloc (.cells #[.slice A n c, .slice A' m d] 30)) w.heap.size 30 #[.slice A n c, .slice A' m d] := Blk.new _ _ _
  have h0 := h.grow hb0
  cases g : goodB xs fs
  · have H : Hid (rgL xs fs = []) := by unfold Hid rgL; rw [g]; rfl
    go_enter Try.func32, Try.ntmps32
    go_wp2_with fail
    refine (goodN _ h0).mono ?_
    rintro e w2 ⟨rfl, hb2⟩
    rw [g]
    go_wp2_with fail
    go_ret2
    have hbw := bl_then hb0 hb2
    exact ⟨⟨some ⟨w2.heap.size, 0, none⟩, 0, 0⟩, [], rfl, by rw [H.out]; exact ⟨Owns.of_blk (E := elSl) (n := 0) (cap := 0) (cur := #[]) (Blk.new w2 40 #[]) hbw.size rfl (Nat.le_refl _) rfl (by decide) (Filled.zero _ _ _), rfl, fun i s r h1 => by simp at h1, fun i j s t g _ h1 => by simp at h1⟩, bl_alloc hbw _⟩
  · have H : Hid (rgL xs fs = groupsL fs) := by unfold Hid rgL; rw [g]; rfl
    go_enter Try.func32, Try.ntmps32
    go_wp2_with fail
    refine (goodN _ h0).mono ?_
    rintro e w2 ⟨rfl, hb2⟩
    rw [g]
    have q0 := (hx0.below hb2 hx0.lt).cell 0
    have q1 := (hx0.below hb2 hx0.lt).cell 1
    simp at q0 q1
    have hbw := bl_then hb0 hb2
    go_wp2_with fail
    refine (l2Groups_any _ (h.grow hbw)).mono ?_
    rintro e w3 ⟨s, ss, rfl, hs, hb3⟩
    have HS := hid hs
    clear hs
    go_wp2_with fail
    go_ret2
    exact ⟨s, ss, rfl, by rw [H.out]; exact HS.out.base_ hbw.size, bl_then hbw hb3⟩
end Go.Proofs.Ytldheoomlagapaa
