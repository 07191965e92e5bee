/- FnExactOtherEnd, walked. Conditions: none. -/
import Derived.Test.YtldheoomlagapaaOtherEnd
import Derived.Test.YtldheoomlagapaaSzN
import Derived.Test.YtldheoomlagapaaEqN
import Derived.Test.YtldheoomlagapaaOpenN
import Derived.Test.YtldheoomlagapaaNetIs
import Derived.Deep.RegionHeld3
namespace Go.Proofs.Ytldheoomlagapaa.fnExactOtherEnd
open Go.RowKit
set_option maxHeartbeats 1000000 in
set_option maxRecDepth 100000 in
theorem walk (w : World) {A A' : Option Addr} {n c m d : Nat} {xs : List ByteArray} {fs : List Fib} (h : NetArg w A n c A' m d xs fs) {a1 : Int} (_u1 : -9223372036854775808 ≤ a1 ∧ a1 ≤ 9223372036854775807) {a2 : Int} (_u2 : -9223372036854775808 ≤ a2 ∧ a2 ≤ 9223372036854775807) :
    Calls Try.prog 6 #[.agg #[.slice A n c, .slice A' m d], .int .i64 a1, .int .i64 a2] w fun e w' => e = .returned (.bool true) ∧ Below w.heap.size w w' := by
  obtain ⟨⟨hnc, hcm, hA, hx⟩, ⟨hmd, hdm, hF, _⟩⟩ := h
  have hb0 := bl_alloc (Below.refl w.heap.size w) (.cells #[.slice A n c, .slice A' m d] 25)
  have hbx : Blk (w.alloc (.cells #[.slice A n c, .slice A' m d] 25)) w.heap.size 25 #[.slice A n c, .slice A' m d] := Blk.new _ _ _
  have k1 := hA.below hb0
  have k2 := hF.below hb0
  rcases lessI_bd (left := 1048576) (t := netTot xs fs) with ⟨h1, _⟩ | ⟨h1, h2, h3⟩
  · have HS := hid h1
    clear h1
    go_enter Try.func6, Try.ntmps6
    go_wp2_with fail
    refine (szNetwork_any 1048576 _ k1 k2 (by simp) (by omega) (by omega) hx (by omega) (by omega)).mono ?_
    rintro e w1 ⟨rfl, hb1⟩
    rw [HS.out]
    go_wp2_with fail
    go_ret
    exact ⟨rfl, bl_then hb0 hb1⟩
  · have hn : n ≤ 1048576 := by have := hA.len; unfold netTot strTot at h3; omega
    have hm : m ≤ 1048576 := by have := hF.len; unfold netTot strTot at h3; omega
    have hI := hid (show NetIs w A n c A' m d xs fs from ⟨⟨hnc, hn⟩, ⟨hmd, hm⟩, hA, hF, hx⟩)
    clear h3
    go_enter Try.func6, Try.ntmps6
    go_wp2_with fail
    refine (szNetwork_any 1048576 _ k1 k2 (by simp) (by omega) (by omega) hx (by omega) (by omega)).mono ?_
    generalize lessI 1048576 (netTot xs fs) = r at *
    rintro e w1 ⟨rfl, hb1⟩
    have hbx1 := hbx.below hb1 hbx.lt
    have hbw1 := bl_then hb0 hb1
    have q0 := hbx1.cell 0
    have q1 := hbx1.cell 1
    simp at q0 q1
    go_wp2_with fail
    have hI1 := hid (hI.out.grow hbw1)
    refine (toNetwork_own w1 hI1.out.strs hI1.out.fibs (Nat.le_refl _) hn hm).mono ?_
    rintro e w2 ⟨A1, c1, A2, c2, rfl, hN1, hb2⟩
    go_wp2_with fail
    refine (specOther a1 a2 w2 (hN1.is hn hm hx)).mono ?_
    rintro e w3 ⟨rfl, hb3⟩
    have hbw3 := bl_then (bl_then hbw1 hb2) hb3
    have hbx3 := (hbx1.below hb2 hbx1.lt).below hb3 (Nat.lt_of_lt_of_le hbx1.lt hb2.size)
    have q0 := hbx3.cell 0
    have q1 := hbx3.cell 1
    simp at q0 q1
    go_wp2_with fail
    have hI3 := hid (hI.out.grow hbw3)
    refine (toNetwork_own w3 hI3.out.strs hI3.out.fibs (Nat.le_refl _) hn hm).mono ?_
    rintro e w4 ⟨A3, c3, A4, c4, rfl, hN2, hb4⟩
    have hbw4 := bl_then hbw3 hb4
    have hbx4 := hbx3.below hb4 hbx3.lt
    clear q0 q1 hbx3 hb2 hb1 hb3 hN1 k1 k2 hb0 hbx hbx1 hI1 hI3
    have hbw5 := bl_alloc hbw4 (.cells #[.slice A3 n c3, .slice A4 m c4] 30)
    have hb5 := bl_alloc (Below.refl w4.heap.size w4) (.cells #[.slice A3 n c3, .slice A4 m c4] 30)
    have hN3 := hN2.below hb5
    go_wp2_with fail
    refine (implOther a1 a2 _ (hN3.is hn hm hx)).mono ?_
    rintro e w6 ⟨rfl, hb6⟩
    have hbw6 := bl_then hbw5 hb6
    have hbx6 := (hbx4.alloc (.cells #[.slice A3 n c3, .slice A4 m c4] 30)).below hb6 (by have := hbx4.lt; simp; omega)
    have hby6 := (Blk.new w4 30 #[.slice A3 n c3, .slice A4 m c4]).below hb6 (by simp)
    have hN6 := hN3.below hb6
    clear hb4 hb5 hb6 hN3 hN2 hbx4 hbw4 hbw5
    go_wp2_with fail
    have C0 : ∀ w', Cls w6 w' → w'.cell? ⟨w.heap.size, 0, none⟩ = some (.slice A n c) := fun _ h => h.cell (by rw [hbx6.cell]; rfl)
    have C1 : ∀ w', Cls w6 w' → w'.cell? ⟨w.heap.size, 1, none⟩ = some (.slice A' m d) := fun _ h => h.cell (by rw [hbx6.cell]; rfl)
    have C2 : ∀ w', Cls w6 w' → w'.cell? ⟨w4.heap.size, 0, none⟩ = some (.slice A3 n c3) := fun _ h => h.cell (by rw [hby6.cell]; rfl)
    have C3 : ∀ w', Cls w6 w' → w'.cell? ⟨w4.heap.size, 1, none⟩ = some (.slice A4 m c4) := fun _ h => h.cell (by rw [hby6.cell]; rfl)
    have HI : Hid (∀ w', Cls w6 w' → NetIs w' A n c A' m d xs fs) := fun w' h => hI.out.grow (bl_then hbw6 h)
    have HN : Hid (∀ w', Cls w6 w' → NetOwn w' w3.heap.size A3 n c3 A4 m c4 xs fs) := fun w' h => hN6.below h
    clear hbx6 hby6 hN6
    go_region_held3 (fun w' => Cls w6 w') (first | exact Cls.drew _ | exact Cls.next (by assumption) (by assumption))
      (first
        | (go_at_call 17; refine (toNetwork_own _ (HI.out _ (by assumption)).strs (HI.out _ (by assumption)).fibs (Nat.le_refl _) hn hm).mono ?_; rintro e w' ⟨A5, c5, A6, c6, rfl, hN7, hb7⟩)
        | (go_at_call 19; refine (eqNetwork_any _ (HN.out _ (by assumption)).strs hN7.strs (HN.out _ (by assumption)).fibs hN7.fibs (Nat.le_refl _) (Nat.le_refl _) (by simp only [maxLen]; omega) (by simp only [maxLen]; omega)).mono ?_; rintro e w' ⟨rfl, hb8⟩))
    go_wp2
    go_ret
    exact ⟨rfl, bl_then hbw6 (by assumption)⟩
end Go.Proofs.Ytldheoomlagapaa.fnExactOtherEnd
