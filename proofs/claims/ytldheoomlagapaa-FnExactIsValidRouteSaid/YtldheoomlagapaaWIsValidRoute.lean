/- FnExactIsValidRoute, walked. Conditions: none. -/
import Derived.Test.YtldheoomlagapaaRtFns
import Derived.Test.YtldheoomlagapaaEqN
import Derived.Test.YtldheoomlagapaaOpenR
import Derived.Deep.RegionHeld3
namespace Go.Proofs.Ytldheoomlagapaa.fnExactIsValidRoute
open Go.RowKit
theorem rt_own {w : World} {base kr e1 : Nat} {R : Option Addr} {ids : List Int} (hl : ids.length = kr) (h : Owns elInt w base 3 (.slice R kr e1) ids) (h1 : kr ≤ e1) (h2 : kr ≤ 1048576) : RtIs w R kr e1 ids :=
  ⟨⟨h1, h2⟩, by have := h.sees; rw [hl] at this; exact this⟩
set_option maxHeartbeats 1000000 in
set_option maxRecDepth 100000 in
theorem walk (w : World) {A A' : Option Addr} {n c m d : Nat} {xs : List ByteArray} {fs : List Fib} (h : NetArg w A n c A' m d xs fs) {s : Int} {R : Option Addr} {kr er : Nat} {ids : List Int} (hr : RouteArg w s R kr er ids) :
    Calls Try.prog 14 #[.agg #[.slice A n c, .slice A' m d], .agg #[.int .i64 s, .slice R kr er]] w fun e w' => e = .returned (.bool true) ∧ Below w.heap.size w w' := by
  obtain ⟨⟨hnc, hcm, hA, hx⟩, ⟨hmd, hdm, hF, _⟩⟩ := h
  obtain ⟨_, hke, hem, hR, _⟩ := hr
  have hb0 := bl_alloc (bl_alloc (Below.refl w.heap.size w) (.cells #[.slice A n c, .slice A' m d] 25)) (.cells #[.int .i64 s, .slice R kr er] 70)
  have hbx : Blk ((w.alloc (.cells #[.slice A n c, .slice A' m d] 25)).alloc (.cells #[.int .i64 s, .slice R kr er] 70)) w.heap.size 25 #[.slice A n c, .slice A' m d] := (Blk.new _ _ _).alloc _
  have hbr : Blk ((w.alloc (.cells #[.slice A n c, .slice A' m d] 25)).alloc (.cells #[.int .i64 s, .slice R kr er] 70)) (w.heap.size + 1) 70 #[.int .i64 s, .slice R kr er] := by
    have := Blk.new (w.alloc (.cells #[.slice A n c, .slice A' m d] 25)) 70 #[.int .i64 s, .slice R kr er]
    simpa using this
  have k1 := hA.below hb0
  have k2 := hF.below hb0
  rcases lessI_bd (left := 1048576) (t := netTot xs fs) with ⟨h1, _⟩ | ⟨h1, h2, h3⟩
  · have HS := hid h1
    clear h1
    go_enter Try.func14, Try.ntmps14
    go_wp2_with fail
    refine (szNetwork_any 1048576 _ k1 k2 (by simp; omega) (by omega) (by omega) hx (by omega) (by omega)).mono ?_
    rintro e w1 ⟨rfl, hb1⟩
    rw [HS.out]
    go_wp2_with fail
    go_ret
    exact ⟨rfl, bl_then hb0 hb1⟩
  · have hn : n ≤ 1048576 := by have := hA.len; unfold netTot strTot at h3; omega
    have hm : m ≤ 1048576 := by have := hF.len; unfold netTot strTot at h3; omega
    have hI := hid (show NetIs w A n c A' m d xs fs from ⟨⟨hnc, hn⟩, ⟨hmd, hm⟩, hA, hF, hx⟩)
    clear h3
    obtain ⟨r, hrr⟩ : ∃ r, r = lessI 1048576 (netTot xs fs) := ⟨_, rfl⟩
    rw [← hrr] at h1 h2
    have HR := hid hrr
    clear hrr
    rcases lessI_bd (left := r) (t := kr) with ⟨h4, _⟩ | ⟨h4, h5, h6⟩
    · have HS := hid h4
      clear h4
      go_enter Try.func14, Try.ntmps14
      go_wp2_with fail
      refine (szNetwork_any 1048576 _ k1 k2 (by simp; omega) (by omega) (by omega) hx (by omega) (by omega)).mono ?_
      rintro e w1 ⟨rfl, hb1⟩
      rw [← HR.out]
      have q0 := (hbr.below hb1 hbr.lt).cell 0
      have q1 := (hbr.below hb1 hbr.lt).cell 1
      simp at q0 q1
      go_wp2_with fail
      refine (szRoute_any s r _ (by omega) h1 (by omega)).mono ?_
      rintro e w2 ⟨rfl, hb2⟩
      rw [HS.out]
      go_wp2_with fail
      go_ret
      exact ⟨rfl, bl_then (bl_then hb0 hb1) hb2⟩
    · have hk : kr ≤ 1048576 := by omega
      have hRt := hid (show RtIs w R kr er ids from ⟨⟨hke, hk⟩, hR⟩)
      obtain ⟨r2, hr2⟩ : ∃ r2, r2 = lessI r kr := ⟨_, rfl⟩
      rw [← hr2] at h4
      have HR2 := hid hr2
      clear hr2 h5 h6
      go_enter Try.func14, Try.ntmps14
      go_wp2_with fail
      refine (szNetwork_any 1048576 _ k1 k2 (by simp; omega) (by omega) (by omega) hx (by omega) (by omega)).mono ?_
      rintro e w1 ⟨rfl, hb1⟩
      rw [← HR.out]
      have q0 := (hbr.below hb1 hbr.lt).cell 0
      have q1 := (hbr.below hb1 hbr.lt).cell 1
      simp at q0 q1
      go_wp2_with fail
      refine (szRoute_any s r _ (by omega) h1 (by omega)).mono ?_
      rintro e w2 ⟨rfl, hb2⟩
      rw [← HR2.out]
      have hbw2 := bl_then (bl_then hb0 hb1) hb2
      have hbx2 := (hbx.below hb1 hbx.lt).below hb2 (Nat.lt_of_lt_of_le hbx.lt hb1.size)
      have hbr2 := (hbr.below hb1 hbr.lt).below hb2 (Nat.lt_of_lt_of_le hbr.lt hb1.size)
      clear q0 q1 hb1 hb2 hbx hbr k1 k2 hb0
      have C0 : ∀ w', Cls w2 w' → w'.cell? ⟨w.heap.size, 0, none⟩ = some (.slice A n c) := fun _ h => h.cell (by rw [hbx2.cell]; rfl)
      have C1 : ∀ w', Cls w2 w' → w'.cell? ⟨w.heap.size, 1, none⟩ = some (.slice A' m d) := fun _ h => h.cell (by rw [hbx2.cell]; rfl)
      have C2 : ∀ w', Cls w2 w' → w'.cell? ⟨w.heap.size + 1, 0, none⟩ = some (.int .i64 s) := fun _ h => h.cell (by rw [hbr2.cell]; rfl)
      have C3 : ∀ w', Cls w2 w' → w'.cell? ⟨w.heap.size + 1, 1, none⟩ = some (.slice R kr er) := fun _ h => h.cell (by rw [hbr2.cell]; rfl)
      have HI : Hid (∀ w', Cls w2 w' → NetIs w' A n c A' m d xs fs) := fun w' h => hI.out.grow (bl_then hbw2 h)
      have HQ : Hid (∀ w', Cls w2 w' → RtIs w' R kr er ids) := fun w' h => hRt.out.grow (bl_then hbw2 h)
      go_wp2_with fail
      go_region_held3 (fun w' => Cls w2 w') (first | exact Cls.drew _ | exact Cls.next (by assumption) (by assumption))
        (first
          | (go_at_call 17; refine (toNetwork_own _ (HI.out _ (by assumption)).strs (HI.out _ (by assumption)).fibs (Nat.le_refl _) hn hm).mono ?_; rintro e w' ⟨A5, c5, A6, c6, rfl, hN7, hb7⟩)
          | (go_at_call 55; refine (toRoute_any s _ (HQ.out _ (by assumption)).2 (Nat.le_refl _) hk).mono ?_; rintro e w' ⟨R5, e5, rfl, hl5, ho5, hb5⟩)
          | (go_at_call 54; refine (specIsValidRoute s _ (by first | exact (hN7.below hb5).is hn hm hx | exact hN7.is hn hm hx) (by first | exact rt_own hRt.out.len ho5 hl5 hk | exact (rt_own hRt.out.len ho5 hl5 hk).grow hb7)).mono ?_; rintro e w' ⟨rfl, hb6⟩))
      rename_i hw6
      clear hN7 hb7 hb6 hb5 ho5 hl5 HI HQ C0 C1 C2 C3
      have hbw3 := bl_then hbw2 hw6
      have hbx3 := hbx2.below hw6 hbx2.lt
      have hbr3 := hbr2.below hw6 hbr2.lt
      have z23 := hw6.size
      have z2 := hbr2.lt
      clear hbw2 hbx2 hbr2 hw6
      generalize w' = w3 at *
      have q0 := hbx3.cell 0
      have q1 := hbx3.cell 1
      simp at q0 q1
      have hI3 := hid (hI.out.grow hbw3)
      go_wp2_with fail
      refine (toNetwork_own w3 hI3.out.strs hI3.out.fibs (Nat.le_refl _) hn hm).mono ?_
      rintro e w4 ⟨A3, c3, A4, c4, rfl, hN4, hb4⟩
      have hb5 := bl_then hb4 (bl_alloc (Below.refl w4.heap.size w4) (.cells #[.slice A3 n c3, .slice A4 m c4] 30))
      have hN5 := hN4.below (bl_alloc (Below.refl w4.heap.size w4) (.cells #[.slice A3 n c3, .slice A4 m c4] 30))
      have hby5 := Blk.new w4 30 #[.slice A3 n c3, .slice A4 m c4]
      have hbr5 := hbr3.below hb5 hbr3.lt
      have hbx5 := hbx3.below hb5 hbx3.lt
      have hbw5 := bl_then hbw3 hb5
      have hQ5 := hid (hRt.out.grow hbw5)
      have q2 := hbr5.cell 0
      have q3 := hbr5.cell 1
      simp at q2 q3
      clear q0 q1
      go_wp2_with fail
      refine (toRoute_any s _ hQ5.out.2 (Nat.le_refl _) hk).mono ?_
      rintro e w6 ⟨R7, e7, rfl, hl7, ho7, hb6⟩
      have hb7 := bl_then hb6 (bl_alloc (Below.refl w6.heap.size w6) (.cells #[.int .i64 s, .slice R7 kr e7] 73))
      have ho8 := ho7.below (bl_alloc (Below.refl w6.heap.size w6) (.cells #[.int .i64 s, .slice R7 kr e7] 73))
      have hbz7 := Blk.new w6 73 #[.int .i64 s, .slice R7 kr e7]
      have hby7 := hby5.below hb7 hby5.lt
      have hbr7 := hbr5.below hb7 hbr5.lt
      have hbx7 := hbx5.below hb7 hbx5.lt
      have hbw7 := bl_then hbw5 hb7
      have hN7 := hN5.below hb7
      have hRo7 := rt_own hRt.out.len ho8 hl7 hk
      have q4 := hby7.cell 0
      have q5 := hby7.cell 1
      simp at q4 q5
      clear q2 q3
      go_wp2_with fail
      refine (implIsValidRoute s _ (hN7.is hn hm hx) hRo7).mono ?_
      rintro e w8 ⟨rfl, hb8⟩
      have hbw8 := bl_then hbw7 hb8
      have hbx8 := hbx7.below hb8 hbx7.lt
      have hbr8 := hbr7.below hb8 hbr7.lt
      have hby8 := hby7.below hb8 hby7.lt
      have hbz8 := hbz7.below hb8 hbz7.lt
      have hN8 := hN7.below hb8
      have hs8 := hid (hRo7.grow hb8)
      clear q4 q5 hbx3 hbx5 hbx7 hbr3 hbr5 hbr7 hby5 hby7 hbz7 hN4 hN5 hN7 hb4 hb5 hb6 hb7 hb8 hbw3 hbw5 hbw7 ho7 ho8 hRo7 hI3 hQ5
      go_wp2_with fail
      have C0 : ∀ w', Cls w8 w' → w'.cell? ⟨w.heap.size, 0, none⟩ = some (.slice A n c) := fun _ h => h.cell (by rw [hbx8.cell]; rfl)
      have C1 : ∀ w', Cls w8 w' → w'.cell? ⟨w.heap.size, 1, none⟩ = some (.slice A' m d) := fun _ h => h.cell (by rw [hbx8.cell]; rfl)
      have C2 : ∀ w', Cls w8 w' → w'.cell? ⟨w4.heap.size, 0, none⟩ = some (.slice A3 n c3) := fun _ h => h.cell (by rw [hby8.cell]; rfl)
      have C3 : ∀ w', Cls w8 w' → w'.cell? ⟨w4.heap.size, 1, none⟩ = some (.slice A4 m c4) := fun _ h => h.cell (by rw [hby8.cell]; rfl)
      have HI : Hid (∀ w', Cls w8 w' → NetIs w' A n c A' m d xs fs) := fun w' h => hI.out.grow (bl_then hbw8 h)
      have HN : Hid (∀ w', Cls w8 w' → NetOwn w' w3.heap.size A3 n c3 A4 m c4 xs fs) := fun w' h => hN8.below h
      have HX : Hid (Blk w8 w.heap.size 25 #[.slice A n c, .slice A' m d]) := hbx8
      have HZ : Hid (Blk w8 (w.heap.size + 1) 70 #[.int .i64 s, .slice R kr er]) := hbr8
      have HY : Hid (Blk w8 w6.heap.size 73 #[.int .i64 s, .slice R7 kr e7]) := hbz8
      clear hbx8 hby8 hN8 hbr8 hbz8
      go_region_held3 (fun w' => Cls w8 w') (first | exact Cls.drew _ | exact Cls.next (by assumption) (by assumption))
        (first
          | (go_at_call 17; refine (toNetwork_own _ (HI.out _ (by assumption)).strs (HI.out _ (by assumption)).fibs (Nat.le_refl _) hn hm).mono ?_; rintro e w' ⟨A5, c5, A6, c6, rfl, hN9, hb9⟩)
          | (go_at_call 19; refine (eqNetwork_any _ (HN.out _ (by assumption)).strs hN9.strs (HN.out _ (by assumption)).fibs hN9.fibs (Nat.le_refl _) (Nat.le_refl _) (by simp only [maxLen]; omega) (by simp only [maxLen]; omega)).mono ?_; rintro e w' ⟨rfl, hb10⟩))
      rename_i hw9
      clear hN9 hb9 hb10 C0 C1 C2 C3 HI HN
      have hbw9 := bl_then hbw8 hw9
      have hbr9 := HZ.out.below hw9 HZ.out.lt
      have hbz9 := HY.out.below hw9 HY.out.lt
      have hs9 := hid (hs8.out.grow hw9)
      clear hbw8 hs8 HX HZ HY hw9
      generalize w' = w9 at *
      have C0 : ∀ w', Cls w9 w' → w'.cell? ⟨w.heap.size + 1, 0, none⟩ = some (.int .i64 s) := fun _ h => h.cell (by rw [hbr9.cell]; rfl)
      have C1 : ∀ w', Cls w9 w' → w'.cell? ⟨w.heap.size + 1, 1, none⟩ = some (.slice R kr er) := fun _ h => h.cell (by rw [hbr9.cell]; rfl)
      have C2 : ∀ w', Cls w9 w' → w'.cell? ⟨w6.heap.size, 0, none⟩ = some (.int .i64 s) := fun _ h => h.cell (by rw [hbz9.cell]; rfl)
      have C3 : ∀ w', Cls w9 w' → w'.cell? ⟨w6.heap.size, 1, none⟩ = some (.slice R7 kr e7) := fun _ h => h.cell (by rw [hbz9.cell]; rfl)
      have HQ : Hid (∀ w', Cls w9 w' → RtIs w' R kr er ids) := fun w' h => hRt.out.grow (bl_then hbw9 h)
      have HS : Hid (∀ w', Cls w9 w' → RtIs w' R7 kr e7 ids) := fun w' h => hs9.out.grow h
      clear hbr9 hbz9 hs9
      go_wp2_with fail
      go_region_held3 (fun w' => Cls w9 w') (first | exact Cls.drew _ | exact Cls.next (by assumption) (by assumption))
        (first
          | (go_at_call 55; refine (toRoute_any s _ (HQ.out _ (by assumption)).2 (Nat.le_refl _) hk).mono ?_; rintro e w' ⟨R5, e5, rfl, hl5, ho5, hb5⟩)
          | (go_at_call 57; refine (eqRoute_any s _ (HS.out _ (by assumption)).2 (rt_own hRt.out.len ho5 hl5 hk).2 hk).mono ?_; rintro e w' ⟨rfl, hb12⟩))
      go_wp2
      go_ret
      exact ⟨rfl, bl_then hbw9 (by assumption)⟩
end Go.Proofs.Ytldheoomlagapaa.fnExactIsValidRoute
