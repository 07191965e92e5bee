/- Lemmas and walks that the claim rests on, laid together. Conditions: none. -/
import Derived.Test.YtndmffmbkcagmaaZExactCommonRisks6
import Derived.Test.YtndmffmbkcagmaaZExactCommonRisks5
import Derived.Test.YtndmffmbkcagmaaZExactCommonRisks4
import Derived.Deep.RegionHeld3
/- FnExactCommonRisks, walked. Conditions: none. -/
namespace Go.Proofs.Ytndmffmbkcagmaa.fnExactCommonRisks
open Go.RowKit
set_option maxHeartbeats 2000000 in
set_option maxRecDepth 100000 in
theorem walk (w : World) {A0 E0 : Option Addr} {n0 c0 m0 d0 : Nat} {xs0 : List ByteArray} {fs0 : List Fib} (h0 : NetArg w A0 n0 c0 E0 m0 d0 xs0 fs0) {s1 : Int} {A1 : Option Addr} {k1 c1 : Nat} {l1 : List Int} (h1 : RouteArg w s1 A1 k1 c1 l1) {s2 : Int} {A2 : Option Addr} {k2 c2 : Nat} {l2 : List Int} (h2 : RouteArg w s2 A2 k2 c2 l2) :
    Calls Try.prog 6 #[.agg #[.slice A0 n0 c0, .slice E0 m0 d0], .agg #[.int .i64 s1, .slice A1 k1 c1], .agg #[.int .i64 s2, .slice A2 k2 c2]] w fun e w' => e = .returned (.bool true) ∧ Below w.heap.size w w' := by
  obtain ⟨⟨h0nc, h0cm, h0A, h0x⟩, ⟨h0md, h0dm, h0F, _⟩⟩ := h0
  obtain ⟨_, h1nc, h1cm, h1A, _⟩ := h1
  obtain rfl := h1A.len
  obtain ⟨_, h2nc, h2cm, h2A, _⟩ := h2
  obtain rfl := h2A.len
  have hS := Led.nil w
  replace hS := hS.blk_ (w.heap.size) (by simp) 25 #[.slice A0 n0 c0, .slice E0 m0 d0]
  replace hS := hS.blk_ (w.heap.size + 1) (by simp) 28 #[.int .i64 s1, .slice A1 l1.length c1]
  replace hS := hS.blk_ (w.heap.size + 1 + 1) (by simp) 28 #[.int .i64 s2, .slice A2 l2.length c2]
  obtain ⟨r0, hr0⟩ : ∃ r, r = lessI 1048576 (netTot xs0 fs0) := ⟨_, rfl⟩
  have hlb0 := lessI_bd (left := 1048576) (t := (netTot xs0 fs0))
  rw [← hr0] at hlb0
  have HR0 := hid hr0
  clear hr0
  rcases hlb0 with ⟨hz0, _⟩ | ⟨hz0, hy0, hx0⟩
  case inl =>
    subst hz0
    go_enter Try.func6, Try.ntmps6
    go_wp2_with fail
    refine (szNetwork_any 1048576 _ (h0A.below hS.bl) (h0F.below hS.bl) hS.bl.size (by omega) (by omega) h0x (by omega) (by omega)).mono ?_
    rintro e W1 ⟨rfl, hb⟩; replace hS := hS.step hb; clear hb
    rw [← HR0.out]
    go_wp2_with fail
    go_ret
    exact ⟨rfl, hS.bl⟩
  have h0n : n0 ≤ 1048576 := by have := h0A.len; unfold netTot strTot at hx0; omega
  have h0m : m0 ≤ 1048576 := by have := h0F.len; unfold netTot strTot at hx0; omega
  have h0I := hid (show NetIs w A0 n0 c0 E0 m0 d0 xs0 fs0 from ⟨⟨h0nc, h0n⟩, ⟨h0md, h0m⟩, h0A, h0F, h0x⟩)
  clear hx0
  obtain ⟨r1, hr1⟩ : ∃ r, r = lessI r0 l1.length := ⟨_, rfl⟩
  have hlb1 := lessI_bd (left := r0) (t := l1.length)
  rw [← hr1] at hlb1
  have HR1 := hid hr1
  clear hr1
  rcases hlb1 with ⟨hz1, _⟩ | ⟨hz1, hy1, hx1⟩
  case inl =>
    subst hz1
    go_enter Try.func6, Try.ntmps6
    go_wp2_with fail
    refine (szNetwork_any 1048576 _ (h0A.below hS.bl) (h0F.below hS.bl) hS.bl.size (by omega) (by omega) h0x (by omega) (by omega)).mono ?_
    rintro e W1 ⟨rfl, hb⟩; replace hS := hS.step hb; clear hb
    rw [← HR0.out]
    have q0 := hS.cell 1 0 rfl rfl
    have q1 := hS.cell 1 1 rfl rfl
    go_wp2_with fail
    refine (szRoute_any s1 r0 _ (by omega) (by omega) (by omega)).mono ?_
    rintro e W2 ⟨rfl, hb⟩; replace hS := hS.step hb; clear hb
    rw [← HR1.out]
    clear q0 q1
    go_wp2_with fail
    go_ret
    exact ⟨rfl, hS.bl⟩
  have h1n : l1.length ≤ 1048576 := by omega
  have h1I := hid (show RtIs w A1 l1.length c1 l1 from ⟨⟨h1nc, h1n⟩, h1A⟩)
  clear hx1
  obtain ⟨r2, hr2⟩ : ∃ r, r = lessI r1 l2.length := ⟨_, rfl⟩
  have hlb2 := lessI_bd (left := r1) (t := l2.length)
  rw [← hr2] at hlb2
  have HR2 := hid hr2
  clear hr2
  rcases hlb2 with ⟨hz2, _⟩ | ⟨hz2, hy2, hx2⟩
  case inl =>
    subst hz2
    go_enter Try.func6, Try.ntmps6
    go_wp2_with fail
    refine (szNetwork_any 1048576 _ (h0A.below hS.bl) (h0F.below hS.bl) hS.bl.size (by omega) (by omega) h0x (by omega) (by omega)).mono ?_
    rintro e W1 ⟨rfl, hb⟩; replace hS := hS.step hb; clear hb
    rw [← HR0.out]
    have q0 := hS.cell 1 0 rfl rfl
    have q1 := hS.cell 1 1 rfl rfl
    go_wp2_with fail
    refine (szRoute_any s1 r0 _ (by omega) (by omega) (by omega)).mono ?_
    rintro e W2 ⟨rfl, hb⟩; replace hS := hS.step hb; clear hb
    rw [← HR1.out]
    clear q0 q1
    have q0 := hS.cell 0 0 rfl rfl
    have q1 := hS.cell 0 1 rfl rfl
    go_wp2_with fail
    refine (szRoute_any s2 r1 _ (by omega) (by omega) (by omega)).mono ?_
    rintro e W3 ⟨rfl, hb⟩; replace hS := hS.step hb; clear hb
    rw [← HR2.out]
    clear q0 q1
    go_wp2_with fail
    go_ret
    exact ⟨rfl, hS.bl⟩
  have h2n : l2.length ≤ 1048576 := by omega
  have h2I := hid (show RtIs w A2 l2.length c2 l2 from ⟨⟨h2nc, h2n⟩, h2A⟩)
  clear hx2
  go_enter Try.func6, Try.ntmps6
  go_wp2_with fail
  refine (szNetwork_any 1048576 _ (h0A.below hS.bl) (h0F.below hS.bl) hS.bl.size (by omega) (by omega) h0x (by omega) (by omega)).mono ?_
  rintro e W1 ⟨rfl, hb⟩; replace hS := hS.step hb; clear hb
  rw [← HR0.out]
  have q0 := hS.cell 1 0 rfl rfl
  have q1 := hS.cell 1 1 rfl rfl
  go_wp2_with fail
  refine (szRoute_any s1 r0 _ (by omega) (by omega) (by omega)).mono ?_
  rintro e W2 ⟨rfl, hb⟩; replace hS := hS.step hb; clear hb
  rw [← HR1.out]
  clear q0 q1
  have q0 := hS.cell 0 0 rfl rfl
  have q1 := hS.cell 0 1 rfl rfl
  go_wp2_with fail
  refine (szRoute_any s2 r1 _ (by omega) (by omega) (by omega)).mono ?_
  rintro e W3 ⟨rfl, hb⟩; replace hS := hS.step hb; clear hb
  rw [← HR2.out]
  clear q0 q1
  -- the reference
  have C0 : ∀ w', Cls W3 w' → w'.cell? ⟨w.heap.size, 0, none⟩ = some (.slice A0 n0 c0) := fun _ h => h.cell (hS.cell 2 0 rfl rfl)
  have C1 : ∀ w', Cls W3 w' → w'.cell? ⟨w.heap.size, 1, none⟩ = some (.slice E0 m0 d0) := fun _ h => h.cell (hS.cell 2 1 rfl rfl)
  have C2 : ∀ w', Cls W3 w' → w'.cell? ⟨w.heap.size + 1, 0, none⟩ = some (.int .i64 s1) := fun _ h => h.cell (hS.cell 1 0 rfl rfl)
  have C3 : ∀ w', Cls W3 w' → w'.cell? ⟨w.heap.size + 1, 1, none⟩ = some (.slice A1 l1.length c1) := fun _ h => h.cell (hS.cell 1 1 rfl rfl)
  have C4 : ∀ w', Cls W3 w' → w'.cell? ⟨w.heap.size + 1 + 1, 0, none⟩ = some (.int .i64 s2) := fun _ h => h.cell (hS.cell 0 0 rfl rfl)
  have C5 : ∀ w', Cls W3 w' → w'.cell? ⟨w.heap.size + 1 + 1, 1, none⟩ = some (.slice A2 l2.length c2) := fun _ h => h.cell (hS.cell 0 1 rfl rfl)
  have HL := hid (fun w' (h : Cls W3 w') => hS.step h)
  go_wp2_with fail
  go_region_held3 (fun w' => Cls W3 w') (first | exact Cls.drew _ | exact Cls.next (by assumption) (by assumption))
    (first
      | (go_at_call 13; refine (toNetwork_own _ (h0I.out.grow (HL.out _ (by assumption)).bl).strs (h0I.out.grow (HL.out _ (by assumption)).bl).fibs (Nat.le_refl _) h0n h0m).mono ?_; rintro e w' ⟨Aw0, cw0, Ew0, dw0, rfl, ho_w0, hb_w0⟩; have hLw0 := (HL.out _ (by assumption)).net hb_w0 ho_w0)
      | (go_at_call_of 14 (Value.slice A1 l1.length c1); refine (toRoute_any s1 _ (h1I.out.grow hLw0.bl).2 (Nat.le_refl _) h1n).mono ?_; rintro e w' ⟨Aw1, cw1, rfl, _, ho_w1, hb_w1⟩; have hLw1 := hLw0.owns hb_w1 ho_w1)
      | (go_at_call_of 14 (Value.slice A2 l2.length c2); refine (toRoute_any s2 _ (h2I.out.grow hLw1.bl).2 (Nat.le_refl _) h2n).mono ?_; rintro e w' ⟨Aw2, cw2, rfl, _, ho_w2, hb_w2⟩; have hLw2 := hLw1.owns hb_w2 ho_w2)
      | (go_at_call 28; refine (specCommonRisks _ (hLw2.netIs 2 rfl h0n h0m h0x) (hLw2.rt 1 rfl h1n) (hLw2.rt 0 rfl h2n)).mono ?_; rintro e w' ⟨vw0, rfl, ho0, hb⟩))
  have hS2 := hLw2
  clear HL C0 C1 C2 C3 C4 C5
  have hlen0 := hid ((crL_len : (crL xs0 fs0 s1 l1 s2 l2).length ≤ 1048576))
  generalize hL0 : crL xs0 fs0 s1 l1 s2 l2 = L0 at *
  obtain ⟨Aw0, cw0, rfl, _, _, _⟩ := ho0.form
  replace hS2 := hS2.owns hb ho0
  clear hS
  have hS := hS2
  clear hS2 hb hLw0 hb_w0 ho_w0 hLw1 hb_w1 ho_w1 hLw2 hb_w2 ho_w2 ho0
  generalize w' = W4 at *
  -- the program on copies that are kept
  have q0 := hS.cell 6 0 rfl rfl
  have q1 := hS.cell 6 1 rfl rfl
  go_wp2_with fail
  refine (toNetwork_own _ (h0I.out.grow hS.bl).strs (h0I.out.grow hS.bl).fibs (Nat.le_refl _) h0n h0m).mono ?_
  rintro e W5 ⟨Ax0, cx0, Ex0, dx0, rfl, ho, hb⟩
  replace hS := hS.net hb ho
  clear hb ho
  clear q0 q1
  replace hS := hS.blk_ (W5.heap.size) (by simp) 36 #[.slice Ax0 n0 cx0, .slice Ex0 m0 dx0]
  have q0 := hS.cell 7 0 rfl rfl
  have q1 := hS.cell 7 1 rfl rfl
  go_wp2_with fail
  refine (toRoute_any s1 _ (h1I.out.grow hS.bl).2 (Nat.le_refl _) h1n).mono ?_
  rintro e W6 ⟨Ax1, cx1, rfl, _, ho, hb⟩
  replace hS := hS.owns hb ho
  clear hb ho
  clear q0 q1
  replace hS := hS.blk_ (W6.heap.size) (by simp) 31 #[.int .i64 s1, .slice Ax1 l1.length cx1]
  have q0 := hS.cell 8 0 rfl rfl
  have q1 := hS.cell 8 1 rfl rfl
  go_wp2_with fail
  refine (toRoute_any s2 _ (h2I.out.grow hS.bl).2 (Nat.le_refl _) h2n).mono ?_
  rintro e W7 ⟨Ax2, cx2, rfl, _, ho, hb⟩
  replace hS := hS.owns hb ho
  clear hb ho
  clear q0 q1
  replace hS := hS.blk_ (W7.heap.size) (by simp) 31 #[.int .i64 s2, .slice Ax2 l2.length cx2]
  have q0 := hS.cell 4 0 rfl rfl
  have q1 := hS.cell 4 1 rfl rfl
  have q2 := hS.cell 2 0 rfl rfl
  have q3 := hS.cell 2 1 rfl rfl
  go_wp2_with fail
  refine (implCommonRisks _ (hS.netIs 5 rfl h0n h0m h0x) (hS.rt 3 rfl h1n) (hS.rt 1 rfl h2n)).mono ?_
  rintro e W8 ⟨vg0, rfl, ho0, hb⟩
  rw [hL0] at ho0
  obtain ⟨Ag0, cg0, rfl, _, _, _⟩ := ho0.form
  replace hS := hS.owns hb ho0
  clear hb ho0
  clear q0 q1 q2 q3
  -- the results are equal
  go_wp2_with fail
  refine (eqI_led hS 0 7 rfl rfl hlen0.out).mono ?_
  rintro e W9 ⟨rfl, hS1⟩; replace hS := hS1; clear hS1
  -- the arguments are as they were
  have C0 : ∀ w', Cls W9 w' → w'.cell? ⟨w.heap.size, 0, none⟩ = some (.slice A0 n0 c0) := fun _ h => h.cell (hS.cell 13 0 rfl rfl)
  have C1 : ∀ w', Cls W9 w' → w'.cell? ⟨w.heap.size, 1, none⟩ = some (.slice E0 m0 d0) := fun _ h => h.cell (hS.cell 13 1 rfl rfl)
  have C2 : ∀ w', Cls W9 w' → w'.cell? ⟨W5.heap.size, 0, none⟩ = some (.slice Ax0 n0 cx0) := fun _ h => h.cell (hS.cell 5 0 rfl rfl)
  have C3 : ∀ w', Cls W9 w' → w'.cell? ⟨W5.heap.size, 1, none⟩ = some (.slice Ex0 m0 dx0) := fun _ h => h.cell (hS.cell 5 1 rfl rfl)
  have HL := hid (fun w' (h : Cls W9 w') => hS.step h)
  go_wp2_with fail
  go_region_held3 (fun w' => Cls W9 w') (first | exact Cls.drew _ | exact Cls.next (by assumption) (by assumption))
    (first
      | (go_at_call 13; refine (toNetwork_own _ (h0I.out.grow (HL.out _ (by assumption)).bl).strs (h0I.out.grow (HL.out _ (by assumption)).bl).fibs (Nat.le_refl _) h0n h0m).mono ?_; rintro e w' ⟨Ay0, cy0, Ey0, dy0, rfl, ho1, hb1⟩; have hL1 := (HL.out _ (by assumption)).net hb1 ho1)
      | (go_at_call 17; refine (eqN_led2 hL1 7 0 rfl rfl h0n h0m).mono ?_; rintro e w' ⟨rfl, hS2, hb2⟩))
  clear HL hL1 ho1 hb1 hb2 C0 C1 C2 C3
  replace hS := hS2.drop 1
  clear hS2
  dsimp only [List.drop] at hS
  generalize w' = W10 at *
  have C0 : ∀ w', Cls W10 w' → w'.cell? ⟨w.heap.size + 1, 0, none⟩ = some (.int .i64 s1) := fun _ h => h.cell (hS.cell 12 0 rfl rfl)
  have C1 : ∀ w', Cls W10 w' → w'.cell? ⟨w.heap.size + 1, 1, none⟩ = some (.slice A1 l1.length c1) := fun _ h => h.cell (hS.cell 12 1 rfl rfl)
  have C2 : ∀ w', Cls W10 w' → w'.cell? ⟨W6.heap.size, 0, none⟩ = some (.int .i64 s1) := fun _ h => h.cell (hS.cell 3 0 rfl rfl)
  have C3 : ∀ w', Cls W10 w' → w'.cell? ⟨W6.heap.size, 1, none⟩ = some (.slice Ax1 l1.length cx1) := fun _ h => h.cell (hS.cell 3 1 rfl rfl)
  have HL := hid (fun w' (h : Cls W10 w') => hS.step h)
  go_wp2_with fail
  go_region_held3 (fun w' => Cls W10 w') (first | exact Cls.drew _ | exact Cls.next (by assumption) (by assumption))
    (first
      | (go_at_call 14; refine (toRoute_any s1 _ (h1I.out.grow (HL.out _ (by assumption)).bl).2 (Nat.le_refl _) h1n).mono ?_; rintro e w' ⟨Ay1, cy1, rfl, _, ho1, hb1⟩; have hL1 := (HL.out _ (by assumption)).owns hb1 ho1)
      | (go_at_call 16; refine (eqR_led2 hL1 5 0 rfl rfl s1 h1n).mono ?_; rintro e w' ⟨rfl, hS2, hb2⟩))
  clear HL hL1 ho1 hb1 hb2 C0 C1 C2 C3
  replace hS := hS2.drop 1
  clear hS2
  dsimp only [List.drop] at hS
  generalize w' = W11 at *
  have C0 : ∀ w', Cls W11 w' → w'.cell? ⟨w.heap.size + 1 + 1, 0, none⟩ = some (.int .i64 s2) := fun _ h => h.cell (hS.cell 11 0 rfl rfl)
  have C1 : ∀ w', Cls W11 w' → w'.cell? ⟨w.heap.size + 1 + 1, 1, none⟩ = some (.slice A2 l2.length c2) := fun _ h => h.cell (hS.cell 11 1 rfl rfl)
  have C2 : ∀ w', Cls W11 w' → w'.cell? ⟨W7.heap.size, 0, none⟩ = some (.int .i64 s2) := fun _ h => h.cell (hS.cell 1 0 rfl rfl)
  have C3 : ∀ w', Cls W11 w' → w'.cell? ⟨W7.heap.size, 1, none⟩ = some (.slice Ax2 l2.length cx2) := fun _ h => h.cell (hS.cell 1 1 rfl rfl)
  have HL := hid (fun w' (h : Cls W11 w') => hS.step h)
  go_wp2_with fail
  go_region_held3 (fun w' => Cls W11 w') (first | exact Cls.drew _ | exact Cls.next (by assumption) (by assumption))
    (first
      | (go_at_call 14; refine (toRoute_any s2 _ (h2I.out.grow (HL.out _ (by assumption)).bl).2 (Nat.le_refl _) h2n).mono ?_; rintro e w' ⟨Ay2, cy2, rfl, _, ho1, hb1⟩; have hL1 := (HL.out _ (by assumption)).owns hb1 ho1)
      | (go_at_call 16; refine (eqR_led2 hL1 3 0 rfl rfl s2 h2n).mono ?_; rintro e w' ⟨rfl, hS2, hb2⟩))
  clear HL hL1 ho1 hb1 hb2 C0 C1 C2 C3
  replace hS := hS2.drop 1
  clear hS2
  dsimp only [List.drop] at hS
  generalize w' = W12 at *
  -- marks
  have q0 := hS.cell 5 0 rfl rfl
  have q1 := hS.cell 5 1 rfl rfl
  go_wp2_with fail
  refine (markN_led hS 6 rfl _ h0n h0m (by omega) (by omega)).mono ?_
  rintro e W13 ⟨rfl, hS1⟩; replace hS := hS1; clear hS1; dsimp only [List.set] at hS
  clear q0 q1
  have q0 := hS.cell 3 0 rfl rfl
  have q1 := hS.cell 3 1 rfl rfl
  go_wp2_with fail
  refine (markR_led hS 4 rfl s1 _ h1n (by omega) (by omega)).mono ?_
  rintro e W14 ⟨rfl, hS1⟩; replace hS := hS1; clear hS1; dsimp only [List.set] at hS
  clear q0 q1
  have q0 := hS.cell 1 0 rfl rfl
  have q1 := hS.cell 1 1 rfl rfl
  go_wp2_with fail
  refine (markR_led hS 2 rfl s2 _ h2n (by omega) (by omega)).mono ?_
  rintro e W15 ⟨rfl, hS1⟩; replace hS := hS1; clear hS1; dsimp only [List.set] at hS
  clear q0 q1
  go_wp2_with fail
  refine (eqI_led hS 0 7 rfl rfl hlen0.out).mono ?_
  rintro e W16 ⟨rfl, hS1⟩; replace hS := hS1; clear hS1
  go_wp2_with fail
  refine (markI_led hS 0 rfl _ hlen0.out (by have := hlen0.out; omega) (by have := hlen0.out; omega)).mono ?_
  rintro e W17 ⟨rfl, hS1⟩; replace hS := hS1; clear hS1; dsimp only [List.set] at hS
  go_wp2_with fail
  refine (heldI_led hS 0 _ rfl hlen0.out (by have := hlen0.out; omega) (by have := hlen0.out; omega)).mono ?_
  rintro e W18 ⟨rfl, hS1⟩; replace hS := hS1; clear hS1
  -- once more
  have C0 : ∀ w', Cls W18 w' → w'.cell? ⟨w.heap.size, 0, none⟩ = some (.slice A0 n0 c0) := fun _ h => h.cell (hS.cell 13 0 rfl rfl)
  have C1 : ∀ w', Cls W18 w' → w'.cell? ⟨w.heap.size, 1, none⟩ = some (.slice E0 m0 d0) := fun _ h => h.cell (hS.cell 13 1 rfl rfl)
  have C2 : ∀ w', Cls W18 w' → w'.cell? ⟨w.heap.size + 1, 0, none⟩ = some (.int .i64 s1) := fun _ h => h.cell (hS.cell 12 0 rfl rfl)
  have C3 : ∀ w', Cls W18 w' → w'.cell? ⟨w.heap.size + 1, 1, none⟩ = some (.slice A1 l1.length c1) := fun _ h => h.cell (hS.cell 12 1 rfl rfl)
  have C4 : ∀ w', Cls W18 w' → w'.cell? ⟨w.heap.size + 1 + 1, 0, none⟩ = some (.int .i64 s2) := fun _ h => h.cell (hS.cell 11 0 rfl rfl)
  have C5 : ∀ w', Cls W18 w' → w'.cell? ⟨w.heap.size + 1 + 1, 1, none⟩ = some (.slice A2 l2.length c2) := fun _ h => h.cell (hS.cell 11 1 rfl rfl)
  have HL := hid (fun w' (h : Cls W18 w') => hS.step h)
  go_wp2_with fail
  go_region_held3 (fun w' => Cls W18 w') (first | exact Cls.drew _ | exact Cls.next (by assumption) (by assumption))
    (first
      | (go_at_call 13; refine (toNetwork_own _ (h0I.out.grow (HL.out _ (by assumption)).bl).strs (h0I.out.grow (HL.out _ (by assumption)).bl).fibs (Nat.le_refl _) h0n h0m).mono ?_; rintro e w' ⟨Ah0, ch0, Eh0, dh0, rfl, ho_h0, hb_h0⟩; have hLh0 := (HL.out _ (by assumption)).net hb_h0 ho_h0)
      | (go_at_call_of 14 (Value.slice A1 l1.length c1); refine (toRoute_any s1 _ (h1I.out.grow hLh0.bl).2 (Nat.le_refl _) h1n).mono ?_; rintro e w' ⟨Ah1, ch1, rfl, _, ho_h1, hb_h1⟩; have hLh1 := hLh0.owns hb_h1 ho_h1)
      | (go_at_call_of 14 (Value.slice A2 l2.length c2); refine (toRoute_any s2 _ (h2I.out.grow hLh1.bl).2 (Nat.le_refl _) h2n).mono ?_; rintro e w' ⟨Ah2, ch2, rfl, _, ho_h2, hb_h2⟩; have hLh2 := hLh1.owns hb_h2 ho_h2)
      | (go_at_call 29; refine (implCommonRisks _ (hLh2.netIs 2 rfl h0n h0m h0x) (hLh2.rt 1 rfl h1n) (hLh2.rt 0 rfl h2n)).mono ?_; rintro e w' ⟨vh0, rfl, ho0, hb⟩))
  have hS2 := hLh2
  clear HL C0 C1 C2 C3 C4 C5
  rw [hL0] at ho0
  obtain ⟨Ah0, ch0, rfl, _, _, _⟩ := ho0.form
  replace hS2 := hS2.owns hb ho0
  clear hS
  have hS := hS2
  clear hS2 hb hLh0 hb_h0 ho_h0 hLh1 hb_h1 ho_h1 hLh2 hb_h2 ho_h2 ho0
  generalize w' = W19 at *
  go_wp2_with fail
  refine (eqI_led hS 0 11 rfl rfl hlen0.out).mono ?_
  rintro e W20 ⟨rfl, hS1⟩; replace hS := hS1; clear hS1
  go_wp2_with fail
  refine (heldI_led hS 4 _ rfl hlen0.out (by have := hlen0.out; omega) (by have := hlen0.out; omega)).mono ?_
  rintro e W21 ⟨rfl, hS1⟩; replace hS := hS1; clear hS1
  go_wp2_with fail
  go_ret
  exact ⟨rfl, hS.bl⟩
end Go.Proofs.Ytndmffmbkcagmaa.fnExactCommonRisks
