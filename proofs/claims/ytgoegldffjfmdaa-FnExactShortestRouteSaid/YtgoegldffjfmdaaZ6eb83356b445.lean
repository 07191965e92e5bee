/- Lemmas and walks that the claim rests on, laid together. Conditions: none. -/
import Derived.Test.YtgoegldffjfmdaaZ8c9f550696ef
import Derived.Test.YtgoegldffjfmdaaZd65a3d9ab5c8
import Derived.Test.YtgoegldffjfmdaaZc7368f5e9234
import Derived.Test.YtgoegldffjfmdaaZb38055219eae
import Derived.Test.YtgoegldffjfmdaaZ495155223ae4
import Derived.Deep.RegionHeld3
/- FnExactShortestRoute, walked. Conditions: none. -/
namespace Go.Proofs.Ytgoegldffjfmdaa.fnExactShortestRoute
open Go.RowKit
set_option maxHeartbeats 2000000 in
set_option maxRecDepth 100000 in
theorem walk (w : World) {A0 E0 : Option Addr} {n0 c0 m0 d0 : Nat} {xs0 : List ByteArray} {fs0 : List Fib} (h0 : NetArg w A0 n0 c0 E0 m0 d0 xs0 fs0) {a1 : Int} (_u1 : -9223372036854775808 ≤ a1 ∧ a1 ≤ 9223372036854775807) {a2 : Int} (_u2 : -9223372036854775808 ≤ a2 ∧ a2 ≤ 9223372036854775807) :
    Calls Try.prog 3 #[.agg #[.slice A0 n0 c0, .slice E0 m0 d0], .int .i64 a1, .int .i64 a2] w fun e w' => e = .returned (.bool true) ∧ Below w.heap.size w w' := by
  obtain ⟨⟨h0nc, h0cm, h0A, h0x⟩, ⟨h0md, h0dm, h0F, _⟩⟩ := h0
  have hS := Led.nil w
  replace hS := hS.blk_ (w.heap.size) (by simp) 25 #[.slice A0 n0 c0, .slice E0 m0 d0]
  obtain ⟨r0, hr0⟩ : ∃ r, r = lessI 1048576 (netTot xs0 fs0) := ⟨_, rfl⟩
  have hlb0 := lessI_bd (left := 1048576) (t := (netTot xs0 fs0))
  rw [← hr0] at hlb0
  have HR0 := hid hr0
  clear hr0
  rcases hlb0 with ⟨hz0, _⟩ | ⟨hz0, hy0, hx0⟩
  case inl =>
    subst hz0
    go_enter Try.func3, Try.ntmps3
    go_wp2_with fail
    refine (szNetwork_any 1048576 _ (h0A.below hS.bl) (h0F.below hS.bl) hS.bl.size (by omega) (by omega) h0x (by omega) (by omega)).mono ?_
    rintro e W1 ⟨rfl, hb⟩; replace hS := hS.step hb; clear hb
    rw [← HR0.out]
    go_wp2_with fail
    go_ret
    exact ⟨rfl, hS.bl⟩
  have h0n : n0 ≤ 1048576 := by have := h0A.len; unfold netTot strTot at hx0; omega
  have h0m : m0 ≤ 1048576 := by have := h0F.len; unfold netTot strTot at hx0; omega
  have h0I := hid (show NetIs w A0 n0 c0 E0 m0 d0 xs0 fs0 from ⟨⟨h0nc, h0n⟩, ⟨h0md, h0m⟩, h0A, h0F, h0x⟩)
  clear hx0
  go_enter Try.func3, Try.ntmps3
  go_wp2_with fail
  refine (szNetwork_any 1048576 _ (h0A.below hS.bl) (h0F.below hS.bl) hS.bl.size (by omega) (by omega) h0x (by omega) (by omega)).mono ?_
  rintro e W1 ⟨rfl, hb⟩; replace hS := hS.step hb; clear hb
  rw [← HR0.out]
  -- the reference
  have q0 := hS.cell 0 0 rfl rfl
  have q1 := hS.cell 0 1 rfl rfl
  go_wp2_with fail
  refine (toNetwork_own _ (h0I.out.grow hS.bl).strs (h0I.out.grow hS.bl).fibs (Nat.le_refl _) h0n h0m).mono ?_
  rintro e W2 ⟨Aw0, cw0, Ew0, dw0, rfl, ho, hb⟩
  replace hS := hS.net hb ho
  clear hb ho
  clear q0 q1
  go_wp2_with fail
  refine (specShortestRoute a1 a2 _ (hS.netIs 0 rfl h0n h0m h0x)).mono ?_
  rintro e W3 ⟨Aw0, cw0, rfl, ho0, hb⟩
  have hlen0 := hid ((Nat.le_trans shO_len (by decide) : (frL (shO xs0 fs0 a1 a2 (fun _ => true))).length ≤ 1048576))
  generalize hL0 : frL (shO xs0 fs0 a1 a2 (fun _ => true)) = L0 at *
  replace hS := hS.owns hb ho0
  clear hb ho0
  replace hS := hS.blk_ (W3.heap.size) (by simp) 29 #[.int .i64 (frS (shO xs0 fs0 a1 a2 (fun _ => true)) a1), .slice Aw0 L0.length cw0]
  -- the program on copies that are kept
  have q0 := hS.cell 3 0 rfl rfl
  have q1 := hS.cell 3 1 rfl rfl
  go_wp2_with fail
  refine (toNetwork_own _ (h0I.out.grow hS.bl).strs (h0I.out.grow hS.bl).fibs (Nat.le_refl _) h0n h0m).mono ?_
  rintro e W4 ⟨Ax0, cx0, Ex0, dx0, rfl, ho, hb⟩
  replace hS := hS.net hb ho
  clear hb ho
  clear q0 q1
  replace hS := hS.blk_ (W4.heap.size) (by simp) 34 #[.slice Ax0 n0 cx0, .slice Ex0 m0 dx0]
  go_wp2_with fail
  refine (implShortestRoute a1 a2 _ (hS.netIs 1 rfl h0n h0m h0x)).mono ?_
  rintro e W5 ⟨Ag0, cg0, rfl, ho0, hb⟩
  rw [hL0] at ho0
  replace hS := hS.owns hb ho0
  clear hb ho0
  replace hS := hS.blk_ (W5.heap.size) (by simp) 29 #[.int .i64 (frS (shO xs0 fs0 a1 a2 (fun _ => true)) a1), .slice Ag0 L0.length cg0]
  -- the results are equal
  have q0 := hS.cell 4 0 rfl rfl
  have q1 := hS.cell 4 1 rfl rfl
  go_wp2_with fail
  refine (eqR_led hS 1 5 rfl rfl (frS (shO xs0 fs0 a1 a2 (fun _ => true)) a1) hlen0.out).mono ?_
  rintro e W6 ⟨rfl, hS1⟩; replace hS := hS1; clear hS1
  clear q0 q1
  -- the arguments are as they were
  have C0 : ∀ w', Cls W6 w' → w'.cell? ⟨w.heap.size, 0, none⟩ = some (.slice A0 n0 c0) := fun _ h => h.cell (hS.cell 7 0 rfl rfl)
  have C1 : ∀ w', Cls W6 w' → w'.cell? ⟨w.heap.size, 1, none⟩ = some (.slice E0 m0 d0) := fun _ h => h.cell (hS.cell 7 1 rfl rfl)
  have C2 : ∀ w', Cls W6 w' → w'.cell? ⟨W4.heap.size, 0, none⟩ = some (.slice Ax0 n0 cx0) := fun _ h => h.cell (hS.cell 2 0 rfl rfl)
  have C3 : ∀ w', Cls W6 w' → w'.cell? ⟨W4.heap.size, 1, none⟩ = some (.slice Ex0 m0 dx0) := fun _ h => h.cell (hS.cell 2 1 rfl rfl)
  have HL := hid (fun w' (h : Cls W6 w') => hS.step h)
  go_wp2_with fail
  go_region_held3 (fun w' => Cls W6 w') (first | exact Cls.drew _ | exact Cls.next (by assumption) (by assumption))
    (first
      | (go_at_call 15; refine (toNetwork_own _ (h0I.out.grow (HL.out _ (by assumption)).bl).strs (h0I.out.grow (HL.out _ (by assumption)).bl).fibs (Nat.le_refl _) h0n h0m).mono ?_; rintro e w' ⟨Ay0, cy0, Ey0, dy0, rfl, ho1, hb1⟩; have hL1 := (HL.out _ (by assumption)).net hb1 ho1)
      | (go_at_call 18; refine (eqN_led2 hL1 4 0 rfl rfl h0n h0m).mono ?_; rintro e w' ⟨rfl, hS2, hb2⟩))
  clear HL hL1 ho1 hb1 hb2 C0 C1 C2 C3
  replace hS := hS2.drop 1
  clear hS2
  dsimp only [List.drop] at hS
  generalize w' = W7 at *
  -- marks
  have q0 := hS.cell 2 0 rfl rfl
  have q1 := hS.cell 2 1 rfl rfl
  go_wp2_with fail
  refine (markN_led hS 3 rfl _ h0n h0m (by omega) (by omega)).mono ?_
  rintro e W8 ⟨rfl, hS1⟩; replace hS := hS1; clear hS1; dsimp only [List.set] at hS
  clear q0 q1
  have q0 := hS.cell 0 0 rfl rfl
  have q1 := hS.cell 0 1 rfl rfl
  have q2 := hS.cell 4 0 rfl rfl
  have q3 := hS.cell 4 1 rfl rfl
  go_wp2_with fail
  refine (eqR_led hS 1 5 rfl rfl (frS (shO xs0 fs0 a1 a2 (fun _ => true)) a1) hlen0.out).mono ?_
  rintro e W9 ⟨rfl, hS1⟩; replace hS := hS1; clear hS1
  clear q0 q1 q2 q3
  have q0 := hS.cell 0 0 rfl rfl
  have q1 := hS.cell 0 1 rfl rfl
  go_wp2_with fail
  refine (markR_led hS 1 rfl (frS (shO xs0 fs0 a1 a2 (fun _ => true)) a1) _ hlen0.out (by have := hlen0.out; omega) (by have := hlen0.out; omega)).mono ?_
  rintro e W10 ⟨rfl, hS1⟩; replace hS := hS1; clear hS1; dsimp only [List.set] at hS
  clear q0 q1
  have q0 := hS.cell 0 0 rfl rfl
  have q1 := hS.cell 0 1 rfl rfl
  go_wp2_with fail
  refine (heldR_led hS 1 (frS (shO xs0 fs0 a1 a2 (fun _ => true)) a1) _ rfl hlen0.out (by have := hlen0.out; omega) (by have := hlen0.out; omega)).mono ?_
  rintro e W11 ⟨rfl, hS1⟩; replace hS := hS1; clear hS1
  clear q0 q1
  -- once more
  have q0 := hS.cell 7 0 rfl rfl
  have q1 := hS.cell 7 1 rfl rfl
  go_wp2_with fail
  refine (toNetwork_own _ (h0I.out.grow hS.bl).strs (h0I.out.grow hS.bl).fibs (Nat.le_refl _) h0n h0m).mono ?_
  rintro e W12 ⟨Ah0, ch0, Eh0, dh0, rfl, ho, hb⟩
  replace hS := hS.net hb ho
  clear hb ho
  clear q0 q1
  go_wp2_with fail
  refine (implShortestRoute a1 a2 _ (hS.netIs 0 rfl h0n h0m h0x)).mono ?_
  rintro e W13 ⟨Ah0, ch0, rfl, ho0, hb⟩
  rw [hL0] at ho0
  replace hS := hS.owns hb ho0
  clear hb ho0
  replace hS := hS.blk_ (W13.heap.size) (by simp) 29 #[.int .i64 (frS (shO xs0 fs0 a1 a2 (fun _ => true)) a1), .slice Ah0 L0.length ch0]
  have q0 := hS.cell 7 0 rfl rfl
  have q1 := hS.cell 7 1 rfl rfl
  go_wp2_with fail
  refine (eqR_led hS 1 8 rfl rfl (frS (shO xs0 fs0 a1 a2 (fun _ => true)) a1) hlen0.out).mono ?_
  rintro e W14 ⟨rfl, hS1⟩; replace hS := hS1; clear hS1
  clear q0 q1
  have q0 := hS.cell 3 0 rfl rfl
  have q1 := hS.cell 3 1 rfl rfl
  go_wp2_with fail
  refine (heldR_led hS 4 (frS (shO xs0 fs0 a1 a2 (fun _ => true)) a1) _ rfl hlen0.out (by have := hlen0.out; omega) (by have := hlen0.out; omega)).mono ?_
  rintro e W15 ⟨rfl, hS1⟩; replace hS := hS1; clear hS1
  clear q0 q1
  go_wp2_with fail
  go_ret
  exact ⟨rfl, hS.bl⟩
end Go.Proofs.Ytgoegldffjfmdaa.fnExactShortestRoute
