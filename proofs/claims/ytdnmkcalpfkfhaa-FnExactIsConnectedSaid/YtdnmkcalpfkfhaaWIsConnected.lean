/- FnExactIsConnected, walked. Conditions: none. -/
import Derived.Test.YtdnmkcalpfkfhaaIsConn
import Derived.Test.YtdnmkcalpfkfhaaOpenI
import Derived.Test.YtdnmkcalpfkfhaaLed
import Derived.Test.YtdnmkcalpfkfhaaSzN
import Derived.Test.YtdnmkcalpfkfhaaEqN
import Derived.Test.YtdnmkcalpfkfhaaOpenN
import Derived.Deep.RegionHeld3
namespace Go.Proofs.Ytdnmkcalpfkfhaa.fnExactIsConnected
open Go.RowKit
set_option maxHeartbeats 2000000 in
set_option maxRecDepth 100000 in
theorem walk (w : World) {A0 E0 : Option Addr} {n0 c0 m0 d0 : Nat} {xs0 : List ByteArray} {fs0 : List Fib} (h0 : NetArg w A0 n0 c0 E0 m0 d0 xs0 fs0) {A1 : Option Addr} {k1 c1 : Nat} {l1 : List Int} (h1 : IntsArg w A1 k1 c1 l1) :
    Calls Try.prog 13 #[.agg #[.slice A0 n0 c0, .slice E0 m0 d0], .slice A1 k1 c1] w fun e w' => e = .returned (.bool true) ∧ Below w.heap.size w w' := by
  obtain ⟨⟨h0nc, h0cm, h0A, h0x⟩, ⟨h0md, h0dm, h0F, _⟩⟩ := h0
  obtain ⟨h1nc, h1cm, h1A, _⟩ := h1
  obtain rfl := h1A.len
  have hS := Led.nil w
  replace hS := hS.blk_ (w.heap.size) (by simp) 25 #[.slice A0 n0 c0, .slice E0 m0 d0]
  by_cases h1n : l1.length ≤ 1048576
  case neg =>
    go_enter Try.func13, Try.ntmps13
    go_wp2
    go_ret
    exact ⟨rfl, hS.bl⟩
  obtain ⟨r0, hr0⟩ : ∃ r, r = lessI 1048576 (netTot xs0 fs0) := ⟨_, rfl⟩
  have hlb0 := lessI_bd (left := 1048576) (t := (netTot xs0 fs0))
  rw [← hr0] at hlb0
  have HR0 := hid hr0
  clear hr0
  rcases hlb0 with ⟨hz0, _⟩ | ⟨hz0, hy0, hx0⟩
  case inl =>
    subst hz0
    go_enter Try.func13, Try.ntmps13
    go_wp2_with fail
    refine (szNetwork_any 1048576 _ (h0A.below hS.bl) (h0F.below hS.bl) hS.bl.size (by omega) (by omega) h0x (by omega) (by omega)).mono ?_
    rintro e W1 ⟨rfl, hb⟩; replace hS := hS.step hb; clear hb
    rw [← HR0.out]
    go_wp2_with fail
    go_ret
    exact ⟨rfl, hS.bl⟩
  have h0n : n0 ≤ 1048576 := by have := h0A.len; unfold netTot strTot at hx0; omega
  have h0m : m0 ≤ 1048576 := by have := h0F.len; unfold netTot strTot at hx0; omega
  have h0I := hid (show NetIs w A0 n0 c0 E0 m0 d0 xs0 fs0 from ⟨⟨h0nc, h0n⟩, ⟨h0md, h0m⟩, h0A, h0F, h0x⟩)
  clear hx0
  have h1I := hid h1A
  go_enter Try.func13, Try.ntmps13
  go_wp2_with fail
  refine (szNetwork_any 1048576 _ (h0A.below hS.bl) (h0F.below hS.bl) hS.bl.size (by omega) (by omega) h0x (by omega) (by omega)).mono ?_
  rintro e W1 ⟨rfl, hb⟩; replace hS := hS.step hb; clear hb
  rw [← HR0.out]
  -- the reference
  have q0 := hS.cell 0 0 rfl rfl
  have q1 := hS.cell 0 1 rfl rfl
  go_wp2_with fail
  refine (toNetwork_own _ (h0I.out.grow hS.bl).strs (h0I.out.grow hS.bl).fibs (Nat.le_refl _) h0n h0m).mono ?_
  rintro e W2 ⟨Aw0, cw0, Ew0, dw0, rfl, ho, hb⟩
  replace hS := hS.net hb ho
  clear hb ho
  clear q0 q1
  go_wp2_with fail
  refine (toIntS_any _ (h1I.out.grow hS.bl) h1n).mono ?_
  rintro e W3 ⟨v, rfl, ho, hb⟩
  obtain ⟨Aw1, cw1, rfl, _, _, _⟩ := ho.form
  replace hS := hS.owns hb ho
  clear hb ho
  go_wp2_with fail
  refine (specIsConnected _ (hS.netIs 1 rfl h0n h0m h0x) (hS.seesI 0 rfl) h1n).mono ?_
  rintro e W4 ⟨rfl, hb⟩
  replace hS := hS.step hb
  clear hb
  -- the program on copies that are kept
  have q0 := hS.cell 2 0 rfl rfl
  have q1 := hS.cell 2 1 rfl rfl
  go_wp2_with fail
  refine (toNetwork_own _ (h0I.out.grow hS.bl).strs (h0I.out.grow hS.bl).fibs (Nat.le_refl _) h0n h0m).mono ?_
  rintro e W5 ⟨Ax0, cx0, Ex0, dx0, rfl, ho, hb⟩
  replace hS := hS.net hb ho
  clear hb ho
  clear q0 q1
  replace hS := hS.blk_ (W5.heap.size) (by simp) 35 #[.slice Ax0 n0 cx0, .slice Ex0 m0 dx0]
  go_wp2_with fail
  refine (toIntS_any _ (h1I.out.grow hS.bl) h1n).mono ?_
  rintro e W6 ⟨v, rfl, ho, hb⟩
  obtain ⟨Ax1, cx1, rfl, _, _, _⟩ := ho.form
  replace hS := hS.owns hb ho
  clear hb ho
  have q0 := hS.cell 1 0 rfl rfl
  have q1 := hS.cell 1 1 rfl rfl
  go_wp2_with fail
  refine (implIsConnected _ (hS.netIs 2 rfl h0n h0m h0x) (hS.seesI 0 rfl) h1n).mono ?_
  rintro e W7 ⟨rfl, hb⟩
  replace hS := hS.step hb
  clear hb
  clear q0 q1
  -- the results are equal
  -- the arguments are as they were
  have C0 : ∀ w', Cls W7 w' → w'.cell? ⟨w.heap.size, 0, none⟩ = some (.slice A0 n0 c0) := fun _ h => h.cell (hS.cell 5 0 rfl rfl)
  have C1 : ∀ w', Cls W7 w' → w'.cell? ⟨w.heap.size, 1, none⟩ = some (.slice E0 m0 d0) := fun _ h => h.cell (hS.cell 5 1 rfl rfl)
  have C2 : ∀ w', Cls W7 w' → w'.cell? ⟨W5.heap.size, 0, none⟩ = some (.slice Ax0 n0 cx0) := fun _ h => h.cell (hS.cell 1 0 rfl rfl)
  have C3 : ∀ w', Cls W7 w' → w'.cell? ⟨W5.heap.size, 1, none⟩ = some (.slice Ex0 m0 dx0) := fun _ h => h.cell (hS.cell 1 1 rfl rfl)
  have HL := hid (fun w' (h : Cls W7 w') => hS.step h)
  go_wp2_with fail
  go_region_held3 (fun w' => Cls W7 w') (first | exact Cls.drew _ | exact Cls.next (by assumption) (by assumption))
    (first
      | (go_at_call 18; refine (toNetwork_own _ (h0I.out.grow (HL.out _ (by assumption)).bl).strs (h0I.out.grow (HL.out _ (by assumption)).bl).fibs (Nat.le_refl _) h0n h0m).mono ?_; rintro e w' ⟨Ay0, cy0, Ey0, dy0, rfl, ho1, hb1⟩; have hL1 := (HL.out _ (by assumption)).net hb1 ho1)
      | (go_at_call 22; refine (eqN_led2 hL1 3 0 rfl rfl h0n h0m).mono ?_; rintro e w' ⟨rfl, hS2, hb2⟩))
  clear HL hL1 ho1 hb1 hb2 C0 C1 C2 C3
  replace hS := hS2.drop 1
  clear hS2
  dsimp only [List.drop] at hS
  generalize w' = W8 at *
  go_wp2_with fail
  refine (toIntS_any _ (h1I.out.grow hS.bl) h1n).mono ?_
  rintro e W9 ⟨v, rfl, ho, hb⟩
  obtain ⟨Ay1, cy1, rfl, _, _, _⟩ := ho.form
  replace hS := hS.owns hb ho
  clear hb ho
  go_wp2_with fail
  refine (eqI_led hS 1 0 rfl rfl h1n).mono ?_
  rintro e W10 ⟨rfl, hS1⟩; replace hS := hS1.drop 1; clear hS1; dsimp only [List.drop] at hS
  go_wp2_with fail
  go_ret
  exact ⟨rfl, hS.bl⟩
end Go.Proofs.Ytdnmkcalpfkfhaa.fnExactIsConnected
