/- Lemmas and walks that the claim rests on, laid together. Conditions: none. -/
import Derived.Test.YtgoegldffjfmdaaZ3e7ec2cc42d9
import Derived.Test.YtgoegldffjfmdaaZ187c70330d69
import Derived.Test.YtgoegldffjfmdaaZ1d5c62f55585
import Derived.Test.YtgoegldffjfmdaaZ30c26adfc633
import Derived.Deep.RegionHeld3
/- FnExactRoutesThrough, walked. Conditions: none. -/
namespace Go.Proofs.Ytgoegldffjfmdaa.fnExactRoutesThrough
open Go.RowKit
set_option maxHeartbeats 2000000 in
set_option maxRecDepth 100000 in
theorem walk (w : World) {A0 E0 : Option Addr} {n0 c0 m0 d0 : Nat} {xs0 : List ByteArray} {fs0 : List Fib} (h0 : NetArg w A0 n0 c0 E0 m0 d0 xs0 fs0) {A1 : Option Addr} {n1 c1 : Nat} {sp1 : List (Int × Sl)} {rw1 : List (Int × List Int)} (h1 : RoutesArg w A1 n1 c1 sp1 rw1) {A2 : Option Addr} {k2 c2 : Nat} {l2 : List Int} (h2 : IntsArg w A2 k2 c2 l2) :
    Calls Try.prog 5 #[.agg #[.slice A0 n0 c0, .slice E0 m0 d0], .slice A1 n1 c1, .slice A2 k2 c2] w fun e w' => e = .returned (.bool true) ∧ Below w.heap.size w w' := by
  obtain ⟨⟨h0nc, h0cm, h0A, h0x⟩, ⟨h0md, h0dm, h0F, _⟩⟩ := h0
  obtain ⟨h1nc, h1cm, h1A, h1x⟩ := h1
  have h1l : rw1.length = n1 := by rw [← h1A.2.1]; exact h1A.1.len
  subst h1l
  obtain ⟨h2nc, h2cm, h2A, _⟩ := h2
  obtain rfl := h2A.len
  have hS := Led.nil w
  replace hS := hS.blk_ (w.heap.size) (by simp) 25 #[.slice A0 n0 c0, .slice E0 m0 d0]
  by_cases h2n : l2.length ≤ 1048576
  case neg =>
    go_enter Try.func5, Try.ntmps5
    go_wp2
    go_ret
    exact ⟨rfl, hS.bl⟩
  obtain ⟨r0, hr0⟩ : ∃ r, r = lessI 1048576 (netTot xs0 fs0) := ⟨_, rfl⟩
  have hlb0 := lessI_bd (left := 1048576) (t := (netTot xs0 fs0))
  rw [← hr0] at hlb0
  have HR0 := hid hr0
  clear hr0
  rcases hlb0 with ⟨hz0, _⟩ | ⟨hz0, hy0, hx0⟩
  case inl =>
    subst hz0
    go_enter Try.func5, Try.ntmps5
    go_wp2_with fail
    refine (szNetwork_any 1048576 _ (h0A.below hS.bl) (h0F.below hS.bl) hS.bl.size (by omega) (by omega) h0x (by omega) (by omega)).mono ?_
    rintro e W1 ⟨rfl, hb⟩; replace hS := hS.step hb; clear hb
    rw [← HR0.out]
    go_wp2_with fail
    go_ret
    exact ⟨rfl, hS.bl⟩
  have h0n : n0 ≤ 1048576 := by have := h0A.len; unfold netTot strTot at hx0; omega
  have h0m : m0 ≤ 1048576 := by have := h0F.len; unfold netTot strTot at hx0; omega
  have h0I := hid (show NetIs w A0 n0 c0 E0 m0 d0 xs0 fs0 from ⟨⟨h0nc, h0n⟩, ⟨h0md, h0m⟩, h0A, h0F, h0x⟩)
  clear hx0
  obtain ⟨r1, hr1⟩ : ∃ r, r = lessI r0 (rtsTot rw1) := ⟨_, rfl⟩
  have hlb1 := lessI_bd (left := r0) (t := (rtsTot rw1))
  rw [← hr1] at hlb1
  have HR1 := hid hr1
  clear hr1
  rcases hlb1 with ⟨hz1, _⟩ | ⟨hz1, hy1, hx1⟩
  case inl =>
    subst hz1
    go_enter Try.func5, Try.ntmps5
    go_wp2_with fail
    refine (szNetwork_any 1048576 _ (h0A.below hS.bl) (h0F.below hS.bl) hS.bl.size (by omega) (by omega) h0x (by omega) (by omega)).mono ?_
    rintro e W1 ⟨rfl, hb⟩; replace hS := hS.step hb; clear hb
    rw [← HR0.out]
    go_wp2_with fail
    refine (szRouteS_any r0 _ (h1A.grow hS.bl) (by omega) (fun s hs => by have := h1x s hs; omega) (by omega) (by omega)).mono ?_
    rintro e W2 ⟨rfl, hb⟩; replace hS := hS.step hb; clear hb
    rw [← HR1.out]
    go_wp2_with fail
    go_ret
    exact ⟨rfl, hS.bl⟩
  have h1t : rtsTot rw1 ≤ 1048576 := by omega
  have h1n : rw1.length ≤ 1048576 := by unfold rtsTot at h1t; omega
  have h1r := hid (fun (r : Int × List Int) (hr : r ∈ rw1) => Nat.le_trans (rts_le_tot hr) h1t)
  have h1o := hid (fun k : Int => offR_tot k rw1)
  have h1I := hid h1A
  clear hx1
  have h2I := hid h2A
  go_enter Try.func5, Try.ntmps5
  go_wp2_with fail
  refine (szNetwork_any 1048576 _ (h0A.below hS.bl) (h0F.below hS.bl) hS.bl.size (by omega) (by omega) h0x (by omega) (by omega)).mono ?_
  rintro e W1 ⟨rfl, hb⟩; replace hS := hS.step hb; clear hb
  rw [← HR0.out]
  go_wp2_with fail
  refine (szRouteS_any r0 _ (h1A.grow hS.bl) (by omega) (fun s hs => by have := h1x s hs; omega) (by omega) (by omega)).mono ?_
  rintro e W2 ⟨rfl, hb⟩; replace hS := hS.step hb; clear hb
  rw [← HR1.out]
  -- the reference
  have q0 := hS.cell 0 0 rfl rfl
  have q1 := hS.cell 0 1 rfl rfl
  go_wp2_with fail
  refine (toNetwork_own _ (h0I.out.grow hS.bl).strs (h0I.out.grow hS.bl).fibs (Nat.le_refl _) h0n h0m).mono ?_
  rintro e W3 ⟨Aw0, cw0, Ew0, dw0, rfl, ho, hb⟩
  replace hS := hS.net hb ho
  clear hb ho
  clear q0 q1
  go_wp2_with fail
  refine (toRouteS_any _ (h1I.out.grow hS.bl) h1n h1r.out).mono ?_
  rintro e W4 ⟨v, ttw1, rfl, ho, hb⟩
  obtain ⟨Aw1, cw1, hv, _, _, _⟩ := ho.1.form
  rw [ho.2.1] at hv
  subst hv
  replace hS := hS.rs hb ho
  clear hb ho
  go_wp2_with fail
  refine (toIntS_any _ (h2I.out.grow hS.bl) h2n).mono ?_
  rintro e W5 ⟨v, rfl, ho, hb⟩
  obtain ⟨Aw2, cw2, rfl, _, _, _⟩ := ho.form
  replace hS := hS.owns hb ho
  clear hb ho
  go_wp2_with fail
  refine (specThrough _ (hS.netIs 2 rfl h0n h0m h0x) (hS.rsIs 1 rfl h1n h1r.out) (hS.seesI 0 rfl) h2n).mono ?_
  rintro e W6 ⟨vw0, rfl, ho0, hb⟩
  have hlen0 := hid ((Nat.le_trans thL_len (by decide) : (thL xs0 fs0 rw1 l2).length ≤ 1048576))
  generalize hL0 : thL xs0 fs0 rw1 l2 = L0 at *
  obtain ⟨Aw0, cw0, rfl, _, _, _⟩ := ho0.form
  replace hS := hS.owns hb ho0
  clear hb ho0
  -- the program on copies that are kept
  have q0 := hS.cell 4 0 rfl rfl
  have q1 := hS.cell 4 1 rfl rfl
  go_wp2_with fail
  refine (toNetwork_own _ (h0I.out.grow hS.bl).strs (h0I.out.grow hS.bl).fibs (Nat.le_refl _) h0n h0m).mono ?_
  rintro e W7 ⟨Ax0, cx0, Ex0, dx0, rfl, ho, hb⟩
  replace hS := hS.net hb ho
  clear hb ho
  clear q0 q1
  replace hS := hS.blk_ (W7.heap.size) (by simp) 34 #[.slice Ax0 n0 cx0, .slice Ex0 m0 dx0]
  go_wp2_with fail
  refine (toRouteS_any _ (h1I.out.grow hS.bl) h1n h1r.out).mono ?_
  rintro e W8 ⟨v, ttx1, rfl, ho, hb⟩
  obtain ⟨Ax1, cx1, hv, _, _, _⟩ := ho.1.form
  rw [ho.2.1] at hv
  subst hv
  replace hS := hS.rs hb ho
  clear hb ho
  go_wp2_with fail
  refine (toIntS_any _ (h2I.out.grow hS.bl) h2n).mono ?_
  rintro e W9 ⟨v, rfl, ho, hb⟩
  obtain ⟨Ax2, cx2, rfl, _, _, _⟩ := ho.form
  replace hS := hS.owns hb ho
  clear hb ho
  have q0 := hS.cell 2 0 rfl rfl
  have q1 := hS.cell 2 1 rfl rfl
  go_wp2_with fail
  refine (implThrough _ (hS.netIs 3 rfl h0n h0m h0x) (hS.rsIs 1 rfl h1n h1r.out) (hS.seesI 0 rfl) h2n).mono ?_
  rintro e W10 ⟨vg0, rfl, ho0, hb⟩
  rw [hL0] at ho0
  obtain ⟨Ag0, cg0, rfl, _, _, _⟩ := ho0.form
  replace hS := hS.owns hb ho0
  clear hb ho0
  clear q0 q1
  -- the results are equal
  go_wp2_with fail
  refine (eqI_led hS 0 5 rfl rfl hlen0.out).mono ?_
  rintro e W11 ⟨rfl, hS1⟩; replace hS := hS1; clear hS1
  -- the arguments are as they were
  have C0 : ∀ w', Cls W11 w' → w'.cell? ⟨w.heap.size, 0, none⟩ = some (.slice A0 n0 c0) := fun _ h => h.cell (hS.cell 9 0 rfl rfl)
  have C1 : ∀ w', Cls W11 w' → w'.cell? ⟨w.heap.size, 1, none⟩ = some (.slice E0 m0 d0) := fun _ h => h.cell (hS.cell 9 1 rfl rfl)
  have C2 : ∀ w', Cls W11 w' → w'.cell? ⟨W7.heap.size, 0, none⟩ = some (.slice Ax0 n0 cx0) := fun _ h => h.cell (hS.cell 3 0 rfl rfl)
  have C3 : ∀ w', Cls W11 w' → w'.cell? ⟨W7.heap.size, 1, none⟩ = some (.slice Ex0 m0 dx0) := fun _ h => h.cell (hS.cell 3 1 rfl rfl)
  have HL := hid (fun w' (h : Cls W11 w') => hS.step h)
  go_wp2_with fail
  go_region_held3 (fun w' => Cls W11 w') (first | exact Cls.drew _ | exact Cls.next (by assumption) (by assumption))
    (first
      | (go_at_call 15; refine (toNetwork_own _ (h0I.out.grow (HL.out _ (by assumption)).bl).strs (h0I.out.grow (HL.out _ (by assumption)).bl).fibs (Nat.le_refl _) h0n h0m).mono ?_; rintro e w' ⟨Ay0, cy0, Ey0, dy0, rfl, ho1, hb1⟩; have hL1 := (HL.out _ (by assumption)).net hb1 ho1)
      | (go_at_call 18; refine (eqN_led2 hL1 5 0 rfl rfl h0n h0m).mono ?_; rintro e w' ⟨rfl, hS2, hb2⟩))
  clear HL hL1 ho1 hb1 hb2 C0 C1 C2 C3
  replace hS := hS2.drop 1
  clear hS2
  dsimp only [List.drop] at hS
  generalize w' = W12 at *
  go_wp2_with fail
  refine (toRouteS_any _ (h1I.out.grow hS.bl) h1n h1r.out).mono ?_
  rintro e W13 ⟨v, tty1, rfl, ho, hb⟩
  obtain ⟨Ay1, cy1, hv, _, _, _⟩ := ho.1.form
  rw [ho.2.1] at hv
  subst hv
  replace hS := hS.rs hb ho
  clear hb ho
  go_wp2_with fail
  refine (eqRS_led hS 3 0 rfl rfl h1n h1r.out).mono ?_
  rintro e W14 ⟨rfl, hS1⟩; replace hS := hS1.drop 1; clear hS1; dsimp only [List.drop] at hS
  go_wp2_with fail
  refine (toIntS_any _ (h2I.out.grow hS.bl) h2n).mono ?_
  rintro e W15 ⟨v, rfl, ho, hb⟩
  obtain ⟨Ay2, cy2, rfl, _, _, _⟩ := ho.form
  replace hS := hS.owns hb ho
  clear hb ho
  go_wp2_with fail
  refine (eqI_led hS 2 0 rfl rfl h2n).mono ?_
  rintro e W16 ⟨rfl, hS1⟩; replace hS := hS1.drop 1; clear hS1; dsimp only [List.drop] at hS
  -- marks
  have q0 := hS.cell 3 0 rfl rfl
  have q1 := hS.cell 3 1 rfl rfl
  go_wp2_with fail
  refine (markN_led hS 4 rfl _ h0n h0m (by omega) (by omega)).mono ?_
  rintro e W17 ⟨rfl, hS1⟩; replace hS := hS1; clear hS1; dsimp only [List.set] at hS
  clear q0 q1
  go_wp2_with fail
  refine (markRS_led hS 2 rfl _ (rs_n hS 2 rfl) h1n h1r.out (by omega) (by rw [h1o.out]; omega)).mono ?_
  rintro e W18 ⟨rfl, _, _, hS1⟩; replace hS := hS1; clear hS1; dsimp only [List.set] at hS
  rw [h1o.out]
  go_wp2_with fail
  refine (markI_led hS 1 rfl _ h2n (by omega) (by omega)).mono ?_
  rintro e W19 ⟨rfl, hS1⟩; replace hS := hS1; clear hS1; dsimp only [List.set] at hS
  go_wp2_with fail
  refine (eqI_led hS 0 5 rfl rfl hlen0.out).mono ?_
  rintro e W20 ⟨rfl, hS1⟩; replace hS := hS1; clear hS1
  go_wp2_with fail
  refine (markI_led hS 0 rfl _ hlen0.out (by have := hlen0.out; omega) (by have := hlen0.out; omega)).mono ?_
  rintro e W21 ⟨rfl, hS1⟩; replace hS := hS1; clear hS1; dsimp only [List.set] at hS
  go_wp2_with fail
  refine (heldI_led hS 0 _ rfl hlen0.out (by have := hlen0.out; omega) (by have := hlen0.out; omega)).mono ?_
  rintro e W22 ⟨rfl, hS1⟩; replace hS := hS1; clear hS1
  -- once more
  have q0 := hS.cell 9 0 rfl rfl
  have q1 := hS.cell 9 1 rfl rfl
  go_wp2_with fail
  refine (toNetwork_own _ (h0I.out.grow hS.bl).strs (h0I.out.grow hS.bl).fibs (Nat.le_refl _) h0n h0m).mono ?_
  rintro e W23 ⟨Ah0, ch0, Eh0, dh0, rfl, ho, hb⟩
  replace hS := hS.net hb ho
  clear hb ho
  clear q0 q1
  go_wp2_with fail
  refine (toRouteS_any _ (h1I.out.grow hS.bl) h1n h1r.out).mono ?_
  rintro e W24 ⟨v, tth1, rfl, ho, hb⟩
  obtain ⟨Ah1, ch1, hv, _, _, _⟩ := ho.1.form
  rw [ho.2.1] at hv
  subst hv
  replace hS := hS.rs hb ho
  clear hb ho
  go_wp2_with fail
  refine (toIntS_any _ (h2I.out.grow hS.bl) h2n).mono ?_
  rintro e W25 ⟨v, rfl, ho, hb⟩
  obtain ⟨Ah2, ch2, rfl, _, _, _⟩ := ho.form
  replace hS := hS.owns hb ho
  clear hb ho
  go_wp2_with fail
  refine (implThrough _ (hS.netIs 2 rfl h0n h0m h0x) (hS.rsIs 1 rfl h1n h1r.out) (hS.seesI 0 rfl) h2n).mono ?_
  rintro e W26 ⟨vh0, rfl, ho0, hb⟩
  rw [hL0] at ho0
  obtain ⟨Ah0, ch0, rfl, _, _, _⟩ := ho0.form
  replace hS := hS.owns hb ho0
  clear hb ho0
  go_wp2_with fail
  refine (eqI_led hS 0 9 rfl rfl hlen0.out).mono ?_
  rintro e W27 ⟨rfl, hS1⟩; replace hS := hS1; clear hS1
  go_wp2_with fail
  refine (heldI_led hS 4 _ rfl hlen0.out (by have := hlen0.out; omega) (by have := hlen0.out; omega)).mono ?_
  rintro e W28 ⟨rfl, hS1⟩; replace hS := hS1; clear hS1
  go_wp2_with fail
  go_ret
  exact ⟨rfl, hS.bl⟩
end Go.Proofs.Ytgoegldffjfmdaa.fnExactRoutesThrough
