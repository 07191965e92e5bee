/- FnExactFibersBetween, walked. Conditions: none. -/
import Derived.Test.YtldheoomlagapaaFibBetween
import Derived.Test.YtldheoomlagapaaSzN
import Derived.Test.YtldheoomlagapaaEqN
import Derived.Test.YtldheoomlagapaaOpenN
import Derived.Test.YtldheoomlagapaaNetIs
import Derived.Test.YtldheoomlagapaaMarkN
import Derived.Test.YtldheoomlagapaaMarkI
import Derived.Test.YtldheoomlagapaaIntL
import Derived.Test.YtldheoomlagapaaOpenI
import Derived.Deep.RegionHeld3
namespace Go.Proofs.Ytldheoomlagapaa.fnExactFibersBetween
open Go.RowKit
set_option maxHeartbeats 1000000 in
set_option maxRecDepth 100000 in
theorem walk (w : World) {A A' : Option Addr} {n c m d : Nat} {xs : List ByteArray} {fs : List Fib} (h : NetArg w A n c A' m d xs fs) {V : Option Addr} {kl e1 : Nat} {l : List Int} (hl : IntsArg w V kl e1 l) :
    Calls Try.prog 13 #[.agg #[.slice A n c, .slice A' m d], .slice V kl e1] w fun e w' => e = .returned (.bool true) ∧ Below w.heap.size w w' := by
  obtain ⟨⟨hnc, hcm, hA, hx⟩, ⟨hmd, hdm, hF, _⟩⟩ := h
  have hb0 := bl_alloc (Below.refl w.heap.size w) (.cells #[.slice A n c, .slice A' m d] 25)
  have hbx : Blk (w.alloc (.cells #[.slice A n c, .slice A' m d] 25)) w.heap.size 25 #[.slice A n c, .slice A' m d] := Blk.new _ _ _
  have k1 := hA.below hb0
  have k2 := hF.below hb0
  obtain ⟨hve, hem, hV, _⟩ := hl
  have hVL := hid hV.len
  by_cases hkl : kl ≤ 1048576
  case neg =>
    go_enter Try.func13, Try.ntmps13
    go_wp2
    go_ret
    exact ⟨rfl, hb0⟩
  rcases lessI_bd (left := 1048576) (t := netTot xs fs) with ⟨h1, _⟩ | ⟨h1, h2, h3⟩
  · have HS := hid h1
    clear h1
    go_enter Try.func13, Try.ntmps13
    go_wp2_with fail
    refine (szNetwork_any 1048576 _ k1 k2 (by simp) (by omega) (by omega) hx (by omega) (by omega)).mono ?_
    rintro e w1 ⟨rfl, hb1⟩
    rw [HS.out]
    go_wp2_with fail
    go_ret
    exact ⟨rfl, bl_then hb0 hb1⟩
  · have hn : n ≤ 1048576 := by have := hA.len; unfold netTot strTot at h3; omega
    have hm : m ≤ 1048576 := by have := hF.len; unfold netTot strTot at h3; omega
    have hI := hid (show NetIs w A n c A' m d xs fs from ⟨⟨hnc, hn⟩, ⟨hmd, hm⟩, hA, hF, hx⟩)
    clear h3
    go_enter Try.func13, Try.ntmps13
    go_wp2_with fail
    refine (szNetwork_any 1048576 _ k1 k2 (by simp) (by omega) (by omega) hx (by omega) (by omega)).mono ?_
    generalize lessI 1048576 (netTot xs fs) = r at *
    rintro e w1 ⟨rfl, hb1⟩
    have hbx1 := hbx.below hb1 hbx.lt
    have hbw1 := bl_then hb0 hb1
    have q0 := hbx1.cell 0
    have q1 := hbx1.cell 1
    simp at q0 q1
    go_wp2_with fail
    have hI1 := hid (hI.out.grow hbw1)
    refine (toNetwork_own w1 hI1.out.strs hI1.out.fibs (Nat.le_refl _) hn hm).mono ?_
    rintro e w2 ⟨A1, c1, A2, c2, rfl, hN1, hb2⟩
    go_wp2_with fail
    have hV2 := (hV.grow hbw1).grow hb2
    refine (toIntS_any w2 hV2 hkl).mono ?_
    rintro e w2b ⟨vi, rfl, hoi, hb2b⟩
    obtain ⟨Ai, ci, rfl, _, _, hsi⟩ := hoi.form
    rw [hVL.out] at hsi ⊢
    have hb2 := bl_then hb2 hb2b
    have hN1 := hN1.below hb2b
    clear hb2b hoi hV2
    go_wp2_with fail
    refine (specFibersBetween w2b (hN1.is hn hm hx) hsi hkl).mono ?_
    rintro e w3 ⟨v0, rfl, ho0, hb3⟩
    have hlen := hid (Nat.le_trans (fbI_len (xs := xs) (fs := fs) l) (by have := hF.len; omega : fs.length ≤ 1048576))
    generalize hL : fbI xs fs l = L at *
    obtain ⟨A0, c0, rfl, _, _, hs0⟩ := ho0.form
    have hs0 := hid hs0
    clear ho0
    have hbw3 := bl_then (bl_then hbw1 hb2) hb3
    have hbx3 := (hbx1.below hb2 hbx1.lt).below hb3 (Nat.lt_of_lt_of_le hbx1.lt hb2.size)
    have q0 := hbx3.cell 0
    have q1 := hbx3.cell 1
    simp at q0 q1
    go_wp2_with fail
    have hI3 := hid (hI.out.grow hbw3)
    refine (toNetwork_own w3 hI3.out.strs hI3.out.fibs (Nat.le_refl _) hn hm).mono ?_
    rintro e w4 ⟨A3, c3, A4, c4, rfl, hN2, hb4⟩
    have hbw4 := bl_then hbw3 hb4
    have hbx3lt := hid hbx3.lt
    have hbx4 := hbx3.below hb4 hbx3.lt
    have hs4 := hid (hs0.out.grow hb4)
    clear q0 q1 hbx3 hb2 hb1 hb3 hN1 k1 k2 hb0 hbx hbx1 hI1 hI3 hs0
    have hbw5 := bl_alloc hbw4 (.cells #[.slice A3 n c3, .slice A4 m c4] 30)
    have hb5 := bl_alloc (Below.refl w4.heap.size w4) (.cells #[.slice A3 n c3, .slice A4 m c4] 30)
    have hN3 := hN2.below hb5
    go_wp2_with fail
    have hV5 := hV.grow hbw5
    refine (toIntS_any _ hV5 hkl).mono ?_
    rintro e w5 ⟨vx, rfl, hox, hb5x⟩
    obtain ⟨Ax, cx, rfl, _, _, hsx⟩ := hox.form
    rw [hVL.out] at hsx hox ⊢
    have hbw5 := bl_then hbw5 hb5x
    have hbx5 := (hbx4.alloc (.cells #[.slice A3 n c3, .slice A4 m c4] 30)).below hb5x (by have := hbx4.lt; simp; omega)
    have hby5 := (Blk.new w4 30 #[.slice A3 n c3, .slice A4 m c4]).below hb5x (by simp)
    have hN5 := hN3.below hb5x
    have hs5 := hid ((hs4.out.grow hb5).grow hb5x)
    have z45 : w4.heap.size + 1 ≤ w5.heap.size := by have := hb5x.size; simp at this; exact this
    have hox := hid (hox.base (base' := w4.heap.size) (by simp))
    have q0 := hby5.cell 0
    have q1 := hby5.cell 1
    simp at q0 q1
    clear hb5x hV5
    go_wp2_with fail
    refine (implFibersBetween _ (hN5.is hn hm hx) hsx hkl).mono ?_
    rintro e w6 ⟨v6, rfl, ho6, hb6⟩
    rw [hL] at ho6
    have hbw6 := bl_then hbw5 hb6
    have hbx6 := hbx5.below hb6 hbx5.lt
    have hby6 := hby5.below hb6 hby5.lt
    have hN6 := hN5.below hb6
    have hs6 := hid (hs5.out.grow hb6)
    have hxl := hid hox.out.lies
    have hox6 := hid (hox.out.below hb6)
    have ho6 := hid ho6
    clear q0 q1 hsx hbx5 hby5 hN5 hs5 hox
    have hlies := hN2.2.2.2.2.2.2.1.lies
    have hlies' := hN2.2.2.2.2.2.2.2.lies
    have z34 := hb4.size
    have z63 : w5.heap.size ≤ w6.heap.size := hb6.size
    have z03 := hbw3.size
    obtain ⟨Ag, cg, rfl, _, _, hg6⟩ := ho6.out.form
    have HO6 := ho6
    have HL := hid hlies
    have HL' := hid hlies'
    have HG6 := hid hg6
    clear hb4 hb5 hb6 hN3 hN2 hbx4 hbw4 hbw5 hs4 ho6 hlies hlies' hg6
    go_wp2_with fail
    refine (eqIntS_any _ HG6.out hs6.out hlen.out).mono ?_
    rintro e w7 ⟨rfl, q7, hq7⟩
    have hd7 : Below w6.heap.size w6 w7 := by rw [hq7]; exact bl_drewN (Below.refl _ _) _
    clear hq7 HG6
    have hbw7 := bl_then hbw6 hd7
    have hbx7 := hbx6.below hd7 hbx6.lt
    have hby7 := hby6.below hd7 hby6.lt
    have hN7 := hN6.below hd7
    have hs7 := hid (hs6.out.grow hd7)
    have HO7 := hid (HO6.out.below hd7)
    have hox7 := hid (hox6.out.below hd7)
    have z67 := hd7.size
    clear hbw6 hbx6 hby6 hN6 hs6 HO6 hd7 hox6
    go_wp2_with fail
    have C0 : ∀ w', Cls w7 w' → w'.cell? ⟨w.heap.size, 0, none⟩ = some (.slice A n c) := fun _ h => h.cell (by rw [hbx7.cell]; rfl)
    have C1 : ∀ w', Cls w7 w' → w'.cell? ⟨w.heap.size, 1, none⟩ = some (.slice A' m d) := fun _ h => h.cell (by rw [hbx7.cell]; rfl)
    have C2 : ∀ w', Cls w7 w' → w'.cell? ⟨w4.heap.size, 0, none⟩ = some (.slice A3 n c3) := fun _ h => h.cell (by rw [hby7.cell]; rfl)
    have C3 : ∀ w', Cls w7 w' → w'.cell? ⟨w4.heap.size, 1, none⟩ = some (.slice A4 m c4) := fun _ h => h.cell (by rw [hby7.cell]; rfl)
    have HI : Hid (∀ w', Cls w7 w' → NetIs w' A n c A' m d xs fs) := fun w' h => hI.out.grow (bl_then hbw7 h)
    have HN : Hid (∀ w', Cls w7 w' → NetOwn w' w3.heap.size A3 n c3 A4 m c4 xs fs) := fun w' h => hN7.below h
    have HX : Hid (Blk w7 w.heap.size 25 #[.slice A n c, .slice A' m d]) := hbx7
    have HY : Hid (Blk w7 w4.heap.size 30 #[.slice A3 n c3, .slice A4 m c4]) := hby7
    clear hbx7 hby7 hN7
    go_region_held3 (fun w' => Cls w7 w') (first | exact Cls.drew _ | exact Cls.next (by assumption) (by assumption))
      (first
        | (go_at_call 17; refine (toNetwork_own _ (HI.out _ (by assumption)).strs (HI.out _ (by assumption)).fibs (Nat.le_refl _) hn hm).mono ?_; rintro e w' ⟨A5, c5, A6, c6, rfl, hN7, hb7⟩)
        | (go_at_call 19; refine (eqNetwork_any _ (HN.out _ (by assumption)).strs hN7.strs (HN.out _ (by assumption)).fibs hN7.fibs (Nat.le_refl _) (Nat.le_refl _) (by simp only [maxLen]; omega) (by simp only [maxLen]; omega)).mono ?_; rintro e w' ⟨rfl, hb8⟩))
    rename_i hw8
    clear C0 C1 C2 C3 hN7 hb7 hb8
    have hbw8 := bl_then hbw7 hw8
    have hox8 := hid (hox7.out.below hw8)
    have HO8 := hid (HO7.out.below hw8)
    have hs8 := hid (hs7.out.grow hw8)
    have HX8 := hid (HX.out.below hw8 HX.out.lt)
    have HY8 := hid (HY.out.below hw8 HY.out.lt)
    have HN8 := hid (HN.out _ hw8)
    have z78 := hw8.size
    clear HX HY HN HI hw8 hbw7 HO7 hs7 hox7
    generalize w' = wq at *
    go_wp2_with fail
    have hV8 := hV.grow hbw8
    refine (toIntS_any _ hV8 hkl).mono ?_
    rintro e wr ⟨vr, rfl, hor, hbr⟩
    obtain ⟨Ar, cr, rfl, _, _, hsr⟩ := hor.form
    have hsr := hid hsr
    have hxr := hid (hox8.out.below hbr)
    have hxs := hxr.out.sees
    rw [hVL.out] at hxs ⊢
    clear hor
    go_wp2_with fail
    refine (eqIntS_any _ hxs (by have := hsr.out; rw [hVL.out] at this; exact this) hkl).mono ?_
    rintro e w8 ⟨rfl, q8, hq8⟩
    have hdr : Below wr.heap.size wr w8 := by rw [hq8]; exact bl_drewN (Below.refl _ _) _
    have hdq := bl_then hbr hdr
    have hbw8 := bl_then hbw8 hdq
    have HO8 := hid (HO8.out.below hdq)
    have hox8 := hid (hox8.out.below hdq)
    have hs8 := hid (hs8.out.grow hdq)
    have HX8 := hid (HX8.out.below hdq HX8.out.lt)
    have HY8 := hid (HY8.out.below hdq HY8.out.lt)
    have HN8 := hid (HN8.out.below hdq)
    have z78 := Nat.le_trans z78 hdq.size
    clear hq8 hdr hdq hbr hxr hxs hsr hV8
    have q0 := HY8.out.cell 0
    have q1 := HY8.out.cell 1
    simp at q0 q1
    go_wp2_with fail
    refine (markNetwork_any 1 _ HN8.out hn hm (by omega) (by omega)).mono ?_
    rintro e w9a ⟨rfl, _, ht9⟩
    have hS1 : ∀ b, ((Value.slice A3 n c3).ownBlock = some b ∨ (Value.slice A4 m c4).ownBlock = some b) → w3.heap.size ≤ b ∧ b < w4.heap.size := by
      rintro b (h | h)
      · exact HL.out b h
      · exact HL'.out b h
    have HX9 := hid (HX8.out.touch ht9 (fun hs => by have := (hS1 _ hs).1; have := hbx3lt.out; omega))
    have hs9 := hid (hs8.out.touch ht9 (fun k hk => (hS1 k hk).1))
    have HO9 := hid (HO8.out.touch ht9 (fun g hg hs => by have := (HO8.out.lies g hg).1; have := (hS1 g hs).2; omega))
    have hox9 := hid (hox8.out.touch ht9 (fun g hg hs => by have := (hox8.out.lies g hg).1; have := (hS1 g hs).2; omega))
    have hbw9 := hbw8.trans (ht9.below (B := w.heap.size) (fun k hk => by have := (hS1 k hk).1; omega) (by omega))
    have z89 := ht9.size
    clear q0 q1 HY8 HX8 hs8 HO8 hbw8 HN8 ht9 hS1 HL HL' hox8
    go_wp2_with fail
    refine (markIntS_any _ _ hox9.out hVL.out hkl (by omega) (by omega)).mono ?_
    rintro e w9b ⟨rfl, _, ht9b⟩
    have hS3 : ∀ b, (Value.slice Ax kl cx).ownBlock = some b → w4.heap.size ≤ b ∧ b < w5.heap.size := fun b h => by have := hxl.out b h; exact this
    have HX9 := hid (HX9.out.touch ht9b (fun hs => by have := (hS3 _ hs).1; have := hbx3lt.out; omega))
    have hs9 := hid (hs9.out.touch ht9b (fun k hk => by have := (hS3 k hk).1; omega))
    have HO9 := hid (HO9.out.touch ht9b (fun g hg hs => by have := (HO9.out.lies g hg).1; have := (hS3 g hs).2; omega))
    have hbw9 := hbw9.trans (ht9b.below (B := w.heap.size) (fun k hk => by have := (hS3 k hk).1; omega) (by omega))
    have z89 := Nat.le_trans z89 ht9b.size
    clear hox9 ht9b hS3 hxl
    generalize w9b = w9 at *
    go_wp2_with fail
    refine (eqIntS_any _ HO9.out.sees hs9.out hlen.out).mono ?_
    rintro e wa ⟨rfl, q10, hq10⟩
    have hda : Below w9.heap.size w9 wa := by rw [hq10]; exact bl_drewN (Below.refl _ _) _
    have HXa := hid (HX9.out.below hda HX9.out.lt)
    have hsa := hid (hs9.out.grow hda)
    have HOa := hid (HO9.out.below hda)
    have hbwa := bl_then hbw9 hda
    have z9a := hda.size
    clear HX9 hs9 HO9 hbw9 hda hq10
    go_wp2_with fail
    refine (markIntS_any 1 _ HOa.out rfl hlen.out (by omega) (by omega)).mono ?_
    rintro e wb ⟨rfl, HOb, htb⟩
    have hS2 : ∀ b, (Value.slice Ag L.length cg).ownBlock = some b → w5.heap.size ≤ b := fun b h => (HOa.out.lies b h).1
    have HXb := hid (HXa.out.touch htb (fun hs => by have := hS2 _ hs; have := hbx3lt.out; omega))
    have hsb := hid (hsa.out.touch htb (fun k hk => by have := hS2 k hk; omega))
    have hbwb := hbwa.trans (htb.below (B := w.heap.size) (fun k hk => by have := hS2 k hk; omega) (by omega))
    have HOb := hid HOb
    clear HXa hsa HOa hbwa htb hS2
    go_wp2_with fail
    refine (heldIntS_any (n := L.length) 1 wb (by have := HOb.out.sees; rw [marks_len] at this; exact this) hlen.out (by omega) (by omega)).mono ?_
    rintro e wc ⟨rfl, hwc⟩
    subst hwc
    have q0 := HXb.out.cell 0
    have q1 := HXb.out.cell 1
    simp at q0 q1
    have hIb := hid (hI.out.grow hbwb)
    go_wp2_with fail
    refine (toNetwork_own wb hIb.out.strs hIb.out.fibs (Nat.le_refl _) hn hm).mono ?_
    rintro e wd ⟨A7, c7, A8, c8, rfl, hNd, hbd⟩
    have hbwd := bl_then hbwb hbd
    have hsd := hid (hsb.out.grow hbd)
    have HOd := hid (HOb.out.below hbd)
    clear q0 q1 hsb HOb hbwb hbd hIb HXb
    go_wp2_with fail
    have hVd := hV.grow hbwd
    refine (toIntS_any _ hVd hkl).mono ?_
    rintro e wdb ⟨vs, rfl, hos, hbs⟩
    obtain ⟨As, cs, rfl, _, _, hss⟩ := hos.form
    rw [hVL.out] at hss ⊢
    have hbwd := bl_then hbwd hbs
    have hsd := hid (hsd.out.grow hbs)
    have HOd := hid (HOd.out.below hbs)
    have hNd := hNd.below hbs
    clear hbs hos hVd
    go_wp2_with fail
    refine (implFibersBetween wdb (hNd.is hn hm hx) hss hkl).mono ?_
    rintro e we ⟨ve, rfl, hoe, hbe⟩
    rw [hL] at hoe
    obtain ⟨Ae, ce, rfl, _, _, hge⟩ := hoe.form
    have HGe := hid hge
    have hbwe := bl_then hbwd hbe
    have hse := hid (hsd.out.grow hbe)
    have HOe := hid (HOd.out.below hbe)
    clear hsd HOd hbwd hbe hoe hge hNd
    go_wp2_with fail
    refine (eqIntS_any _ HGe.out hse.out hlen.out).mono ?_
    rintro e wf ⟨rfl, qf, hqf⟩
    have hdf : Below we.heap.size we wf := by rw [hqf]; exact bl_drewN (Below.refl _ _) _
    have HOf := hid (HOe.out.below hdf)
    have hbwf := bl_then hbwe hdf
    clear HOe hbwe hdf hqf hse HGe
    go_wp2_with fail
    refine (heldIntS_any (n := L.length) 1 wf (by have := HOf.out.sees; rw [marks_len] at this; exact this) hlen.out (by omega) (by omega)).mono ?_
    rintro e wg ⟨rfl, hwg⟩
    subst hwg
    go_wp2_with fail
    go_ret
    exact ⟨rfl, hbwf⟩
end Go.Proofs.Ytldheoomlagapaa.fnExactFibersBetween
