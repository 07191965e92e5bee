/- FnCuts: the law returns true at every input; memory that was there reads as it did. Conditions: none. -/
import Derived.Test.YtfepilpllfiegaaZ5e24e4278980
import Derived.Test.YtfepilpllfiegaaZe82dcdd4b7b2
import Derived.Test.YtfepilpllfiegaaZ0bc57a82efa3
import Derived.Test.YtfepilpllfiegaaZ82575eca8860
import Derived.Test.YtfepilpllfiegaaZ4da14b5b2d83
import Derived.Test.YtfepilpllfiegaaRows
import Derived.Test.YtfepilpllfiegaaZ17f740c013a7
/- FnCuts, walked. Conditions: none. By wfcuts.py. -/
namespace Go.Proofs.Ytfepilpllfiegaa
open Go.RowKit
theorem mcL_none {xs : List ByteArray} {fs : List Fib} {f t : Int} (h : mcB xs fs f t = false) : mcL xs fs f t = [] := by unfold mcL; rw [h]; rfl
set_option maxHeartbeats 4000000 in
set_option maxRecDepth 100000 in
theorem walkFnCuts (w : World) {A : Option Addr} {n c : Nat} {bs : List Int} (hA : BytesArg w A n c bs) : Calls Try.prog 5 #[.slice A n c] w fun e w' => e = .returned (.bool true) ∧ Below w.heap.size w w' := by
  obtain ⟨hcc, hcm, hS, hx⟩ := hA
  unfold maxLen at hcm
  by_cases hn : n ≤ 65536
  · have HS := hid hS
    have HX := hid hx
    clear hS hx
    go_enter Try.func5, Try.ntmps5
    go_wp2_with fail
    go_in
    go_wp2_with fail
    refine (drawMinimumCut_any _ HS.out HX.out (by omega)).mono ?_
    rintro e w1 ⟨B, p, cb, E, m, d, xs, fs, f, t, rfl, hD⟩
    have HN := hid hD.net
    have HB1 := hid hD.bl
    have hp := hD.hp
    have hm := hD.hm
    have HXL := hid hD.xl
    have HFL := hid hD.fl
    have H1 := hid ((Led.nil w1).blk_ w1.heap.size rfl 27 #[.slice B p cb, .slice E m d])
    clear hD HS HX
    go_wp2_with fail
    have HP1 := hid (fun w' h => implMinimumCut f t w' (HN.out.grow h))
    have HP2 := hid (fun w' h => specMinimumCut f t w' (HN.out.grow h))
    have HP3 := hid (fun w' h => implDisjointCount f t w' (HN.out.grow h))
    have HP4 := hid (fun w' h => implGroupCut f t w' (HN.out.grow h))
    have HP5 := hid (fun w' h => specRiskGroups w' (HN.out.grow h))
    have HML := hid (Nat.le_trans (mcL_len (xs := xs) (fs := fs) (f := f) (t := t)) (by decide : _ ≤ 1048576))
    have HMN := hid (mcL_none (xs := xs) (fs := fs) (f := f) (t := t))
    have HMP := hid (mc_parts (xs := xs) (fs := fs) (f := f) (t := t))
    obtain ⟨L, hL⟩ : ∃ L, L = mcL xs fs f t := ⟨_, rfl⟩
    obtain ⟨ok, hok⟩ : ∃ ok, ok = mcB xs fs f t := ⟨_, rfl⟩
    rw [← hL, ← hok] at HP1 HP2 HP3
    rw [← hok] at HP4 HMP HMN
    rw [← hL] at HML HMN
    have HL := hid hL
    have HOK := hid hok
    clear hL hok
    refine (HP1.out _ H1.out.bl).mono ?_
    rintro e w2 ⟨v, rfl, ho, hb⟩
    have H2 := hid (H1.out.owns_ (b0 := w1.heap.size) hb ho (Nat.le_refl _) H1.out.bl.size)
    obtain ⟨VC, cC, rfl, hcC⟩ := H2.out.form 0 rfl
    clear ho hb H1
    have q0 := H2.out.cell 1 0 rfl rfl
    have q1 := H2.out.cell 1 1 rfl rfl
    go_wp2_with fail
    refine (HP2.out _ H2.out.bl).mono ?_
    rintro e w3 ⟨v, rfl, ho, hb⟩
    have H3 := hid (H2.out.owns_ (b0 := w1.heap.size) hb ho (Nat.le_refl _) H2.out.bl.size)
    obtain ⟨VW, cW, rfl, _⟩ := H3.out.form 0 rfl
    clear ho hb H2 q0 q1
    have q0 := H3.out.cell 2 0 rfl rfl
    have q1 := H3.out.cell 2 1 rfl rfl
    go_wp2_with fail
    refine (HP3.out _ H3.out.bl).mono ?_
    rintro e w4 ⟨rfl, hb⟩
    have H4 := hid (H3.out.step hb)
    clear hb H3 q0 q1 HP1 HP2 HP3
    have nL : ((L.length : Int) != (L.length : Int)) = false := by simp
    have HVI := hid (vInts_same (c := cC) (c' := cW) _ (H4.out.seesI 1 rfl) (H4.out.seesI 0 rfl) HML.out)
    cases ok
    · go_wp2_with fail
      refine HVI.out.mono ?_
      rintro e w5 ⟨rfl, hb⟩
      have H5 := hid (H4.out.step hb)
      clear hb H4 HVI
      go_wp2_with fail
      go_ret
      exact ⟨rfl, bl_then HB1.out H5.out.bl⟩
    · obtain ⟨s, to, rfl, rfl, hg, hs, hto, hne⟩ := HMP.out rfl
      go_wp2_with fail
      refine HVI.out.mono ?_
      rintro e w5 ⟨rfl, hb⟩
      have H5 := hid ((H4.out.step hb).drop 1)
      clear hb H4 HVI
      have hLc : L = cutL fs xs.length s to := by rw [HL.out]; unfold mcL; rw [← HOK.out, if_pos rfl]; rfl
      have hco := cut_co hg hs hto hne
      have HSU := hid (fun i hi => cut_sub (fs := fs) hg hs hto hne (i := i) hi)
      rw [← hLc] at hco HSU
      have hsp : s < p := by rw [← HXL.out]; exact hs
      have htp : to < p := by rw [← HXL.out]; exact hto
      have q0 := H5.out.cell 1 0 rfl rfl
      have q1 := H5.out.cell 1 1 rfl rfl
      have HRA := hid (rApart_any (c2 := cC) s to _ (HN.out.grow H5.out.bl) (H5.out.seesI 0 rfl) HML.out hco.1 hsp htp)
      have hco2 := hco.2
      rw [HXL.out] at hco2
      rw [hco2] at HRA
      have HG := hid hg
      have HSL := hid hs
      have HTL := hid hto
      have HNE := hid hne
      clear hg hs hto hne hLc hco hco2
      go_wp2_with fail
      refine HRA.out.mono ?_
      rintro e w6 ⟨rfl, hb⟩
      have H6 := hid (H5.out.step hb)
      clear hb H5 HRA q0 q1
      go_wp2_with fail
      go_loopw [12] (fun i wr => ∃ k : Nat, k ≤ L.length ∧ i = .int .i64 k ∧ Hid (Led w1 wr [tOwns elInt w1.heap.size 3 (.slice VC L.length cC) L, tBlk w1.heap.size 27 #[.slice B p cb, .slice E m d]])) (fun i _ => L.length - (intOf i).toNat)
      case atStart => exact ⟨0, Nat.zero_le _, rfl, H6⟩
      case round =>
        clear H6
        obtain ⟨k, hk, rfl, HS⟩ := hrel
        have hLb := HML.out
        have q0 := HS.out.cell 1 0 rfl rfl
        have q1 := HS.out.cell 1 1 rfl rfl
        by_cases hlt : k < L.length
        · have iz : (k : Int) < (L.length : Int) := by omega
          obtain ⟨hco, hno⟩ := HSU.out k hlt
          have HCO := hid hco
          have HNO := hid hno
          have HKL := hid hlt
          clear hco hno
          go_wp2_with fail
          refine wp_region_held_drew (S := fun w' => w'.cell? ⟨w1.heap.size, 0, none⟩ = some (.slice B p cb) ∧ w'.cell? ⟨w1.heap.size, 1, none⟩ = some (.slice E m d)) (by kernel_rfl) (⟨q0, q1⟩) (fun hHeld => ?_)
          refine wpAnyH_take (i := 0) (oi := _) (v := ?_) rfl (by kernel_rfl) (by kernel_rfl) (by kernel_rfl) (fun _ _ _ h => h) (Or.inl ⟨by rfl, ?_⟩) (by assumption) ?_
          rotate_left
          · intro w hSw; go_simp; with_reducible rfl
          simp only [Act.put, List.getElem_toArray, List.getElem_cons_zero, List.setIfInBounds_toArray, List.set_cons_zero, List.set_cons_succ]
          refine wpAnyH_take (i := 1) (oi := _) (v := ?_) rfl (by kernel_rfl) (by kernel_rfl) (by kernel_rfl) (fun _ _ _ h => h) (Or.inl ⟨by rfl, ?_⟩) (by assumption) ?_
          rotate_left
          · intro w hSw; go_simp; with_reducible rfl
          simp only [Act.put, List.getElem_toArray, List.getElem_cons_zero, List.getElem_cons_succ, List.setIfInBounds_toArray, List.set_cons_zero, List.set_cons_succ]
          refine wpAnyH_take (i := 2) (oi := _) (v := ?_) rfl (by kernel_rfl) (by kernel_rfl) (by kernel_rfl) (fun _ _ _ h => h) (Or.inl ⟨by rfl, ?_⟩) (by assumption) ?_
          rotate_left
          · intro w hSw; go_simp; with_reducible rfl
          simp only [Act.put, List.getElem_toArray, List.getElem_cons_zero, List.getElem_cons_succ, List.setIfInBounds_toArray, List.set_cons_zero, List.set_cons_succ]
          refine wpAnyH_take (i := 4) (oi := _) (v := ?_) rfl (by kernel_rfl) (by kernel_rfl) (by kernel_rfl) (fun _ _ _ h => h) (Or.inl ⟨by rfl, ?_⟩) (by assumption) ?_
          rotate_left
          · intro w hSw; go_simp; with_reducible rfl
          simp only [Act.put, List.getElem_toArray, List.getElem_cons_zero, List.getElem_cons_succ, List.setIfInBounds_toArray, List.set_cons_zero, List.set_cons_succ]
          refine wpAnyH_take (i := 5) (oi := _) (v := ?_) rfl (by kernel_rfl) (by kernel_rfl) (by kernel_rfl) (fun _ _ _ h => h) (Or.inl ⟨by rfl, ?_⟩) (by assumption) ?_
          rotate_left
          · intro w hSw; go_simp; with_reducible rfl
          simp only [Act.put, List.getElem_toArray, List.getElem_cons_zero, List.getElem_cons_succ, List.setIfInBounds_toArray, List.set_cons_zero, List.set_cons_succ]
          refine wpAnyH_ready (rs := [3]) (by kernel_rfl) (by simp) ?_
          refine AllReadyH.cons rfl (fun K hK => ?_) AllReadyH.nil
          have hd := HS.out.step (Cls.drew _)
          go_simp
          refine (rWithout_any _ (hd.seesI 0 rfl) hcC HML.out HKL.out).mono ?_
          rintro e w7 ⟨A7, c7, rfl, ho, hb⟩
          have h7 := hd.owns_ (b0 := w1.heap.size) hb ho (Nat.le_refl _) hd.bl.size
          have hl7 : (L.take k ++ L.drop (k + 1)).length = L.length - 1 := by rw [List.length_append, List.length_take, List.length_drop]; have := HKL.out; omega
          obtain ⟨l7, hl⟩ : ∃ l7, l7 = L.take k ++ L.drop (k + 1) := ⟨_, rfl⟩
          rw [← hl] at hl7 HCO HNO h7
          rw [← hl7] at h7 ⊢
          have HL7 := hid hl7
          clear ho hd hl hl7
          go_wp2_with fail
          refine hK.out _ _ (⟨h7.cell 2 0 rfl rfl, h7.cell 2 1 rfl rfl⟩) (fun hHeld => ?_)
          clear hK K
          try simp only [Act.put, List.getElem_toArray, List.getElem_cons_zero, List.getElem_cons_succ, List.setIfInBounds_toArray, List.set_cons_zero, List.set_cons_succ]
          refine wpAnyH_ready (rs := [6]) (by kernel_rfl) (by simp) ?_
          refine AllReadyH.cons rfl (fun K hK => ?_) AllReadyH.nil
          have HRB := hid (rApart_any (c2 := c7) s to _ (HN.out.grow h7.bl) (h7.seesI 0 rfl) (by have := HML.out; have := HL7.out; omega) HCO.out hsp htp)
          rw [HXL.out] at HNO
          rw [HNO.out] at HRB
          go_simp
          refine HRB.out.mono ?_
          rintro e w8 ⟨rfl, hb8⟩
          have h8 := h7.step hb8
          go_wp2_with fail
          refine hK.out _ _ (⟨h8.cell 2 0 rfl rfl, h8.cell 2 1 rfl rfl⟩) (fun hHeld => ?_)
          clear hK K
          try simp only [Act.put, List.getElem_toArray, List.getElem_cons_zero, List.getElem_cons_succ, List.setIfInBounds_toArray, List.set_cons_zero, List.set_cons_succ]
          refine wpAnyH_done (by kernel_rfl) ?_ _
          have H8 := hid (h8.drop 1)
          clear h8 h7 hb hb8 hHeld q0 q1 HS HRB
          go_wp2
          go_roundw
          case rel => exact ⟨k + 1, hlt, by go_num, H8⟩
          case measure => simp [intOf]; omega
        · have iz : ¬ ((k : Int) < (L.length : Int)) := by omega
          go_wp2_with fail
          have hGe : gcL xs fs (s : Int) (to : Int) = gcS fs xs.length s to := by unfold gcL; rw [← HOK.out, if_pos rfl]; rfl
          have hga := gc_asc (fs := fs) HG.out HSL.out HTL.out HNE.out
          have hgf := gc_few (fs := fs) HG.out HSL.out HTL.out HNE.out
          have hgc := gon_co (fs := fs) HG.out HSL.out HTL.out HNE.out
          have hLc : L = cutL fs xs.length s to := by rw [HL.out]; unfold mcL; rw [← HOK.out, if_pos rfl]; rfl
          rw [← hLc] at hgf
          obtain ⟨G, hG⟩ : ∃ G, G = gcS fs xs.length s to := ⟨_, rfl⟩
          rw [← hG] at hGe hga hgf hgc
          rw [hGe] at HP4
          have HGA := hid hga
          have HGC := hid hgc
          have HGF := hid hgf
          have HRG : Hid (rgL xs fs = groupsL fs) := by unfold Hid rgL; rw [HG.out]; rfl
          rw [HG.out, HRG.out] at HP5
          clear hGe hga hgc hLc hG hgf HMP HMN HSU hk hlt iz
          refine (HP4.out _ HS.out.bl).mono ?_
          rintro e w7 ⟨v, rfl, ho, hb⟩
          have H7 := hid (HS.out.owns_ (b0 := w1.heap.size) hb ho (Nat.le_refl _) HS.out.bl.size)
          obtain ⟨VG, cG, rfl, _⟩ := H7.out.form 0 rfl
          clear ho hb HS q0 q1
          have q0 := H7.out.cell 2 0 rfl rfl
          have q1 := H7.out.cell 2 1 rfl rfl
          go_wp2_with fail
          refine (HP5.out _ H7.out.bl).mono ?_
          rintro e w8 ⟨sA, ss, rfl, ho, hb⟩
          obtain ⟨RA, cR, hv, _, _, _⟩ := ho.1.form
          have hsl : ss.length = (groupsL fs).length := ho.2.1
          rw [hsl] at hv
          rw [hv] at ho ⊢
          have H8 := hid (((H7.out.ss hb ho).empty elInt 3 w8.heap.size rfl w1.heap.size (by have := H7.out.bl.size; have := hb.size; omega)))
          obtain ⟨gl, hgl⟩ : ∃ gl, gl = (groupsL fs).length := ⟨_, rfl⟩
          rw [← hgl] at H8 HGA ⊢
          have HSL2 : Hid (ss.length = gl) := by unfold Hid; rw [hgl]; exact hsl
          have HGL := hid hgl
          obtain ⟨b7, hb7⟩ : ∃ b7, b7 = w7.heap.size := ⟨_, rfl⟩
          rw [← hb7] at H8
          clear hsl hv ho hb H7 q0 q1 hgl hb7
          go_wp2_with fail
          go_loopw [17, 18] (fun v i wr => ∃ k : Nat, k ≤ m ∧ i = .int .i64 k ∧ Hid (Led w1 wr [tOwns elInt w1.heap.size 3 v (gonJ fs G k 0), tSS b7 (.slice RA gl cR) ss (groupsL fs), tOwns elInt w1.heap.size 3 (.slice VG G.length cG) G, tOwns elInt w1.heap.size 3 (.slice VC L.length cC) L, tBlk w1.heap.size 27 #[.slice B p cb, .slice E m d]])) (fun _ i _ => m - (intOf i).toNat)
          case atStart => exact ⟨0, Nat.zero_le _, rfl, H8⟩
          case round =>
            clear H8
            obtain ⟨k, hk, rfl, HS⟩ := hrel
            obtain ⟨V17, c17, rfl, _⟩ := HS.out.form 0 rfl
            have q0 := HS.out.cell 4 0 rfl rfl
            have q1 := HS.out.cell 4 1 rfl rfl
            by_cases hlt : k < m
            · have iz : (k : Int) < (m : Int) := by omega
              have hG8 : G.length ≤ 1048576 := by have := HGF.out; have := HML.out; omega
              go_wp2_with fail
              go_loopw [17, 19] (fun v j wr => ∃ q : Nat, q ≤ G.length ∧ j = .int .i64 q ∧ Hid (Led w1 wr [tOwns elInt w1.heap.size 3 v (gonJ fs G k q), tSS b7 (.slice RA gl cR) ss (groupsL fs), tOwns elInt w1.heap.size 3 (.slice VG G.length cG) G, tOwns elInt w1.heap.size 3 (.slice VC L.length cC) L, tBlk w1.heap.size 27 #[.slice B p cb, .slice E m d]])) (fun _ j _ => G.length - (intOf j).toNat)
              case atStart => exact ⟨0, Nat.zero_le _, rfl, HS⟩
              case round =>
                clear HS q0 q1
                obtain ⟨q, hq, rfl, HS⟩ := hrel
                obtain ⟨V18, c18, rfl, _⟩ := HS.out.form 0 rfl
                by_cases hql : q < G.length
                · have iq : (q : Int) < (G.length : Int) := by omega
                  have hxb := HGA.out.2.1 _ (List.mem_of_getElem? (valL_get hql))
                  obtain ⟨g1, c1, hv⟩ := HS.out.row_ 2 rfl rfl (by omega)
                  injection hv with hv1 _ hv3
                  subst hv1; subst hv3
                  have va := HS.out.int_at 2 rfl (j := q) hql
                  have HROW : Hid (rowJ fs G q = (groupsL fs).getD (valL G q).toNat []) := rfl
                  obtain ⟨x, hx⟩ : ∃ x, valL G q = x := ⟨_, rfl⟩
                  rw [hx] at va hxb HROW
                  obtain ⟨y, rfl⟩ : ∃ y : Nat, x = (y : Int) := ⟨x.toNat, by omega⟩
                  rw [Int.toNat_natCast] at HROW
                  have hyl : y < gl := by omega
                  have i1 : ¬ ((y : Int) < 0) := by omega
                  have i2 : ¬ ((y : Int) ≥ (gl : Int)) := by omega
                  have i3 : (y : Int) < (gl : Int) := by omega
                  have hss : OwnsSS wr b7 (.slice RA gl cR) ss (groupsL fs) := HS.out.get 1 rfl
                  obtain ⟨s0, hs0⟩ := get_of (k := y) HSL2.out hyl
                  obtain ⟨r0, hr0⟩ : ∃ r0, (groupsL fs)[y]? = some r0 := ⟨(groupsL fs)[y]'(by rw [← HGL.out]; exact hyl), List.getElem?_eq_getElem _⟩
                  have hsee := OwnsSS.sees hss
                  obtain ⟨e1, hrow⟩ := hsee.2.2 y s0 r0 hs0 hr0
                  obtain ⟨b2, o2, rfl, _, hcc2⟩ := hsee.1.at_ (k := y) (by rw [HSL2.out]; exact hyl)
                  have cy := hcc2 y s0 hs0 0 _ rfl
                  simp only [elSl, Nat.mul_one, Nat.add_zero, slV] at cy
                  have hrowJ : rowJ fs G q = r0 := by rw [HROW.out]; exact getD_of hr0
                  have HVH := hid (vHas_any (c := s0.c) (k : Int) _ hrow (by rw [e1]; obtain ⟨_, _, _, h1, h2, _⟩ := (hss.2.2.1 _ _ _ hs0 hr0).form; exact Nat.le_trans h1 h2))
                  rw [← hrowJ] at HVH
                  have HHIT := hid (fun h => gon_hit (i := k) HGA.out.1 (fun x hx => by have := HGA.out.2.1 x hx; rw [HGL.out] at this; exact this) hql h)
                  have HMISS := hid (fun h => gon_miss (fs := fs) (G := G) (i := k) (j := q) h)
                  have hgl2 := gon_len (fs := fs) (G := G) k q
                  obtain ⟨g0, hg0⟩ : ∃ g0, g0 = gonJ fs G k q := ⟨_, rfl⟩
                  rw [← hg0] at HHIT HMISS HS hgl2 ⊢
                  obtain ⟨hb, hhb⟩ : ∃ hb, hb = hasB (rowJ fs G q) (k : Int) := ⟨_, rfl⟩
                  rw [← hhb] at HVH HHIT HMISS
                  obtain ⟨sA0, sN0, sC0⟩ := s0
                  simp only at cy HVH e1
                  clear hss hsee hrow hcc2 hs0 hr0 hrowJ HROW hx hhb hg0 e1 hxb
                  go_wp2_with fail
                  refine HVH.out.mono ?_
                  rintro e w9 ⟨rfl, rfl⟩
                  cases hb
                  · have HM := hid (HMISS.out rfl)
                    clear HMISS HHIT
                    go_wp2
                    go_roundw
                    case rel => exact ⟨q + 1, by omega, by go_num, by rw [HM.out]; exact HS⟩
                    case measure => simp [intOf]; omega
                  · have HM := hid (HHIT.out rfl)
                    clear HMISS HHIT
                    obtain ⟨i0, hi, hz0, hz1, hz2⟩ := info_parts int_info
                    have H9 := hid (HS.out.blk_ wr.heap.size rfl 3 #[.int .i64 (k : Int)])
                    go_wp2_with (first
                      | (at_builtin; refine wpList_append_led rfl _ _ 33 rfl H9.out 1 rfl Try.underlying33 hi hz0 hz1 (by rw [hz2]; decide) rfl rfl rfl (show Sees elInt _ _ _ 1 [(k : Int)] from sees_new elInt _ _ _ _ rfl) (by omega) H9.out.bl.size ?_)
                      | go_in)
                    intro A9 c9 w10 h10
                    have H10 := hid (h10.drop 1)
                    clear h10 H9 cy va
                    go_wp2
                    go_roundw
                    case rel => first
                      | exact ⟨q + 1, by omega, by go_num, by rw [HM.out]; exact H10⟩
                      | ((repeat apply Exists.intro); exact ⟨⟨q + 1, by omega, by go_num, by rw [HM.out]; exact H10⟩, rfl⟩)
                    case measure => simp [intOf]; omega
                · have iq : ¬ ((q : Int) < (G.length : Int)) := by omega
                  have hqe : q = G.length := by omega
                  have HS1 : Hid (Led w1 wr [tOwns elInt w1.heap.size 3 (.slice V18 (gonJ fs G k q).length c18) (gonJ fs G (k + 1) 0), tSS b7 (.slice RA gl cR) ss (groupsL fs), tOwns elInt w1.heap.size 3 (.slice VG G.length cG) G, tOwns elInt w1.heap.size 3 (.slice VC L.length cC) L, tBlk w1.heap.size 27 #[.slice B p cb, .slice E m d]]) := by
                    have e : gonJ fs G (k + 1) 0 = gonJ fs G k q := by rw [← gon_end, ← hqe]
                    rw [e]
                    exact HS
                  clear HS hqe
                  go_wp2
                  go_roundw
                  case rel => first
                    | exact ⟨k + 1, by omega, by go_num, HS1⟩
                    | ((repeat apply Exists.intro); exact ⟨⟨k + 1, by omega, by go_num, HS1⟩, rfl⟩)
                  case measure => simp [intOf]; omega
            · have iz : ¬ ((k : Int) < (m : Int)) := by omega
              obtain rfl : k = m := by omega
              have hgc := HGC.out
              rw [HFL.out] at hgc
              have hgl2 := gon_len (fs := fs) (G := G) k 0
              obtain ⟨g0, hg0⟩ : ∃ g0, g0 = gonJ fs G k 0 := ⟨_, rfl⟩
              rw [← hg0] at hgc HS hgl2 ⊢
              have HRA := hid (rApart_any (c2 := c17) s to _ (HN.out.grow HS.out.bl) (HS.out.seesI 0 rfl) (by omega) hgc.1 hsp htp)
              have hgc2 := hgc.2
              rw [HXL.out] at hgc2
              rw [hgc2] at HRA
              have hle : (G.length : Int) ≤ (L.length : Int) := by have := HGF.out; omega
              clear hgc hgc2 hg0
              go_wp2_with fail
              refine HRA.out.mono ?_
              rintro e w9 ⟨rfl, hb⟩
              have H9 := hid (HS.out.step hb)
              clear hb HS HRA q0 q1
              go_wp2
              go_ret
              exact ⟨rfl, bl_then HB1.out H9.out.bl⟩
  · clear hS hx
    go_enter Try.func5, Try.ntmps5
    go_wp2_with go_in
    go_ret
    exact ⟨rfl, Below.refl _ _⟩
end Go.Proofs.Ytfepilpllfiegaa
/- FnCuts: the law returns true at every input; memory that was there reads as it did. Conditions: none. -/
namespace Go.Proofs.Ytfepilpllfiegaa.fnCuts
open Go.ChangeShapes Go.WideShapes Go.ChangeAt Go.RowKit Go.Deep
open Go.ChangeMaps (open_string shut_string)
open Go.RowKit
theorem own : ownKnob Try.prog.godebug = none := by kernel_rfl
theorem laidOut : laidOutB Try.prog = true := by kernel_rfl
theorem reads : Try.f5.params.toList.all (fun t => Try.prog.readableRec t && decide (t < Try.prog.types.size)) = true := by kernel_rfl
theorem plain {H : Type} (ds : List (DataW H)) (h : ds.length = Try.f5.params.toList.length) : (Rows.fnCutsSpec.fn H ds).results = [.lit (.bool true)] ∧ (Rows.fnCutsSpec.fn H ds).args = ds ∧ (Rows.fnCutsSpec.fn H ds).vars = [] := by
  rw [Try.params5] at h
  match ds, h with
  | [d0], _ => exact ⟨rfl, rfl, rfl⟩
set_option maxRecDepth 100000 in
theorem lifted (os : Os) (started : os.Started) (H : Type) (enc : TypeId × Value → H) :
    ReturnsInHanded {} Try.checked os 5 .any (Rows.fnCutsSpec.pre6 enc Try.prog Try.f5 Rows.fnCutsRow.domain false) (Rows.fnCutsSpec.post enc Try.prog Try.f5 false true false false) := by
  refine returnsInHanded_of_change (C := Try.checked) own started (by kernel_rfl) Try.func5
    (ChangeSpec.witness6 (enc := enc) (C := Try.checked) false ⟨#[], #[.slice none 0 0], []⟩ 8 (by kernel_rfl) (by kernel_rfl) (by kernel_rfl) (by kernel_rfl)) ?_
  intro W base args ds gs before hval0 hW _ _
  have hval : ∀ (j : Nat) t v, Try.f5.params[j]? = some t → args[j]? = some v → Value.okWide Try.prog W .any base t v := hval0
  refine law_contract (P := Try.prog) laidOut reads rfl Try.underlying4 rfl plain W args ds gs before hW (fun p hA => ?_)
  clear hval0 hW
  rw [Try.params5] at hA hval
  obtain ⟨v0, vs0, d0, ds0, p0, q0, hargs, rfl, rfl, h0, r0⟩ := trodAll_cons hA
  obtain ⟨rfl, rfl, rfl⟩ := trodAll_nil r0
  obtain rfl : args = #[v0] := by cases args; simp_all
  obtain ⟨A0, n0, c0, x0, rfl, w0⟩ := open_bytes (hval 0 22 v0 rfl rfl) h0
  exact walkFnCuts W w0
theorem proved : Rows.FnCutsSaid :=
  OpenClaim.holds_of_wide 5 Try.f5 rfl rfl rfl rfl rfl rfl rfl ⟨rfl, rfl, rfl, rfl, rfl⟩ rfl rfl rfl rfl rfl (by kernel_rfl) Try.func5 (by kernel_rfl)
    (of_decide_eq_true (by kernel_rfl)) (by unfold Func.isWrapper; first | (rw [if_pos (by decide +kernel)]; kernel_rfl) | (rw [if_neg (by decide +kernel)]; exact ⟨rfl, rfl⟩))
    (fun os started H enc _ => lifted os started H enc)
#print axioms proved
end Go.Proofs.Ytfepilpllfiegaa.fnCuts
