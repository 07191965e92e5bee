/- FnSides: the law returns true at every input; memory that was there reads as it did. Conditions: none. -/
import Derived.Test.YtfepilpllfiegaaZ5e24e4278980
import Derived.Test.YtfepilpllfiegaaZe82dcdd4b7b2
import Derived.Test.YtfepilpllfiegaaZ6214b52f434e
import Derived.Test.YtfepilpllfiegaaZ040390a462fa
import Derived.Test.YtfepilpllfiegaaRows
import Derived.Test.YtfepilpllfiegaaZ17f740c013a7
/- FnSides, walked. Conditions: none. By wfsides.py. -/
namespace Go.Proofs.Ytfepilpllfiegaa
open Go.RowKit
theorem fb_good {xs : List ByteArray} {fs : List Fib} {l : List Int} (h : fbB xs fs l = true) : goodB xs fs = true := by unfold fbB at h; rw [Bool.and_eq_true] at h; exact h.1
theorem fb_co {xs : List ByteArray} {fs : List Fib} {l : List Int} (h : fbB xs fs l = true) : coB xs fs (fbI xs fs l) = true ∧ (fbI xs fs l).length ≤ fs.length := by
  unfold fbI
  rw [h, if_pos rfl]
  exact ⟨co_of_asc (fb_good h) (ids_asc _ _) idsTo_range, idsTo_len _ _⟩
theorem fb_none {xs : List ByteArray} {fs : List Fib} {l : List Int} : (fbI xs fs l).length ≤ fs.length := by
  unfold fbI
  split
  · exact idsTo_len _ _
  · exact Nat.zero_le _
theorem co_nil {xs : List ByteArray} {fs : List Fib} (h : goodB xs fs = true) : coB xs fs [] = true := co_of_asc h List.Pairwise.nil (fun x hx => by cases hx)
set_option maxHeartbeats 1000000 in
set_option maxRecDepth 100000 in
theorem walkFnSides (w : World) {A : Option Addr} {n c : Nat} {bs : List Int} (hA : BytesArg w A n c bs) : Calls Try.prog 4 #[.slice A n c] w fun e w' => e = .returned (.bool true) ∧ Below w.heap.size w w' := by
  obtain ⟨hcc, hcm, hS, hx⟩ := hA
  unfold maxLen at hcm
  by_cases hn : n ≤ 65536
  · have HS := hid hS
    have HX := hid hx
    clear hS hx
    go_enter Try.func4, Try.ntmps4
    go_wp2_with fail
    go_in
    go_wp2_with fail
    refine (drawFibersBetween_any _ HS.out HX.out (by omega)).mono ?_
    rintro e w1 ⟨B, p, cb, E, m, d, xs, fs, V, cV, l, rfl, hD, hV, hVc, hV30⟩
    have HN := hid hD.net
    have HB1 := hid hD.bl
    have HV := hid hV
    have HV30 := hid hV30
    have hp := hD.hp
    have hm := hD.hm
    have HXL := hid hD.xl
    have HFL := hid hD.fl
    have H1 := hid ((Led.nil w1).blk_ w1.heap.size rfl 27 #[.slice B p cb, .slice E m d])
    clear hD HS HX hV hVc hV30
    have HP1 := hid (fun w' h => implFibersBetween (c' := cV) w' (HN.out.grow h) (HV.out.grow h) (by have := HV30.out; omega))
    have HP2 := hid (fun w' h => specFibersBetween (c' := cV) w' (HN.out.grow h) (HV.out.grow h) (by have := HV30.out; omega))
    have HLE := hid (fb_none (xs := xs) (fs := fs) (l := l))
    obtain ⟨L, hL⟩ : ∃ L, L = fbI xs fs l := ⟨_, rfl⟩
    obtain ⟨ok, hok⟩ : ∃ ok, ok = fbB xs fs l := ⟨_, rfl⟩
    rw [← hL, ← hok] at HP1 HP2
    rw [← hL] at HLE
    have HL := hid hL
    have HOK := hid hok
    clear hL hok
    go_wp2_with fail
    refine (HP1.out _ H1.out.bl).mono ?_
    rintro e w2 ⟨v, rfl, ho, hb⟩
    have H2 := hid (H1.out.owns_ (b0 := w1.heap.size) hb ho (Nat.le_refl _) H1.out.bl.size)
    obtain ⟨VC, cC, rfl, hcC⟩ := H2.out.form 0 rfl
    clear ho hb H1
    have q0 := H2.out.cell 1 0 rfl rfl
    have q1 := H2.out.cell 1 1 rfl rfl
    go_wp2_with fail
    refine (HP2.out _ H2.out.bl).mono ?_
    rintro e w3 ⟨v, rfl, ho, hb⟩
    have H3 := hid (H2.out.owns_ (b0 := w1.heap.size) hb ho (Nat.le_refl _) H2.out.bl.size)
    obtain ⟨VW, cW, rfl, _⟩ := H3.out.form 0 rfl
    clear ho hb H2 q0 q1 HP1 HP2
    have HLM : Hid (L.length ≤ 1048576) := by unfold Hid; have := HLE.out; have := HFL.out; omega
    have HVI := hid (fun w' h => vInts_same (c := cC) (c' := cW) w' ((H3.out.seesI 1 rfl).grow h) ((H3.out.seesI 0 rfl).grow h) HLM.out)
    cases ok
    · go_wp2_with fail
      refine (HVI.out _ (Below.refl _ _)).mono ?_
      rintro e w5 ⟨rfl, hb⟩
      have HB5 := hid hb
      clear hb
      go_wp2_with fail
      refine (HVI.out _ HB5.out).mono ?_
      rintro e w6 ⟨rfl, hb⟩
      have H6 := hid ((H3.out.step HB5.out).step hb)
      clear hb H3 HVI HB5
      go_wp2_with fail
      go_ret
      exact ⟨rfl, bl_then HB1.out H6.out.bl⟩
    · have hfb := HOK.out.symm
      have HG := hid (fb_good hfb)
      have HCO := hid (fb_co hfb).1
      have HBA := hid (fun a b ha hb h1 h2 => between_apart HG.out hfb (a := a) (b := b) ha hb h1 h2)
      rw [← HL.out] at HCO HBA
      rw [HXL.out] at HBA
      clear hfb
      go_wp2_with fail
      refine (HVI.out _ (Below.refl _ _)).mono ?_
      rintro e w5 ⟨rfl, hb⟩
      have H5 := hid ((H3.out.step hb).drop 1)
      clear hb H3 HVI
      go_wp2_with fail
      go_loopw [9] (fun i wr => ∃ k : Nat, k ≤ p ∧ i = .int .i64 k ∧ Hid (Led w1 wr [tOwns elInt w1.heap.size 3 (.slice VC L.length cC) L, tBlk w1.heap.size 27 #[.slice B p cb, .slice E m d]])) (fun i _ => p - (intOf i).toNat)
      case atStart => exact ⟨0, Nat.zero_le _, rfl, H5⟩
      case round =>
        clear H5
        obtain ⟨k, hk, rfl, HS⟩ := hrel
        have q0 := HS.out.cell 1 0 rfl rfl
        have q1 := HS.out.cell 1 1 rfl rfl
        by_cases hlt : k < p
        · have iz : (k : Int) < (p : Int) := by omega
          go_wp2_with fail
          go_loopw [10] (fun i wr => ∃ q : Nat, q ≤ p ∧ i = .int .i64 q ∧ Hid (Led w1 wr [tOwns elInt w1.heap.size 3 (.slice VC L.length cC) L, tBlk w1.heap.size 27 #[.slice B p cb, .slice E m d]])) (fun i _ => p - (intOf i).toNat)
          case atStart => exact ⟨0, Nat.zero_le _, rfl, HS⟩
          case round =>
            clear HS q0 q1
            obtain ⟨q, hq, rfl, HS⟩ := hrel
            have q0 := HS.out.cell 1 0 rfl rfl
            have q1 := HS.out.cell 1 1 rfl rfl
            by_cases hql : q < p
            · have iq : (q : Int) < (p : Int) := by omega
              have HH1 := hid (vHas_any (c := cV) (k : Int) _ ((HV.out.grow HS.out.bl).more HS.out.bl.size) (by have := HV30.out; unfold maxLen; omega))
              have HH2 := hid (vHas_any (c := cV) (q : Int) _ ((HV.out.grow HS.out.bl).more HS.out.bl.size) (by have := HV30.out; unfold maxLen; omega))
              have HRA := hid (rApart_any (c2 := cC) k q _ (HN.out.grow HS.out.bl) (HS.out.seesI 0 rfl) HLM.out HCO.out hlt hql)
              have HD := hid (fun h1 h2 => decide_eq_true (HBA.out k q hlt hql h1 h2))
              obtain ⟨h1, hh1⟩ : ∃ h1, h1 = hasB l (k : Int) := ⟨_, rfl⟩
              obtain ⟨h2, hh2⟩ : ∃ h2, h2 = hasB l (q : Int) := ⟨_, rfl⟩
              rw [← hh1] at HH1 HD
              rw [← hh2] at HH2 HD
              clear hh1 hh2
              go_wp2_with fail
              refine HH1.out.mono ?_
              rintro e w6 ⟨rfl, rfl⟩
              clear HH1
              cases h1
              · clear HD HRA HH2
                go_wp2
                go_roundw
                case rel => exact ⟨q + 1, by omega, by go_num, HS⟩
                case measure => simp [intOf]; omega
              · go_wp2_with fail
                refine HH2.out.mono ?_
                rintro e w7 ⟨rfl, rfl⟩
                clear HH2
                cases h2
                · have hd := (by first | exact HD.out rfl rfl | exact HD.out trivial rfl | exact HD.out trivial trivial | exact HD.out rfl : decide (valL (compL (goneF L) fs p) k ≠ valL (compL (goneF L) fs p) q) = true)
                  rw [hd] at HRA
                  clear hd HD
                  go_wp2_with fail
                  refine HRA.out.mono ?_
                  rintro e w8 ⟨rfl, hb⟩
                  have H8 := hid (HS.out.step hb)
                  clear hb HS HRA q0 q1
                  go_wp2
                  go_roundw
                  case rel => exact ⟨q + 1, by omega, by go_num, H8⟩
                  case measure => simp [intOf]; omega
                · clear HD HRA
                  go_wp2
                  go_roundw
                  case rel => exact ⟨q + 1, by omega, by go_num, HS⟩
                  case measure => simp [intOf]; omega
            · have iq : ¬ ((q : Int) < (p : Int)) := by omega
              go_wp2
              go_roundw
              case rel => exact ⟨k + 1, by omega, by go_num, HS⟩
              case measure => simp [intOf]; omega
        · have iz : ¬ ((k : Int) < (p : Int)) := by omega
          have HP3 := hid (fun w' h => implCutNodes w' (HN.out.grow h))
          have HP4 := hid (fun w' h => specCutNodes w' (HN.out.grow h))
          have HP5 := hid (fun w' (h : Below w1.heap.size w1 w') => implIsConnected (c' := 0) (V := none) (l := []) w' (HN.out.grow h) (Sees.nil elInt _ _ _) (by decide))
          have hCN : cnL xs fs = idsTo (cnF fs xs.length) xs.length := by unfold cnL; rw [HG.out]; rfl
          have HCR : Hid (∀ x ∈ cnL xs fs, 0 ≤ x ∧ x < (p : Int)) := by unfold Hid; rw [hCN, ← HXL.out]; exact idsTo_range
          have HCL : Hid ((cnL xs fs).length ≤ 1048576) := by unfold Hid; rw [hCN]; have := idsTo_len (cnF fs xs.length) xs.length; have := HXL.out; omega
          rw [HG.out] at HP3 HP4
          rw [co_nil HG.out] at HP5
          obtain ⟨NL, hNL⟩ : ∃ NL, NL = cnL xs fs := ⟨_, rfl⟩
          rw [← hNL] at HP3 HP4 HCR HCL
          obtain ⟨al, hal⟩ : ∃ al, al = icB xs fs [] := ⟨_, rfl⟩
          rw [← hal] at HP5
          clear hCN hNL hal HBA hlt hk
          go_wp2_with fail
          refine (HP3.out _ HS.out.bl).mono ?_
          rintro e w6 ⟨v, rfl, ho, hb⟩
          have H6 := hid ((HS.out.drop 1).owns_ (b0 := w1.heap.size) hb ho (Nat.le_refl _) HS.out.bl.size)
          obtain ⟨V6, c6, rfl, _⟩ := H6.out.form 0 rfl
          clear ho hb HS q0 q1
          have q0 := H6.out.cell 1 0 rfl rfl
          have q1 := H6.out.cell 1 1 rfl rfl
          go_wp2_with fail
          refine (HP4.out _ H6.out.bl).mono ?_
          rintro e w7 ⟨v, rfl, ho, hb⟩
          have H7 := hid (H6.out.owns_ (b0 := w1.heap.size) hb ho (Nat.le_refl _) H6.out.bl.size)
          obtain ⟨V7, c7, rfl, _⟩ := H7.out.form 0 rfl
          clear ho hb H6 q0 q1
          have q0 := H7.out.cell 2 0 rfl rfl
          have q1 := H7.out.cell 2 1 rfl rfl
          go_wp2_with fail
          refine (HP5.out _ H7.out.bl).mono ?_
          rintro e w8 ⟨rfl, hb⟩
          have H8 := hid (H7.out.step hb)
          clear hb H7 q0 q1 HP3 HP4 HP5
          go_wp2_with fail
          go_loopw [17] (fun i wr => ∃ k : Nat, k ≤ NL.length ∧ i = .int .i64 k ∧ Hid (Led w1 wr [tOwns elInt w1.heap.size 3 (.slice V7 NL.length c7) NL, tOwns elInt w1.heap.size 3 (.slice V6 NL.length c6) NL, tBlk w1.heap.size 27 #[.slice B p cb, .slice E m d]])) (fun i _ => NL.length - (intOf i).toNat)
          case atStart => exact ⟨0, Nat.zero_le _, rfl, H8⟩
          case round =>
            clear H8
            obtain ⟨k, hk, rfl, HS⟩ := hrel
            have hNLb := HCL.out
            have q0 := HS.out.cell 2 0 rfl rfl
            have q1 := HS.out.cell 2 1 rfl rfl
            by_cases hlt : k < NL.length
            · have iz : (k : Int) < (NL.length : Int) := by omega
              cases al
              · skip
                have HVI := hid (vInts_same (c := c6) (c' := c7) _ (HS.out.seesI 1 rfl) (HS.out.seesI 0 rfl) hNLb)
                go_wp2_with fail
                refine HVI.out.mono ?_
                rintro e w9 ⟨rfl, hb⟩
                have H9 := hid (HS.out.step hb)
                clear hb HS HVI q0 q1
                go_wp2_with fail
                go_ret
                exact ⟨rfl, bl_then HB1.out H9.out.bl⟩
              · skip
                obtain ⟨g1, c1, hv⟩ := HS.out.row_ 1 rfl rfl (by omega)
                injection hv with hv1 _ hv3
                subst hv1; subst hv3
                have va := HS.out.int_at 1 rfl (j := k) hlt
                have hvr := HCR.out _ (List.mem_of_getElem? (valL_get hlt))
                obtain ⟨x, hx⟩ : ∃ x, valL NL k = x := ⟨_, rfl⟩
                rw [hx] at va hvr
                clear hx
                obtain ⟨y, rfl⟩ : ∃ y : Nat, x = (y : Int) := ⟨x.toNat, by omega⟩
                have hac := at_cut (fs := fs) HG.out (v := y) (by rw [HXL.out]; omega)
                have HAC1 := hid hac.1
                have HAC2 := hid hac.2
                have HFA := hid (fun w' h => specFibersAt (y : Int) w' (HN.out.grow h))
                obtain ⟨FL, hFL⟩ : ∃ FL, FL = faI xs fs (y : Int) := ⟨_, rfl⟩
                have HFLl : Hid (FL.length ≤ 1048576) := by
                  unfold Hid
                  rw [hFL]
                  unfold faI
                  split
                  · have := idsTo_len (touchesF fs (y : Int)) fs.length
                    have := HFL.out
                    omega
                  · exact Nat.zero_le _
                rw [← hFL] at HAC1 HAC2 HFA
                clear hFL hac
                have HD0 := hid (HS.out.step (Cls.drew _))
                go_wp2_with fail
                refine wp_region_held_drew (S := fun w' => (w'.cell? ⟨w1.heap.size, 0, none⟩ = some (.slice B p cb) ∧ w'.cell? ⟨w1.heap.size, 1, none⟩ = some (.slice E m d)) ∧ w'.cell? ⟨g1, k, none⟩ = some (.int .i64 (y : Int))) (by kernel_rfl) (⟨⟨q0, q1⟩, va⟩) (fun hHeld => ?_)
                refine wpAnyH_take (i := 0) (oi := _) (v := ?_) rfl (by kernel_rfl) (by kernel_rfl) (by kernel_rfl) (fun _ _ _ h => h) (Or.inl ⟨by rfl, ?_⟩) (by assumption) ?_
                rotate_left
                · intro w hSw; go_simp; with_reducible rfl
                simp only [Act.put, List.getElem_toArray, List.getElem_cons_zero, List.setIfInBounds_toArray, List.set_cons_zero, List.set_cons_succ]
                refine wpAnyH_take (i := 1) (oi := _) (v := ?_) rfl (by kernel_rfl) (by kernel_rfl) (by kernel_rfl) (fun _ _ _ h => h) (Or.inl ⟨by rfl, ?_⟩) (by assumption) ?_
                rotate_left
                · intro w hSw; go_simp; with_reducible rfl
                simp only [Act.put, List.getElem_toArray, List.getElem_cons_zero, List.getElem_cons_succ, List.setIfInBounds_toArray, List.set_cons_zero, List.set_cons_succ]
                refine wpAnyH_take (i := 2) (oi := _) (v := ?_) rfl (by kernel_rfl) (by kernel_rfl) (by kernel_rfl) (fun _ _ _ h => h) (Or.inl ⟨by rfl, ?_⟩) (by assumption) ?_
                rotate_left
                · intro w hSw; go_simp; with_reducible rfl
                simp only [Act.put, List.getElem_toArray, List.getElem_cons_zero, List.getElem_cons_succ, List.setIfInBounds_toArray, List.set_cons_zero, List.set_cons_succ]
                refine wpAnyH_take (i := 3) (oi := _) (v := ?_) rfl (by kernel_rfl) (by kernel_rfl) (by kernel_rfl) (fun _ _ _ h => h) (Or.inl ⟨by rfl, ?_⟩) (by assumption) ?_
                rotate_left
                · intro w hSw; go_simp; with_reducible rfl
                simp only [Act.put, List.getElem_toArray, List.getElem_cons_zero, List.getElem_cons_succ, List.setIfInBounds_toArray, List.set_cons_zero, List.set_cons_succ]
                refine wpAnyH_take (i := 4) (oi := _) (v := ?_) rfl (by kernel_rfl) (by kernel_rfl) (by kernel_rfl) (fun _ _ _ h => h) (Or.inl ⟨by rfl, ?_⟩) (by assumption) ?_
                rotate_left
                · intro w hSw; go_simp; with_reducible rfl
                simp only [Act.put, List.getElem_toArray, List.getElem_cons_zero, List.getElem_cons_succ, List.setIfInBounds_toArray, List.set_cons_zero, List.set_cons_succ]
                refine wpAnyH_ready (rs := [5]) (by kernel_rfl) (by simp) ?_
                refine AllReadyH.cons rfl (fun K hK => ?_) AllReadyH.nil
                go_simp
                refine (HFA.out _ HD0.out.bl).mono ?_
                rintro e w9 ⟨v9, rfl, ho, hb⟩
                have h9 := HD0.out.owns_ (b0 := w1.heap.size) hb ho (Nat.le_refl _) HD0.out.bl.size
                obtain ⟨V9, c9, rfl, _⟩ := h9.form 0 rfl
                have va9 : w9.cell? ⟨g1, k, none⟩ = some (.int .i64 (y : Int)) := (show Cls wr w9 from bl_then (Cls.drew _) hb).cell va
                go_wp2_with fail
                refine hK.out _ _ (⟨⟨h9.cell 3 0 rfl rfl, h9.cell 3 1 rfl rfl⟩, va9⟩) (fun hHeld => ?_)
                clear hK K
                try simp only [Act.put, List.getElem_toArray, List.getElem_cons_zero, List.getElem_cons_succ, List.setIfInBounds_toArray, List.set_cons_zero, List.set_cons_succ]
                refine wpAnyH_take (i := 6) (oi := _) (v := ?_) rfl (by kernel_rfl) (by kernel_rfl) (by kernel_rfl) (fun _ _ _ h => h) (Or.inl ⟨by rfl, ?_⟩) (by assumption) ?_
                rotate_left
                · intro w hSw; go_simp; with_reducible rfl
                simp only [Act.put, List.getElem_toArray, List.getElem_cons_zero, List.getElem_cons_succ, List.setIfInBounds_toArray, List.set_cons_zero, List.set_cons_succ]
                refine wpAnyH_take (i := 7) (oi := _) (v := ?_) rfl (by kernel_rfl) (by kernel_rfl) (by kernel_rfl) (fun _ _ _ h => h) (Or.inl ⟨by rfl, ?_⟩) (by assumption) ?_
                rotate_left
                · intro w hSw; go_simp; with_reducible rfl
                simp only [Act.put, List.getElem_toArray, List.getElem_cons_zero, List.getElem_cons_succ, List.setIfInBounds_toArray, List.set_cons_zero, List.set_cons_succ]
                refine wpAnyH_take (i := 8) (oi := _) (v := ?_) rfl (by kernel_rfl) (by kernel_rfl) (by kernel_rfl) (fun _ _ _ h => h) (Or.inl ⟨by rfl, ?_⟩) (by assumption) ?_
                rotate_left
                · intro w hSw; go_simp; with_reducible rfl
                simp only [Act.put, List.getElem_toArray, List.getElem_cons_zero, List.getElem_cons_succ, List.setIfInBounds_toArray, List.set_cons_zero, List.set_cons_succ]
                refine wpAnyH_take (i := 9) (oi := _) (v := ?_) rfl (by kernel_rfl) (by kernel_rfl) (by kernel_rfl) (fun _ _ _ h => h) (Or.inl ⟨by rfl, ?_⟩) (by assumption) ?_
                rotate_left
                · intro w hSw; go_simp; with_reducible rfl
                simp only [Act.put, List.getElem_toArray, List.getElem_cons_zero, List.getElem_cons_succ, List.setIfInBounds_toArray, List.set_cons_zero, List.set_cons_succ]
                refine wpAnyH_take (i := 10) (oi := _) (v := ?_) rfl (by kernel_rfl) (by kernel_rfl) (by kernel_rfl) (fun _ _ _ h => h) (Or.inl ⟨by rfl, ?_⟩) (by assumption) ?_
                rotate_left
                · intro w hSw; go_simp; with_reducible rfl
                simp only [Act.put, List.getElem_toArray, List.getElem_cons_zero, List.getElem_cons_succ, List.setIfInBounds_toArray, List.set_cons_zero, List.set_cons_succ]
                refine wpAnyH_done (by kernel_rfl) ?_ _
                have H9 := hid h9
                have HIC := hid (implIsConnected (c' := c9) _ (HN.out.grow H9.out.bl) (H9.out.seesI 0 rfl) HFLl.out)
                rw [HAC1.out, HAC2.out] at HIC
                have q0 := H9.out.cell 3 0 rfl rfl
                have q1 := H9.out.cell 3 1 rfl rfl
                clear h9 ho hb va9 va hHeld HS HD0 HFA
                go_wp2_with fail
                refine HIC.out.mono ?_
                rintro e w10 ⟨rfl, hb⟩
                have H10 := hid ((H9.out.step hb).drop 1)
                clear hb H9 HIC q0 q1
                go_wp2
                go_roundw
                case rel => exact ⟨k + 1, by omega, by go_num, H10⟩
                case measure => simp [intOf]; omega
            · have iz : ¬ ((k : Int) < (NL.length : Int)) := by omega
              have HVI := hid (vInts_same (c := c6) (c' := c7) _ (HS.out.seesI 1 rfl) (HS.out.seesI 0 rfl) hNLb)
              go_wp2_with fail
              refine HVI.out.mono ?_
              rintro e w9 ⟨rfl, hb⟩
              have H9 := hid (HS.out.step hb)
              clear hb HS HVI q0 q1
              go_wp2_with fail
              go_ret
              exact ⟨rfl, bl_then HB1.out H9.out.bl⟩
  · clear hS hx
    go_enter Try.func4, Try.ntmps4
    go_wp2_with go_in
    go_ret
    exact ⟨rfl, Below.refl _ _⟩
end Go.Proofs.Ytfepilpllfiegaa
/- FnSides: the law returns true at every input; memory that was there reads as it did. Conditions: none. -/
namespace Go.Proofs.Ytfepilpllfiegaa.fnSides
open Go.ChangeShapes Go.WideShapes Go.ChangeAt Go.RowKit Go.Deep
open Go.ChangeMaps (open_string shut_string)
open Go.RowKit
theorem own : ownKnob Try.prog.godebug = none := by kernel_rfl
theorem laidOut : laidOutB Try.prog = true := by kernel_rfl
theorem reads : Try.f4.params.toList.all (fun t => Try.prog.readableRec t && decide (t < Try.prog.types.size)) = true := by kernel_rfl
theorem plain {H : Type} (ds : List (DataW H)) (h : ds.length = Try.f4.params.toList.length) : (Rows.fnSidesSpec.fn H ds).results = [.lit (.bool true)] ∧ (Rows.fnSidesSpec.fn H ds).args = ds ∧ (Rows.fnSidesSpec.fn H ds).vars = [] := by
  rw [Try.params4] at h
  match ds, h with
  | [d0], _ => exact ⟨rfl, rfl, rfl⟩
set_option maxRecDepth 100000 in
theorem lifted (os : Os) (started : os.Started) (H : Type) (enc : TypeId × Value → H) :
    ReturnsInHanded {} Try.checked os 4 .any (Rows.fnSidesSpec.pre6 enc Try.prog Try.f4 Rows.fnSidesRow.domain false) (Rows.fnSidesSpec.post enc Try.prog Try.f4 false true false false) := by
  refine returnsInHanded_of_change (C := Try.checked) own started (by kernel_rfl) Try.func4
    (ChangeSpec.witness6 (enc := enc) (C := Try.checked) false ⟨#[], #[.slice none 0 0], []⟩ 8 (by kernel_rfl) (by kernel_rfl) (by kernel_rfl) (by kernel_rfl)) ?_
  intro W base args ds gs before hval0 hW _ _
  have hval : ∀ (j : Nat) t v, Try.f4.params[j]? = some t → args[j]? = some v → Value.okWide Try.prog W .any base t v := hval0
  refine law_contract (P := Try.prog) laidOut reads rfl Try.underlying4 rfl plain W args ds gs before hW (fun p hA => ?_)
  clear hval0 hW
  rw [Try.params4] at hA hval
  obtain ⟨v0, vs0, d0, ds0, p0, q0, hargs, rfl, rfl, h0, r0⟩ := trodAll_cons hA
  obtain ⟨rfl, rfl, rfl⟩ := trodAll_nil r0
  obtain rfl : args = #[v0] := by cases args; simp_all
  obtain ⟨A0, n0, c0, x0, rfl, w0⟩ := open_bytes (hval 0 22 v0 rfl rfl) h0
  exact walkFnSides W w0
theorem proved : Rows.FnSidesSaid :=
  OpenClaim.holds_of_wide 4 Try.f4 rfl rfl rfl rfl rfl rfl rfl ⟨rfl, rfl, rfl, rfl, rfl⟩ rfl rfl rfl rfl rfl (by kernel_rfl) Try.func4 (by kernel_rfl)
    (of_decide_eq_true (by kernel_rfl)) (by unfold Func.isWrapper; first | (rw [if_pos (by decide +kernel)]; kernel_rfl) | (rw [if_neg (by decide +kernel)]; exact ⟨rfl, rfl⟩))
    (fun os started H enc _ => lifted os started H enc)
#print axioms proved
end Go.Proofs.Ytfepilpllfiegaa.fnSides
