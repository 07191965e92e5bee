/- Lemmas and walks that the claim rests on, laid together. Conditions: none. -/
import Derived.Test.YtfepilpllfiegaaZf3c2460d17f0
import Derived.Test.YtfepilpllfiegaaZ1d0eccf5fb2d
import Derived.Test.YtfepilpllfiegaaZdfbd2eff1c27
import Derived.Test.YtfepilpllfiegaaZ70ba1dc62942
/- FnAllRoutes, walked. Conditions: none. By wfall.py. -/
namespace Go.Proofs.Ytfepilpllfiegaa
open Go.RowKit
/-- Routes lie in memory. -/
def RtsLie (w : World) (R : Option Addr) (k : Nat) (ss : List (Int × Sl)) (rows : List (Int × List Int)) : Prop :=
  SeesRS w R k ss rows ∧ (∀ (i : Nat) s r, ss[i]? = some s → rows[i]? = some r → s.2.n ≤ s.2.c) ∧ k ≤ 1048576 ∧ ∀ r ∈ rows, r.2.length ≤ 1048576
section
variable {w0 w w' : World} {L : List Thing} {R : Option Addr} {k c base : Nat} {ss : List (Int × Sl)} {rows : List (Int × List Int)}
theorem RtsLie.grow (h : RtsLie w R k ss rows) (hb : Below w.heap.size w w') : RtsLie w' R k ss rows := ⟨h.1.grow hb, h.2⟩
theorem OwnsRS.lie {v : Value} (h : OwnsRS w base v ss rows) (hk : rows.length ≤ 1048576) (hr : ∀ r ∈ rows, r.2.length ≤ 1048576) : ∃ R c, v = .slice R rows.length c ∧ RtsLie w R rows.length ss rows ∧ (0 < rows.length → ∃ g, R = some ⟨g, 0, none⟩) := by
  obtain ⟨A, c, hv, hle, _, _⟩ := h.1.form
  subst hv
  refine ⟨A, c, by rw [h.2.1], ⟨by have := OwnsRS.sees h; rw [h.2.1] at this; exact this, fun j s r hs hr2 => ?_, hk, hr⟩, fun h0 => ?_⟩
  · obtain ⟨_, ho⟩ := h.2.2.1 j s r hs hr2
    obtain ⟨A', c', hv, hle, _⟩ := ho.form
    unfold slV at hv
    injection hv with _ e2 e3
    omega
  · rcases h.1.cases with ⟨e, e0⟩ | ⟨g, c2, cur, hv, _⟩
    · rw [e0] at h; have := h.2.1; simp at this; omega
    · injection hv with h1 _ _
      exact ⟨g, h1⟩
/-- Route j of them. -/
theorem RtsLie.rt (h : RtsLie w R k ss rows) {j : Nat} {s : Int × Sl} {r : Int × List Int} (hs : ss[j]? = some s) (hr : rows[j]? = some r) : s.1 = r.1 ∧ s.2.n = r.2.length ∧ RtIs w s.2.A r.2.length s.2.c r.2 := by
  obtain ⟨e0, e1, hsee⟩ := h.1.2.2 j s r hs hr
  have hle := h.2.1 j s r hs hr
  have hb := h.2.2.2 r (List.mem_of_getElem? hr)
  rw [e1] at hsee hle
  exact ⟨e0, e1, ⟨⟨hle, hb⟩, hsee⟩⟩
/-- Route j: the cells of its row, and the route. -/
theorem RtsLie.at_ {g : Nat} (h : RtsLie w (some ⟨g, 0, none⟩) k ss rows) {j : Nat} {s : Int} {r : List Int} (hr : rows[j]? = some (s, r)) : ∃ R e, w.cell? ⟨g, j * 2, none⟩ = some (.int .i64 s) ∧ w.cell? ⟨g, j * 2 + 1, none⟩ = some (.slice R r.length e) ∧ RtIs w R r.length e r := by
  obtain ⟨s0, hs0⟩ : ∃ s0, ss[j]? = some s0 := ⟨ss[j]'(by rw [h.1.2.1]; exact (List.getElem?_eq_some_iff.1 hr).1), List.getElem?_eq_getElem _⟩
  obtain ⟨e0, e1, hrt⟩ := h.rt hs0 hr
  have c0 := h.1.1.cell hs0 (j := 0) rfl
  have c1 := h.1.1.cell hs0 (j := 1) rfl
  simp only [elRt, Nat.zero_add, Nat.add_zero] at c0 c1
  have e0' : s0.1 = s := e0
  refine ⟨s0.2.A, s0.2.c, by rw [← e0']; exact c0, ?_, hrt⟩
  unfold slV at c1
  rw [e1] at c1
  exact c1
end
set_option maxHeartbeats 4000000 in
set_option maxRecDepth 100000 in
theorem walkFnAllRoutes (w : World) {A : Option Addr} {n c : Nat} {bs : List Int} (hA : BytesArg w A n c bs) : Calls Try.prog 3 #[.slice A n c] w fun e w' => e = .returned (.bool true) ∧ Below w.heap.size w w' := by
  obtain ⟨hcc, hcm, hS, hx⟩ := hA
  unfold maxLen at hcm
  by_cases hn : n ≤ 65536
  · have HS := hid hS
    have HX := hid hx
    clear hS hx
    go_enter Try.func3, Try.ntmps3
    go_wp2_with fail
    go_in
    go_wp2_with fail
    refine (drawAllRoutes_any _ HS.out HX.out (by omega)).mono ?_
    rintro e w1 ⟨B, p, cb, E, m, d, xs, fs, f, t, rfl, hD⟩
    have HN := hid hD.net
    have HB1 := hid hD.bl
    have hp := hD.hp
    have hm := hD.hm
    have HXL := hid hD.xl
    have H1 := hid ((Led.nil w1).blk_ w1.heap.size rfl 27 #[.slice B p cb, .slice E m d])
    clear hD HS HX
    go_wp2_with fail
    have HP1 := hid (fun w' h => implAllRoutes f t w' (HN.out.grow h))
    have HP2 := hid (fun w' h => specAllRoutes f t w' (HN.out.grow h))
    have HP3 := hid (fun w' h => implShortestRoute f t w' (HN.out.grow h))
    have HAP := hid (arL_parts (xs := xs) (fs := fs) (f := f) (t := t))
    have HAR := hid (ar_facts (xs := xs) (fs := fs) (f := f) (t := t))
    have HAN := hid (ar_none (xs := xs) (fs := fs) (f := f) (t := t))
    obtain ⟨rows, hrows⟩ : ∃ D, D = arL xs fs f t := ⟨_, rfl⟩
    obtain ⟨ok, hok⟩ : ∃ ok, ok = arB xs fs f t := ⟨_, rfl⟩
    obtain ⟨oS, hoS⟩ : ∃ oS, oS = shO xs fs f t (fun _ => true) := ⟨_, rfl⟩
    rw [← hrows, ← hok] at HP1 HP2
    rw [← hoS] at HP3 HAR
    rw [← hrows] at HAP HAN HAR
    rw [← hok] at HAR HAN
    clear hrows hok hoS
    refine (HP1.out _ H1.out.bl).mono ?_
    rintro e w2 ⟨v, ss, rfl, ho, hb2⟩
    obtain ⟨RA, cA, rfl, hlie, hgA⟩ := ho.lie (by have := HAP.out.1; omega) (fun r hr => by have := HAP.out.2 r hr; omega)
    have H2 := hid (H1.out.step hb2)
    have HLI := hid hlie
    clear ho hb2 H1 hlie
    have q0 := H2.out.cell 0 0 rfl rfl
    have q1 := H2.out.cell 0 1 rfl rfl
    go_wp2_with fail
    refine (HP2.out _ H2.out.bl).mono ?_
    rintro e w3 ⟨V2, ss2, rfl, -, hb3⟩
    have H3 := hid (H2.out.step hb3)
    replace HLI := hid (HLI.out.grow hb3)
    clear hb3 q0 q1 H2 HP1 HP2
    have q0 := H3.out.cell 0 0 rfl rfl
    have q1 := H3.out.cell 0 1 rfl rfl
    go_wp2_with fail
    refine (HP3.out _ H3.out.bl).mono ?_
    rintro e w4 ⟨R, kr, rfl, hoR, hb4⟩
    have h4 := H3.out.owns hb4 hoR
    obtain ⟨ids, hids⟩ : ∃ ids, ids = frL oS := ⟨_, rfl⟩
    rw [← hids] at h4 ⊢
    obtain ⟨sr, hsr⟩ : ∃ sr, sr = frS oS f := ⟨_, rfl⟩
    rw [← hsr]
    have H4 := hid (h4.blk_ w4.heap.size rfl 35 #[.int .i64 sr, .slice R ids.length kr])
    replace HLI := hid ((HLI.out.grow hb4).grow (bl_alloc (Below.refl _ _) (.cells #[.int .i64 sr, .slice R ids.length kr] 35)))
    have HIDS := hid hids
    have HSR := hid hsr
    clear hoR hb4 H3 q0 q1 HP3 h4 hids hsr
    -- ledger: [sbox, srow, nbox]
    cases ok
    · have h0 := HAN.out rfl
      subst h0
      go_wp2_with fail
      go_ret
      exact ⟨rfl, bl_then HB1.out H4.out.bl⟩
    · obtain ⟨s, to, D, rfl, rfl, hg, hst, rfl, hoS, hDr, hDn⟩ := HAR.out rfl
      have HDR := hid hDr
      have HDN := hid hDn
      have HDl : Hid ((D.map (fun r => ((s : Int), r))).length = D.length) := by unfold Hid; simp
      rw [HDl.out] at HLI hgA ⊢
      have hD200 := HAP.out.1
      rw [HDl.out] at hD200
      have HRS : Hid (∀ (i : Nat) r, D[i]? = some r → (D.map (fun r => ((s : Int), r)))[i]? = some ((s : Int), r)) := fun i r hr => by rw [List.getElem?_map, hr]; rfl
      obtain ⟨rows, hrows⟩ : ∃ rows, rows = D.map (fun r => ((s : Int), r)) := ⟨_, rfl⟩
      rw [← hrows] at HLI HRS
      have HOS := hid hoS
      clear HAR HAN HAP HDl hDr hDn hrows hoS
      by_cases hD0 : D = []
      · subst hD0
        have e : oS = none := HOS.out
        subst e
        go_wp2_with fail
        refine region_cls (by kernel_rfl) (by kernel_rfl) ?_
        repeat (first
          | ((with_reducible refine quiet_pos ?_ (fun K hK => ?_))
             · rfl
             apply Exists.intro
             refine ⟨fun w' hw' => ?_, ?_⟩
             · go_simp
               with_reducible rfl
             simp only [Act.put, List.setIfInBounds_toArray, List.set_cons_zero, List.set_cons_succ]
             refine hK _ ?_; clear hK K)
          | ((with_reducible refine quiet_neg ?_ (fun K hK => ?_))
             · rfl
             simp only [Act.put, List.setIfInBounds_toArray, List.set_cons_zero, List.set_cons_succ]
             refine hK _ ?_; clear hK K))
        with_reducible refine wpQuiet_nil ?_
        intro wz hwz'
        have H5 := hid (H4.out.step hwz')
        clear H4
        go_wp2_with fail
        go_loopw [12] (fun i wr => i = .int .i64 0 ∧ Hid (Below w.heap.size w wr)) (fun _ _ => 0)
        case atStart => exact ⟨rfl, bl_then HB1.out H5.out.bl⟩
        case round =>
          clear H5
          obtain ⟨rfl, HS⟩ := hrel
          go_wp2
          go_ret
          exact ⟨rfl, HS.out⟩
      · have hpos : 0 < D.length := List.length_pos_iff.2 hD0
        obtain ⟨gA, rfl⟩ := hgA hpos
        obtain ⟨r0, hr0⟩ : ∃ r0, D[0]? = some r0 := ⟨D[0]'hpos, List.getElem?_eq_getElem _⟩
        have e : oS = some r0 := by rw [HOS.out, List.head?_eq_getElem?]; exact hr0
        subst e
        obtain ⟨R0, e0, c0, c1, hrt0⟩ := HLI.out.at_ (HRS.out 0 r0 hr0)
        simp only [Nat.zero_mul, Nat.zero_add] at c0 c1
        obtain rfl : ids = r0 := HIDS.out
        obtain rfl : sr = (s : Int) := HSR.out
        have b0 := H4.out.cell 0 0 rfl rfl
        have b1 := H4.out.cell 0 1 rfl rfl
        have hsr := H4.out.seesI 1 rfl
        have ipos : (0 : Int) < (D.length : Int) := by omega
        have HR0 := hid hrt0.2
        have HRk := hid hrt0.1.2
        have HSR := hid hsr
        clear hsr hrt0 hr0 hD0 hgA HIDS
        go_wp2_with fail
        generalize w4.alloc (.cells #[.int .i64 (s : Int), .slice R ids.length kr] 35) = WW at *
        have C0 : ∀ w', Cls WW w' → w'.cell? ⟨gA, 0, none⟩ = some (.int .i64 (s : Int)) := fun _ h => h.cell c0
        have C1 : ∀ w', Cls WW w' → w'.cell? ⟨gA, 1, none⟩ = some (.slice R0 ids.length e0) := fun _ h => h.cell c1
        have B0 : ∀ w', Cls WW w' → w'.cell? ⟨w4.heap.size, 0, none⟩ = some (.int .i64 (s : Int)) := fun _ h => h.cell b0
        have B1 : ∀ w', Cls WW w' → w'.cell? ⟨w4.heap.size, 1, none⟩ = some (.slice R ids.length kr) := fun _ h => h.cell b1
        clear c0 c1 b0 b1
        refine region_cls (by kernel_rfl) (by kernel_rfl) ?_
        repeat (first
          | ((with_reducible refine quiet_pos ?_ (fun K hK => ?_))
             · rfl
             apply Exists.intro
             refine ⟨fun w' hw' => ?_, ?_⟩
             · go_simp
               first
                 | with_reducible rfl
                 | (go_at_call 14; exact hw'.call (vRoutes_same _ _ ((HSR.out.grow hw').more hw'.size) ((HR0.out.grow hw').more hw'.size) HRk.out (Nat.le_refl _) (Nat.le_refl _)))
             simp only [Act.put, List.setIfInBounds_toArray, List.set_cons_zero, List.set_cons_succ]
             refine hK _ ?_; clear hK K)
          | ((with_reducible refine quiet_neg ?_ (fun K hK => ?_))
             · rfl
             simp only [Act.put, List.setIfInBounds_toArray, List.set_cons_zero, List.set_cons_succ]
             refine hK _ ?_; clear hK K))
        with_reducible refine wpQuiet_nil ?_
        intro wz hwz'
        have N0 : wz.cell? ⟨w1.heap.size, 0, none⟩ = some (.slice B p cb) := (H4.out.step hwz').cell 2 0 rfl rfl
        have N1 : wz.cell? ⟨w1.heap.size, 1, none⟩ = some (.slice E m d) := (H4.out.step hwz').cell 2 1 rfl rfl
        have HW1 := hid (bl_then H4.out.bl hwz')
        replace HN := hid (HN.out.grow HW1.out)
        replace HLI := hid (HLI.out.grow hwz')
        replace HB1 := hid (bl_then HB1.out HW1.out)
        have HN0 := hid N0
        have HN1 := hid N1
        have HG := hid hg
        clear C0 C1 B0 B1 H4 hwz' HW1 HSR HR0 HRk N0 N1 HOS hg
        generalize wz = WZ at *
        go_wp2_with fail
        go_loopw [12] (fun i wr => ∃ k : Nat, k ≤ D.length ∧ i = .int .i64 k ∧ Hid (Below WZ.heap.size WZ wr)) (fun i _ => D.length - (intOf i).toNat)
        case atStart => exact ⟨0, Nat.zero_le _, rfl, Below.refl _ _⟩
        case round =>
          obtain ⟨k, hk, rfl, HS⟩ := hrel
          by_cases hlt : k < D.length
          · have iz : (k : Int) < (D.length : Int) := by omega
            obtain ⟨r, hr⟩ : ∃ r, D[k]? = some r := ⟨D[k]'hlt, List.getElem?_eq_getElem _⟩
            obtain ⟨hrb, hend⟩ := HDR.out r (List.mem_of_getElem? hr)
            obtain ⟨RK, ek, c0, c1, hrt⟩ := (HLI.out.grow HS.out).at_ (HRS.out k r hr)
            have n0 := bl_cell HS.out HN0.out
            have n1 := bl_cell HS.out HN1.out
            have hrtB := (routeB_good hrb).2
            obtain ⟨NL, hNL⟩ : ∃ NL, NL = routeL xs fs (s : Int) r := ⟨_, rfl⟩
            have hNL2 : NL = outW fs (s : Int) r r.length := by rw [hNL]; unfold routeL rtL; rw [HG.out, if_pos rfl, hrtB, if_pos rfl]
            have hq : NL.length = r.length + 1 := by rw [hNL2, outW_len]
            have hv0 : NL[0]? = some (s : Int) := by rw [hNL2]; unfold outW; simp [atW]
            have hv1 : NL[r.length]? = some (to : Int) := by rw [hNL2, outW_get, hend]
            have HPN := hid (fun w' (h : Cls wr w') => implRouteNodes (s : Int) w' (HN.out.grow (bl_then HS.out h)) (show RtIs w' RK r.length ek r from ⟨hrt.1, (hrt.2.grow h).more h.size⟩))
            rw [← hNL, hrb] at HPN
            obtain ⟨q, hqq⟩ : ∃ q, q = NL.length := ⟨_, rfl⟩
            obtain ⟨q1, hq1⟩ : ∃ q1, q1 = r.length := ⟨_, rfl⟩
            rw [← hq1] at hv1 hq
            have i1 : IntKind.i64.wrap ((q : Int) - 1) = (q1 : Int) := by rw [IntWalk.i64_in _ (by have := hrt.1.2; omega)]; omega
            have i2 : q1 < q := by omega
            have i3 : (q1 : Int) < (q : Int) := by omega
            have i4 : (0 : Int) < (q : Int) := by omega
            have i5 : 0 < q := by omega
            have HQ : Hid (NL.length = q) := hqq.symm
            have HV0 := hid hv0
            have HV1 := hid hv1
            have HRK := hid hr
            have HHRB := hid hrb
            have HRT := hid hrt
            clear hr hrb hend hrt hrtB hNL hNL2 hq hv0 hv1 hqq hq1
            go_wp2_with fail
            refine wp_region_held_drew (S := fun w' => (w'.cell? ⟨w1.heap.size, 0, none⟩ = some (.slice B p cb) ∧ w'.cell? ⟨w1.heap.size, 1, none⟩ = some (.slice E m d)) ∧ w'.cell? ⟨gA, k * 2, none⟩ = some (.int .i64 (s : Int)) ∧ w'.cell? ⟨gA, k * 2 + 1, none⟩ = some (.slice RK r.length ek)) (by kernel_rfl) (⟨⟨n0, n1⟩, c0, c1⟩) (fun hHeld => ?_)
            refine wpAnyH_take (i := 0) (oi := _) (v := ?_) rfl (by kernel_rfl) (by kernel_rfl) (by kernel_rfl) (fun _ _ _ h => h) (Or.inl ⟨by rfl, ?_⟩) (by assumption) ?_
            rotate_left
            · intro w hSw; go_simp; with_reducible rfl
            simp only [Act.put, List.getElem_toArray, List.getElem_cons_zero, List.setIfInBounds_toArray, List.set_cons_zero, List.set_cons_succ]
            refine wpAnyH_take (i := 1) (oi := _) (v := ?_) rfl (by kernel_rfl) (by kernel_rfl) (by kernel_rfl) (fun _ _ _ h => h) (Or.inl ⟨by rfl, ?_⟩) (by assumption) ?_
            rotate_left
            · intro w hSw; go_simp; with_reducible rfl
            simp only [Act.put, List.getElem_toArray, List.getElem_cons_zero, List.getElem_cons_succ, List.setIfInBounds_toArray, List.set_cons_zero, List.set_cons_succ]
            refine wpAnyH_take (i := 2) (oi := _) (v := ?_) rfl (by kernel_rfl) (by kernel_rfl) (by kernel_rfl) (fun _ _ _ h => h) (Or.inl ⟨by rfl, ?_⟩) (by assumption) ?_
            rotate_left
            · intro w hSw; go_simp; with_reducible rfl
            simp only [Act.put, List.getElem_toArray, List.getElem_cons_zero, List.getElem_cons_succ, List.setIfInBounds_toArray, List.set_cons_zero, List.set_cons_succ]
            refine wpAnyH_take (i := 3) (oi := _) (v := ?_) rfl (by kernel_rfl) (by kernel_rfl) (by kernel_rfl) (fun _ _ _ h => h) (Or.inl ⟨by rfl, ?_⟩) (by assumption) ?_
            rotate_left
            · intro w hSw; go_simp; with_reducible rfl
            simp only [Act.put, List.getElem_toArray, List.getElem_cons_zero, List.getElem_cons_succ, List.setIfInBounds_toArray, List.set_cons_zero, List.set_cons_succ]
            refine wpAnyH_take (i := 4) (oi := _) (v := ?_) rfl (by kernel_rfl) (by kernel_rfl) (by kernel_rfl) (fun _ _ _ h => h) (Or.inl ⟨by rfl, ?_⟩) (by assumption) ?_
            rotate_left
            · intro w hSw; go_simp; with_reducible rfl
            simp only [Act.put, List.getElem_toArray, List.getElem_cons_zero, List.getElem_cons_succ, List.setIfInBounds_toArray, List.set_cons_zero, List.set_cons_succ]
            refine wpAnyH_ready (rs := [5]) (by kernel_rfl) (by simp) ?_
            refine AllReadyH.cons rfl (fun K hK => ?_) AllReadyH.nil
            go_simp
            refine (HPN.out _ (Cls.drew _)).mono ?_
            rintro e w6 ⟨v, rfl, ho, hb⟩
            obtain ⟨gN, cN, rfl⟩ := Owns.splitg ho HQ.out i5
            have v0 := (Owns.sees (show Owns elInt w6 _ 3 (.slice (some ⟨gN, 0, none⟩) NL.length cN) NL by rw [HQ.out]; exact ho)).cell HV0.out (j := 0) rfl
            have v1 := (Owns.sees (show Owns elInt w6 _ 3 (.slice (some ⟨gN, 0, none⟩) NL.length cN) NL by rw [HQ.out]; exact ho)).cell HV1.out (j := 0) rfl
            simp only [elInt, Nat.zero_add, Nat.mul_one, Nat.add_zero] at v0 v1
            have hbw : Cls wr w6 := bl_then (Cls.drew _) hb
            go_wp2_with fail
            refine hK.out _ _ (⟨⟨hbw.cell n0, hbw.cell n1⟩, hbw.cell c0, hbw.cell c1⟩) (fun hHeld => ?_)
            clear hK K
            try simp only [Act.put, List.getElem_toArray, List.getElem_cons_zero, List.getElem_cons_succ, List.setIfInBounds_toArray, List.set_cons_zero, List.set_cons_succ]
            refine wpAnyH_take (i := 6) (oi := _) (v := ?_) rfl (by kernel_rfl) (by kernel_rfl) (by kernel_rfl) (fun _ _ _ h => h) (Or.inl ⟨by rfl, ?_⟩) (by assumption) ?_
            rotate_left
            · intro w hSw; go_simp; with_reducible rfl
            simp only [Act.put, List.getElem_toArray, List.getElem_cons_zero, List.getElem_cons_succ, List.setIfInBounds_toArray, List.set_cons_zero, List.set_cons_succ]
            refine wpAnyH_take (i := 7) (oi := _) (v := ?_) rfl (by kernel_rfl) (by kernel_rfl) (by kernel_rfl) (fun _ _ _ h => h) (Or.inl ⟨by rfl, ?_⟩) (by assumption) ?_
            rotate_left
            · intro w hSw; go_simp; with_reducible rfl
            simp only [Act.put, List.getElem_toArray, List.getElem_cons_zero, List.getElem_cons_succ, List.setIfInBounds_toArray, List.set_cons_zero, List.set_cons_succ]
            refine wpAnyH_take (i := 8) (oi := _) (v := ?_) rfl (by kernel_rfl) (by kernel_rfl) (by kernel_rfl) (fun _ _ _ h => h) (Or.inl ⟨by rfl, ?_⟩) (by assumption) ?_
            rotate_left
            · intro w hSw; go_simp; with_reducible rfl
            simp only [Act.put, List.getElem_toArray, List.getElem_cons_zero, List.getElem_cons_succ, List.setIfInBounds_toArray, List.set_cons_zero, List.set_cons_succ]
            refine wpAnyH_take (i := 9) (oi := _) (v := ?_) rfl (by kernel_rfl) (by kernel_rfl) (by kernel_rfl) (fun _ _ _ h => h) (Or.inl ⟨by rfl, ?_⟩) (by assumption) ?_
            rotate_left
            · intro w hSw; go_simp; with_reducible rfl
            simp only [Act.put, List.getElem_toArray, List.getElem_cons_zero, List.getElem_cons_succ, List.setIfInBounds_toArray, List.set_cons_zero, List.set_cons_succ]
            refine wpAnyH_take (i := 10) (oi := _) (v := ?_) rfl (by kernel_rfl) (by kernel_rfl) (by kernel_rfl) (fun _ _ _ h => h) (Or.inl ⟨by rfl, ?_⟩) (by assumption) ?_
            rotate_left
            · intro w hSw; go_simp; with_reducible rfl
            simp only [Act.put, List.getElem_toArray, List.getElem_cons_zero, List.getElem_cons_succ, List.setIfInBounds_toArray, List.set_cons_zero, List.set_cons_succ]
            refine wpAnyH_done (by kernel_rfl) ?_ _
            have HC0 := hid (hbw.cell c0)
            have HC1 := hid (hbw.cell c1)
            replace n0 := hbw.cell n0
            replace n1 := hbw.cell n1
            replace HRT := hid (show RtIs w6 RK r.length ek r from ⟨HRT.out.1, (HRT.out.2.grow hbw).more hbw.size⟩)
            replace HS := hid (bl_then HS.out hbw)
            have e1 : ((s : Int) != (s : Int)) = false := by simp
            have e2 : ((to : Int) != (to : Int)) = false := by simp
            clear hbw hb ho c0 c1 hHeld HPN
            by_cases hk0 : k = 0
            · have ik : ¬ ((k : Int) > 0) := by omega
              clear hk0
              go_wp2
              go_roundw
              case rel => exact ⟨k + 1, by omega, by go_num, HS⟩
              case measure => simp [intOf]; omega
            · have ik : (k : Int) > 0 := by omega
              obtain ⟨k1, hk1⟩ : ∃ k1, k = k1 + 1 := ⟨k - 1, by omega⟩
              obtain ⟨r', hr'⟩ : ∃ r', D[k1]? = some r' := ⟨D[k1]'(by omega), List.getElem?_eq_getElem _⟩
              have hrb' := (HDR.out r' (List.mem_of_getElem? hr')).1
              obtain ⟨RJ, ej, d0, d1, hrt'⟩ := (HLI.out.grow HS.out).at_ (HRS.out k1 r' hr')
              have hord := HDN.out k1 r' r hr' (by rw [← hk1]; exact HRK.out)
              have hcB : crB xs fs (s : Int) r' (s : Int) r = true := by unfold crB; rw [hrb', HHRB.out]; rfl
              have hcI : crI xs fs (s : Int) r' (s : Int) r = -1 := by unfold crI; rw [hcB, if_pos rfl]; exact hord
              have HPC := hid (fun w' (h : Cls w6 w') => implCompareRoutes (s := (s : Int)) (t := (s : Int)) w' (HN.out.grow (bl_then HS.out h)) (show RtIs w' RJ r'.length ej r' from ⟨hrt'.1, (hrt'.2.grow h).more h.size⟩) (show RtIs w' RK r.length ek r from ⟨HRT.out.1, (HRT.out.2.grow h).more h.size⟩))
              rw [hcB, hcI] at HPC
              have iw : IntKind.i64.wrap ((k : Int) - 1) = (k1 : Int) := by rw [IntWalk.i64_in _ (by omega)]; omega
              have j1 : (k1 : Int) < (D.length : Int) := by omega
              have j2 : k1 < D.length := by omega
              have c0 := HC0.out
              have c1 := HC1.out
              clear hk1 hr' hrb' hrt' hord hcB hcI hk0
              go_wp2_with fail
              refine wp_region_held_drew (S := fun w' => ((w'.cell? ⟨w1.heap.size, 0, none⟩ = some (.slice B p cb) ∧ w'.cell? ⟨w1.heap.size, 1, none⟩ = some (.slice E m d)) ∧ w'.cell? ⟨gA, k * 2, none⟩ = some (.int .i64 (s : Int)) ∧ w'.cell? ⟨gA, k * 2 + 1, none⟩ = some (.slice RK r.length ek)) ∧ w'.cell? ⟨gA, k1 * 2, none⟩ = some (.int .i64 (s : Int)) ∧ w'.cell? ⟨gA, k1 * 2 + 1, none⟩ = some (.slice RJ r'.length ej)) (by kernel_rfl) (⟨⟨⟨n0, n1⟩, c0, c1⟩, d0, d1⟩) (fun hHeld => ?_)
              refine wpAnyH_take (i := 0) (oi := _) (v := ?_) rfl (by kernel_rfl) (by kernel_rfl) (by kernel_rfl) (fun _ _ _ h => h) (Or.inl ⟨by rfl, ?_⟩) (by assumption) ?_
              rotate_left
              · intro w hSw; go_simp; with_reducible rfl
              simp only [Act.put, List.getElem_toArray, List.getElem_cons_zero, List.setIfInBounds_toArray, List.set_cons_zero, List.set_cons_succ]
              refine wpAnyH_take (i := 1) (oi := _) (v := ?_) rfl (by kernel_rfl) (by kernel_rfl) (by kernel_rfl) (fun _ _ _ h => h) (Or.inl ⟨by rfl, ?_⟩) (by assumption) ?_
              rotate_left
              · intro w hSw; go_simp; with_reducible rfl
              simp only [Act.put, List.getElem_toArray, List.getElem_cons_zero, List.getElem_cons_succ, List.setIfInBounds_toArray, List.set_cons_zero, List.set_cons_succ]
              refine wpAnyH_take (i := 2) (oi := _) (v := ?_) rfl (by kernel_rfl) (by kernel_rfl) (by kernel_rfl) (fun _ _ _ h => h) (Or.inl ⟨by rfl, ?_⟩) (by assumption) ?_
              rotate_left
              · intro w hSw; go_simp; with_reducible rfl
              simp only [Act.put, List.getElem_toArray, List.getElem_cons_zero, List.getElem_cons_succ, List.setIfInBounds_toArray, List.set_cons_zero, List.set_cons_succ]
              refine wpAnyH_take (i := 3) (oi := _) (v := ?_) rfl (by kernel_rfl) (by kernel_rfl) (by kernel_rfl) (fun _ _ _ h => h) (Or.inl ⟨by rfl, ?_⟩) (by assumption) ?_
              rotate_left
              · intro w hSw; go_simp; with_reducible rfl
              simp only [Act.put, List.getElem_toArray, List.getElem_cons_zero, List.getElem_cons_succ, List.setIfInBounds_toArray, List.set_cons_zero, List.set_cons_succ]
              refine wpAnyH_take (i := 4) (oi := _) (v := ?_) rfl (by kernel_rfl) (by kernel_rfl) (by kernel_rfl) (fun _ _ _ h => h) (Or.inl ⟨by rfl, ?_⟩) (by assumption) ?_
              rotate_left
              · intro w hSw; go_simp; with_reducible rfl
              simp only [Act.put, List.getElem_toArray, List.getElem_cons_zero, List.getElem_cons_succ, List.setIfInBounds_toArray, List.set_cons_zero, List.set_cons_succ]
              refine wpAnyH_take (i := 5) (oi := _) (v := ?_) rfl (by kernel_rfl) (by kernel_rfl) (by kernel_rfl) (fun _ _ _ h => h) (Or.inl ⟨by rfl, ?_⟩) (by assumption) ?_
              rotate_left
              · intro w hSw; go_simp; with_reducible rfl
              simp only [Act.put, List.getElem_toArray, List.getElem_cons_zero, List.getElem_cons_succ, List.setIfInBounds_toArray, List.set_cons_zero, List.set_cons_succ]
              refine wpAnyH_take (i := 6) (oi := _) (v := ?_) rfl (by kernel_rfl) (by kernel_rfl) (by kernel_rfl) (fun _ _ _ h => h) (Or.inl ⟨by rfl, ?_⟩) (by assumption) ?_
              rotate_left
              · intro w hSw; go_simp; with_reducible rfl
              simp only [Act.put, List.getElem_toArray, List.getElem_cons_zero, List.getElem_cons_succ, List.setIfInBounds_toArray, List.set_cons_zero, List.set_cons_succ]
              refine wpAnyH_take (i := 7) (oi := _) (v := ?_) rfl (by kernel_rfl) (by kernel_rfl) (by kernel_rfl) (fun _ _ _ h => h) (Or.inl ⟨by rfl, ?_⟩) (by assumption) ?_
              rotate_left
              · intro w hSw; go_simp; with_reducible rfl
              simp only [Act.put, List.getElem_toArray, List.getElem_cons_zero, List.getElem_cons_succ, List.setIfInBounds_toArray, List.set_cons_zero, List.set_cons_succ]
              refine wpAnyH_take (i := 8) (oi := _) (v := ?_) rfl (by kernel_rfl) (by kernel_rfl) (by kernel_rfl) (fun _ _ _ h => h) (Or.inl ⟨by rfl, ?_⟩) (by assumption) ?_
              rotate_left
              · intro w hSw; go_simp; with_reducible rfl
              simp only [Act.put, List.getElem_toArray, List.getElem_cons_zero, List.getElem_cons_succ, List.setIfInBounds_toArray, List.set_cons_zero, List.set_cons_succ]
              refine wpAnyH_take (i := 9) (oi := _) (v := ?_) rfl (by kernel_rfl) (by kernel_rfl) (by kernel_rfl) (fun _ _ _ h => h) (Or.inl ⟨by rfl, ?_⟩) (by assumption) ?_
              rotate_left
              · intro w hSw; go_simp; with_reducible rfl
              simp only [Act.put, List.getElem_toArray, List.getElem_cons_zero, List.getElem_cons_succ, List.setIfInBounds_toArray, List.set_cons_zero, List.set_cons_succ]
              refine wpAnyH_ready (rs := [10]) (by kernel_rfl) (by simp) ?_
              refine AllReadyH.cons rfl (fun K hK => ?_) AllReadyH.nil
              go_simp
              refine (HPC.out _ (Cls.drew _)).mono ?_
              rintro e w7 ⟨rfl, hb⟩
              have hbw : Cls w6 w7 := bl_then (Cls.drew _) hb
              go_wp2_with fail
              refine hK.out _ _ (⟨⟨⟨hbw.cell n0, hbw.cell n1⟩, hbw.cell c0, hbw.cell c1⟩, hbw.cell d0, hbw.cell d1⟩) (fun hHeld => ?_)
              clear hK K
              try simp only [Act.put, List.getElem_toArray, List.getElem_cons_zero, List.getElem_cons_succ, List.setIfInBounds_toArray, List.set_cons_zero, List.set_cons_succ]
              refine wpAnyH_take (i := 11) (oi := _) (v := ?_) rfl (by kernel_rfl) (by kernel_rfl) (by kernel_rfl) (fun _ _ _ h => h) (Or.inl ⟨by rfl, ?_⟩) (by assumption) ?_
              rotate_left
              · intro w hSw; go_simp; with_reducible rfl
              simp only [Act.put, List.getElem_toArray, List.getElem_cons_zero, List.getElem_cons_succ, List.setIfInBounds_toArray, List.set_cons_zero, List.set_cons_succ]
              refine wpAnyH_take (i := 12) (oi := _) (v := ?_) rfl (by kernel_rfl) (by kernel_rfl) (by kernel_rfl) (fun _ _ _ h => h) (Or.inl ⟨by rfl, ?_⟩) (by assumption) ?_
              rotate_left
              · intro w hSw; go_simp; with_reducible rfl
              simp only [Act.put, List.getElem_toArray, List.getElem_cons_zero, List.getElem_cons_succ, List.setIfInBounds_toArray, List.set_cons_zero, List.set_cons_succ]
              refine wpAnyH_take (i := 13) (oi := _) (v := ?_) rfl (by kernel_rfl) (by kernel_rfl) (by kernel_rfl) (fun _ _ _ h => h) (Or.inl ⟨by rfl, ?_⟩) (by assumption) ?_
              rotate_left
              · intro w hSw; go_simp; with_reducible rfl
              simp only [Act.put, List.getElem_toArray, List.getElem_cons_zero, List.getElem_cons_succ, List.setIfInBounds_toArray, List.set_cons_zero, List.set_cons_succ]
              refine wpAnyH_take (i := 14) (oi := _) (v := ?_) rfl (by kernel_rfl) (by kernel_rfl) (by kernel_rfl) (fun _ _ _ h => h) (Or.inl ⟨by rfl, ?_⟩) (by assumption) ?_
              rotate_left
              · intro w hSw; go_simp; with_reducible rfl
              simp only [Act.put, List.getElem_toArray, List.getElem_cons_zero, List.getElem_cons_succ, List.setIfInBounds_toArray, List.set_cons_zero, List.set_cons_succ]
              refine wpAnyH_take (i := 15) (oi := _) (v := ?_) rfl (by kernel_rfl) (by kernel_rfl) (by kernel_rfl) (fun _ _ _ h => h) (Or.inl ⟨by rfl, ?_⟩) (by assumption) ?_
              rotate_left
              · intro w hSw; go_simp; with_reducible rfl
              simp only [Act.put, List.getElem_toArray, List.getElem_cons_zero, List.getElem_cons_succ, List.setIfInBounds_toArray, List.set_cons_zero, List.set_cons_succ]
              refine wpAnyH_done (by kernel_rfl) ?_ _
              replace HS := hid (bl_then HS.out hbw)
              clear hbw hb c0 c1 d0 d1 hHeld HPC n0 n1 v0 v1 iw
              go_wp2
              go_roundw
              case rel => exact ⟨k + 1, by omega, by go_num, HS⟩
              case measure => simp [intOf]; omega
          · have iz : ¬ ((k : Int) < (D.length : Int)) := by omega
            go_wp2
            go_ret
            exact ⟨rfl, bl_then HB1.out HS.out⟩
  · clear hS hx
    go_enter Try.func3, Try.ntmps3
    go_wp2_with go_in
    go_ret
    exact ⟨rfl, Below.refl _ _⟩
end Go.Proofs.Ytfepilpllfiegaa
