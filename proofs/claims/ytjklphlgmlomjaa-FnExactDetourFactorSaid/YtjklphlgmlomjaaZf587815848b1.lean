/- Lemmas and walks that the claim rests on, laid together. Conditions: none. -/
import Derived.Test.YtjklphlgmlomjaaZ689bf6a518ec
import Derived.Test.YtjklphlgmlomjaaZ0e342eeb48aa
import Derived.Deep.RegionHeld3
import Derived.Test.YtjklphlgmlomjaaZ59e0df21fdc8
/- DetourFactor of both sides, walked. Conditions: none. -/
namespace Go.Proofs.Ytjklphlgmlomjaa
open Go.RowKit
/-- A stronger word on the worlds serves. -/
theorem wpAnyH_mono {P : Program} {ops : Array Oper} {Q : Exit → Act → World → Prop} {md : Region.Mode} {S S' : World → Prop} (hS : ∀ w, S' w → S w) : ∀ (fuel : Nat) (listed : Array Bool) (a : Act) (w : World), wpAnyH P md ops Q S' fuel listed a w → wpAnyH P md ops Q S fuel listed a w
  | 0, _, _, _, h => h
  | fuel + 1, _, _, _, h => ⟨h.1, fun i hi => wpOp_mono (fun a' w' h' => ⟨hS w' h'.1, wpAnyH_mono hS fuel _ a' w' h'.2⟩) (h.2 i hi)⟩
/-- 1000 times the length over the distance. -/
def detI (xs : List ByteArray) (fs : List Fib) (s : Int) (ids : List Int) : Int := if routeB xs fs s ids then IntKind.i64.wrap ((1000 * lenR fs ids).tdiv (valL (distL (goneF []) fs xs.length s.toNat) (atW fs s ids ids.length).toNat)) else 0
section
variable {n c m d er : Nat} {A A' R : Option Addr} {xs : List ByteArray} {fs : List Fib} {ids : List Int}
theorem route_ends {xs : List ByteArray} {fs : List Fib} {s : Int} {ids : List Int} (h : routeB xs fs s ids = true) : ∃ p q : Nat, s = (p : Int) ∧ atW fs s ids ids.length = (q : Int) ∧ p < xs.length ∧ q < xs.length ∧ q ≠ p := by
  obtain ⟨hg, hr⟩ := routeB_good h
  have hf : ∀ f ∈ fs, fibB xs.length f = true := fun f hf => goodB_fibB hg hf
  have h1 := inB_idx (rtB_parts hr).1
  have h2 := outW_range hf hr ids.length (Nat.le_refl _) _ (List.mem_of_getElem? (outW_get fs s ids ids.length))
  have hnd := outW_nodup (rtB_parts hr).2.2 ids.length (Nat.le_refl _)
  have hl := (routeB_short h).2
  refine ⟨s.toNat, (atW fs s ids ids.length).toNat, by omega, by omega, by omega, by omega, fun e => ?_⟩
  have e2 : atW fs s ids ids.length = s := by omega
  have g0 : (outW fs s ids ids.length)[0]? = some s := by unfold outW; simp [atW]
  have g1 := outW_get fs s ids ids.length
  rw [e2] at g1
  have := (List.getElem?_inj (by rw [outW_len]; omega) hnd).1 (g0.trans g1.symm)
  omega
set_option maxHeartbeats 1000000 in
set_option maxRecDepth 100000 in
theorem implDetour (w : World) (h : NetIs w A n c A' m d xs fs) (hr : RtIs w R ids.length er ids) (s : Int) :
    Calls Try.prog 44 #[.agg #[.slice A n c, .slice A' m d], .agg #[.int .i64 s, .slice R ids.length er]] w fun e w' => e = .returned (.tuple #[.int .i64 (detI xs fs s ids), .bool (routeB xs fs s ids)]) ∧ Below w.heap.size w w' := by
  have hS := ((Led.nil w).blk_ w.heap.size rfl 35 #[.slice A n c, .slice A' m d]).blk_ (w.heap.size + 1) (by simp) 37 #[.int .i64 s, .slice R ids.length er]
  cases g : routeB xs fs s ids
  · have H : Hid (detI xs fs s ids = 0) := by unfold Hid detI; rw [g]; rfl
    go_enter Try.func44, Try.ntmps44
    go_wp2_with fail
    refine (implIsValidRoute _ _ (h.grow hS.bl) (hr.grow hS.bl)).mono ?_
    rintro e w1 ⟨rfl, hb⟩
    rw [g]
    go_wp2_with fail
    go_ret2
    exact ⟨by rw [H.out]; rfl, bl_then hS.bl hb⟩
  · obtain ⟨hg, hrt⟩ := routeB_good g
    obtain ⟨he, hn0, hn8, hm14⟩ := good_parts h hg
    obtain ⟨p, q, rfl, hq, hpn, hqn, hqp⟩ := route_ends g
    rw [h.xlen] at hpn hqn hrt
    have H : Hid (detI xs fs (p : Int) ids = IntKind.i64.wrap ((1000 * lenR fs ids).tdiv (valL (distL (goneF []) fs n p) q))) := by unfold Hid detI; rw [g, hq, h.xlen]; rfl
    have hD := (distL_pos (q := goneF []) he (lens5_pos (goodB_lens5 hg)) hpn hqn).2 hqp
    have hlr := rt_lens g
    have HL := hid (goodB_lens hg)
    have HM := hid (rtB_mem hrt)
    have HL5 := hid (goodB_lens5 hg)
    have HE := hid he
    have HRT := hid hrt
    have HQ := hid hq
    have hdl : Hid ((distL (goneF []) fs n p).length = n) := distL_len
    rw [H.out]
    have HN := hid h
    have HR := hid hr
    go_enter Try.func44, Try.ntmps44
    go_wp2_with fail
    refine (implIsValidRoute _ _ (h.grow hS.bl) (hr.grow hS.bl)).mono ?_
    rintro e w1 ⟨rfl, hb⟩
    rw [g]
    replace hS := hS.step hb
    clear h hr he hg hrt hq hb
    have C0 : ∀ w', Cls w1 w' → w'.cell? ⟨w.heap.size, 0, none⟩ = some (.slice A n c) := fun _ h => h.cell (hS.cell 1 0 rfl rfl)
    have C1 : ∀ w', Cls w1 w' → w'.cell? ⟨w.heap.size, 1, none⟩ = some (.slice A' m d) := fun _ h => h.cell (hS.cell 1 1 rfl rfl)
    have C2 : ∀ w', Cls w1 w' → w'.cell? ⟨w.heap.size + 1, 0, none⟩ = some (.int .i64 (p : Int)) := fun _ h => h.cell (hS.cell 0 0 rfl rfl)
    have C3 : ∀ w', Cls w1 w' → w'.cell? ⟨w.heap.size + 1, 1, none⟩ = some (.slice R ids.length er) := fun _ h => h.cell (hS.cell 0 1 rfl rfl)
    have HLL := hid (fun w' (h : Cls w1 w') => hS.step h)
    generalize hlenR : lenR fs ids = lr at *
    have iw : IntKind.i64.wrap (1000 * lr) = 1000 * lr := IntWalk.i64_in _ (by omega)
    have iq : (q : Int) < (n : Int) := by omega
    generalize hDq : valL (distL (goneF []) fs n p) q = Dq at *
    have HDQ := hid hDq
    have hlen2 := hid hlenR
    clear hDq hlenR
    have hne : Dq ≠ 0 := by omega
    have hne2 : (Dq == 0) = false := by simpa using hne
    go_wp2_with fail
    refine wp_region_held_drew (S := fun w' => Cls w1 w') (by kernel_rfl) (Cls.drew _) (fun hHeld => ?_)
    refine wpAnyH_take (i := 0) (oi := _) (v := ?_) rfl (by kernel_rfl) (by kernel_rfl) (by kernel_rfl) (fun _ _ _ h => h) (Or.inl ⟨by rfl, ?_⟩) (by assumption) ?_
    rotate_left
    · intro w hSw; go_simp; with_reducible rfl
    simp only [Act.put, List.getElem_toArray, List.getElem_cons_zero, List.setIfInBounds_toArray, List.set_cons_zero, List.set_cons_succ]
    refine wpAnyH_take (i := 1) (oi := _) (v := ?_) rfl (by kernel_rfl) (by kernel_rfl) (by kernel_rfl) (fun _ _ _ h => h) (Or.inl ⟨by rfl, ?_⟩) (by assumption) ?_
    rotate_left
    · intro w hSw; go_simp; with_reducible rfl
    simp only [Act.put, List.getElem_toArray, List.getElem_cons_zero, List.getElem_cons_succ, List.setIfInBounds_toArray, List.set_cons_zero, List.set_cons_succ]
    refine wpAnyH_take (i := 4) (oi := _) (v := ?_) rfl (by kernel_rfl) (by kernel_rfl) (by kernel_rfl) (fun _ _ _ h => h) (Or.inl ⟨by rfl, ?_⟩) (by assumption) ?_
    rotate_left
    · intro w hSw; go_simp; with_reducible rfl
    simp only [Act.put, List.getElem_toArray, List.getElem_cons_zero, List.getElem_cons_succ, List.setIfInBounds_toArray, List.set_cons_zero, List.set_cons_succ]
    refine wpAnyH_take (i := 5) (oi := _) (v := ?_) rfl (by kernel_rfl) (by kernel_rfl) (by kernel_rfl) (fun _ _ _ h => h) (Or.inl ⟨by rfl, ?_⟩) (by assumption) ?_
    rotate_left
    · intro w hSw; go_simp; with_reducible rfl
    simp only [Act.put, List.getElem_toArray, List.getElem_cons_zero, List.getElem_cons_succ, List.setIfInBounds_toArray, List.set_cons_zero, List.set_cons_succ]
    refine wpAnyH_take (i := 6) (oi := _) (v := ?_) rfl (by kernel_rfl) (by kernel_rfl) (by kernel_rfl) (fun _ _ _ h => h) (Or.inl ⟨by rfl, ?_⟩) (by assumption) ?_
    rotate_left
    · intro w hSw; go_simp; with_reducible rfl
    simp only [Act.put, List.getElem_toArray, List.getElem_cons_zero, List.getElem_cons_succ, List.setIfInBounds_toArray, List.set_cons_zero, List.set_cons_succ]
    refine wpAnyH_take (i := 8) (oi := _) (v := ?_) rfl (by kernel_rfl) (by kernel_rfl) (by kernel_rfl) (fun _ _ _ h => h) (Or.inl ⟨by rfl, ?_⟩) (by assumption) ?_
    rotate_left
    · intro w hSw; go_simp; with_reducible rfl
    simp only [Act.put, List.getElem_toArray, List.getElem_cons_zero, List.getElem_cons_succ, List.setIfInBounds_toArray, List.set_cons_zero, List.set_cons_succ]
    refine wpAnyH_take (i := 9) (oi := _) (v := ?_) rfl (by kernel_rfl) (by kernel_rfl) (by kernel_rfl) (fun _ _ _ h => h) (Or.inl ⟨by rfl, ?_⟩) (by assumption) ?_
    rotate_left
    · intro w hSw; go_simp; with_reducible rfl
    simp only [Act.put, List.getElem_toArray, List.getElem_cons_zero, List.getElem_cons_succ, List.setIfInBounds_toArray, List.set_cons_zero, List.set_cons_succ]
    refine wpAnyH_ready (rs := [2]) (by kernel_rfl) (by simp) ?_
    refine AllReadyH.cons rfl (fun K hK => ?_) AllReadyH.nil
    go_simp
    refine (lengthOf_any _ (HN.out.grow (HLL.out _ hHeld).bl) (HR.out.grow (HLL.out _ hHeld).bl) HM.out HL.out).mono ?_
    rintro e w2 ⟨rfl, hb1⟩
    rw [hlen2.out]
    go_wp2_with fail
    refine hK.out _ _ (Cls.next hb1 hHeld) (fun hHeld => ?_)
    clear hK K
    try simp only [Act.put, List.getElem_toArray, List.getElem_cons_zero, List.getElem_cons_succ, List.setIfInBounds_toArray, List.set_cons_zero, List.set_cons_succ]
    refine wpAnyH_take (i := 3) (oi := _) (v := ?_) rfl (by kernel_rfl) (by kernel_rfl) (by kernel_rfl) (fun _ _ _ h => h) (Or.inl ⟨by rfl, ?_⟩) (by assumption) ?_
    rotate_left
    · intro w hSw; go_simp; with_reducible rfl
    simp only [Act.put, List.getElem_toArray, List.getElem_cons_zero, List.getElem_cons_succ, List.setIfInBounds_toArray, List.set_cons_zero, List.set_cons_succ]
    refine wpAnyH_ready (rs := [7]) (by kernel_rfl) (by simp) ?_
    refine AllReadyH.cons rfl (fun K hK => ?_) AllReadyH.nil
    go_simp
    refine (lengthsFrom_any p _ (HN.out.grow (HLL.out _ (by assumption)).bl) HE.out HL5.out hpn hn8 hm14).mono ?_
    rintro e w3 ⟨v, rfl, ho, hb2⟩
    obtain ⟨g2, c2, rfl⟩ := ho.splitg hdl.out hn0
    rename_i hHeld2
    have hL2 := (HLL.out _ (by assumption)).owns hb2 ho
    go_wp2_with fail
    refine hK.out _ _ (Cls.next hb2 (by assumption)) (fun hHeld => ?_)
    clear hK K
    try simp only [Act.put, List.getElem_toArray, List.getElem_cons_zero, List.getElem_cons_succ, List.setIfInBounds_toArray, List.set_cons_zero, List.set_cons_succ]
    refine wpAnyH_mono (S' := fun w' => Cls w1 w' ∧ Cls w3 w') (fun _ h => h.1) _ _ _ _ ?_
    have V0 : ∀ w', Cls w3 w' → w'.cell? ⟨g2, q, none⟩ = some (.int .i64 Dq) := fun _ h => h.cell (by rw [← HDQ.out]; exact hL2.int_at 0 rfl (j := q) (by rw [hdl.out]; exact hqn))
    have hS2 : Cls w1 w3 ∧ Cls w3 w3 := ⟨by assumption, Cls.refl _⟩
    refine wpAnyH_ready (rs := [10]) (by kernel_rfl) (by simp) ?_
    refine AllReadyH.cons rfl (fun K hK => ?_) AllReadyH.nil
    go_simp
    refine (endOf_any _ (HN.out.grow hL2.bl) (HR.out.grow hL2.bl) HRT.out).mono ?_
    rintro e w4 ⟨rfl, hb3⟩
    rw [HQ.out]
    go_wp2_with fail
    refine hK.out _ _ (⟨Cls.next hb3 hS2.1, Cls.next hb3 hS2.2⟩) (fun hHeld => ?_)
    clear hK K
    try simp only [Act.put, List.getElem_toArray, List.getElem_cons_zero, List.getElem_cons_succ, List.setIfInBounds_toArray, List.set_cons_zero, List.set_cons_succ]
    refine wpAnyH_take (i := 11) (oi := _) (v := ?_) rfl (by kernel_rfl) (by kernel_rfl) (by kernel_rfl) (fun _ _ _ h => h) (Or.inl ⟨by rfl, ?_⟩) (by assumption) ?_
    rotate_left
    · intro w hSw; go_simp; with_reducible rfl
    simp only [Act.put, List.getElem_toArray, List.getElem_cons_zero, List.getElem_cons_succ, List.setIfInBounds_toArray, List.set_cons_zero, List.set_cons_succ]
    refine wpAnyH_take (i := 12) (oi := _) (v := ?_) rfl (by kernel_rfl) (by kernel_rfl) (by kernel_rfl) (fun _ _ _ h => h) (Or.inl ⟨by rfl, ?_⟩) (by assumption) ?_
    rotate_left
    · intro w hSw; go_simp; with_reducible rfl
    simp only [Act.put, List.getElem_toArray, List.getElem_cons_zero, List.getElem_cons_succ, List.setIfInBounds_toArray, List.set_cons_zero, List.set_cons_succ]
    refine wpAnyH_take (i := 13) (oi := _) (v := ?_) rfl (by kernel_rfl) (by kernel_rfl) (by kernel_rfl) (fun _ _ _ h => h) (Or.inl ⟨by rfl, ?_⟩) (by assumption) ?_
    rotate_left
    · intro w hSw; go_simp; with_reducible rfl
    simp only [Act.put, List.getElem_toArray, List.getElem_cons_zero, List.getElem_cons_succ, List.setIfInBounds_toArray, List.set_cons_zero, List.set_cons_succ]
    refine wpAnyH_take (i := 14) (oi := _) (v := ?_) rfl (by kernel_rfl) (by kernel_rfl) (by kernel_rfl) (fun _ _ _ h => h) (Or.inl ⟨by rfl, ?_⟩) (by assumption) ?_
    rotate_left
    · intro w hSw; go_simp; with_reducible rfl
    simp only [Act.put, List.getElem_toArray, List.getElem_cons_zero, List.getElem_cons_succ, List.setIfInBounds_toArray, List.set_cons_zero, List.set_cons_succ]
    refine wpAnyH_take (i := 15) (oi := _) (v := ?_) rfl (by kernel_rfl) (by kernel_rfl) (by kernel_rfl) (fun _ _ _ h => h) (Or.inl ⟨by rfl, ?_⟩) (by assumption) ?_
    rotate_left
    · intro w hSw; go_simp; with_reducible rfl
    simp only [Act.put, List.getElem_toArray, List.getElem_cons_zero, List.getElem_cons_succ, List.setIfInBounds_toArray, List.set_cons_zero, List.set_cons_succ]
    refine wpAnyH_done (by kernel_rfl) ?_ _
    have HZ := hid (bl_then hL2.bl hb3)
    go_wp2
    go_ret2
    exact ⟨by rw [hlen2.out, HDQ.out]; rfl, HZ.out⟩
set_option maxHeartbeats 1000000 in
set_option maxRecDepth 100000 in
theorem specDetour (w : World) (h : NetIs w A n c A' m d xs fs) (hr : RtIs w R ids.length er ids) (s : Int) :
    Calls Try.prog 43 #[.agg #[.slice A n c, .slice A' m d], .agg #[.int .i64 s, .slice R ids.length er]] w fun e w' => e = .returned (.tuple #[.int .i64 (detI xs fs s ids), .bool (routeB xs fs s ids)]) ∧ Below w.heap.size w w' := by
  have hS := ((Led.nil w).blk_ w.heap.size rfl 35 #[.slice A n c, .slice A' m d]).blk_ (w.heap.size + 1) (by simp) 37 #[.int .i64 s, .slice R ids.length er]
  cases g : routeB xs fs s ids
  · have H : Hid (detI xs fs s ids = 0) := by unfold Hid detI; rw [g]; rfl
    go_enter Try.func43, Try.ntmps43
    go_wp2_with fail
    refine (l4Good_any _ _ (h.grow hS.bl) (hr.grow hS.bl)).mono ?_
    rintro e w1 ⟨rfl, hb⟩
    rw [g]
    go_wp2_with fail
    go_ret2
    exact ⟨by rw [H.out]; rfl, bl_then hS.bl hb⟩
  · obtain ⟨hg, hrt⟩ := routeB_good g
    obtain ⟨he, hn0, hn8, hm14⟩ := good_parts h hg
    obtain ⟨p, q, rfl, hq, hpn, hqn, hqp⟩ := route_ends g
    rw [h.xlen] at hpn hqn hrt
    have H : Hid (detI xs fs (p : Int) ids = IntKind.i64.wrap ((1000 * lenR fs ids).tdiv (valL (distL (goneF []) fs n p) q))) := by unfold Hid detI; rw [g, hq, h.xlen]; rfl
    have hD := (distL_pos (q := goneF []) he (lens5_pos (goodB_lens5 hg)) hpn hqn).2 hqp
    have hlr := rt_lens g
    have HL := hid (goodB_lens hg)
    have HM := hid (rtB_mem hrt)
    have HL5 := hid (goodB_lens5 hg)
    have HE := hid he
    have HRT := hid hrt
    have HQ := hid hq
    have hdl : Hid ((distL (goneF []) fs n p).length = n) := distL_len
    rw [H.out]
    have HN := hid h
    have HR := hid hr
    go_enter Try.func43, Try.ntmps43
    go_wp2_with fail
    refine (l4Good_any _ _ (h.grow hS.bl) (hr.grow hS.bl)).mono ?_
    rintro e w1 ⟨rfl, hb⟩
    rw [g]
    replace hS := hS.step hb
    clear h hr he hg hrt hq hb
    have C0 : ∀ w', Cls w1 w' → w'.cell? ⟨w.heap.size, 0, none⟩ = some (.slice A n c) := fun _ h => h.cell (hS.cell 1 0 rfl rfl)
    have C1 : ∀ w', Cls w1 w' → w'.cell? ⟨w.heap.size, 1, none⟩ = some (.slice A' m d) := fun _ h => h.cell (hS.cell 1 1 rfl rfl)
    have C2 : ∀ w', Cls w1 w' → w'.cell? ⟨w.heap.size + 1, 0, none⟩ = some (.int .i64 (p : Int)) := fun _ h => h.cell (hS.cell 0 0 rfl rfl)
    have C3 : ∀ w', Cls w1 w' → w'.cell? ⟨w.heap.size + 1, 1, none⟩ = some (.slice R ids.length er) := fun _ h => h.cell (hS.cell 0 1 rfl rfl)
    have HLL := hid (fun w' (h : Cls w1 w') => hS.step h)
    generalize hlenR : lenR fs ids = lr at *
    have iw : IntKind.i64.wrap (1000 * lr) = 1000 * lr := IntWalk.i64_in _ (by omega)
    have iq : (q : Int) < (n : Int) := by omega
    generalize hDq : valL (distL (goneF []) fs n p) q = Dq at *
    have HDQ := hid hDq
    have hlen2 := hid hlenR
    clear hDq hlenR
    have hne : Dq ≠ 0 := by omega
    have hne2 : (Dq == 0) = false := by simpa using hne
    go_wp2_with fail
    refine wp_region_held_drew (S := fun w' => Cls w1 w') (by kernel_rfl) (Cls.drew _) (fun hHeld => ?_)
    refine wpAnyH_take (i := 0) (oi := _) (v := ?_) rfl (by kernel_rfl) (by kernel_rfl) (by kernel_rfl) (fun _ _ _ h => h) (Or.inl ⟨by rfl, ?_⟩) (by assumption) ?_
    rotate_left
    · intro w hSw; go_simp; with_reducible rfl
    simp only [Act.put, List.getElem_toArray, List.getElem_cons_zero, List.setIfInBounds_toArray, List.set_cons_zero, List.set_cons_succ]
    refine wpAnyH_take (i := 1) (oi := _) (v := ?_) rfl (by kernel_rfl) (by kernel_rfl) (by kernel_rfl) (fun _ _ _ h => h) (Or.inl ⟨by rfl, ?_⟩) (by assumption) ?_
    rotate_left
    · intro w hSw; go_simp; with_reducible rfl
    simp only [Act.put, List.getElem_toArray, List.getElem_cons_zero, List.getElem_cons_succ, List.setIfInBounds_toArray, List.set_cons_zero, List.set_cons_succ]
    refine wpAnyH_take (i := 4) (oi := _) (v := ?_) rfl (by kernel_rfl) (by kernel_rfl) (by kernel_rfl) (fun _ _ _ h => h) (Or.inl ⟨by rfl, ?_⟩) (by assumption) ?_
    rotate_left
    · intro w hSw; go_simp; with_reducible rfl
    simp only [Act.put, List.getElem_toArray, List.getElem_cons_zero, List.getElem_cons_succ, List.setIfInBounds_toArray, List.set_cons_zero, List.set_cons_succ]
    refine wpAnyH_take (i := 5) (oi := _) (v := ?_) rfl (by kernel_rfl) (by kernel_rfl) (by kernel_rfl) (fun _ _ _ h => h) (Or.inl ⟨by rfl, ?_⟩) (by assumption) ?_
    rotate_left
    · intro w hSw; go_simp; with_reducible rfl
    simp only [Act.put, List.getElem_toArray, List.getElem_cons_zero, List.getElem_cons_succ, List.setIfInBounds_toArray, List.set_cons_zero, List.set_cons_succ]
    refine wpAnyH_take (i := 6) (oi := _) (v := ?_) rfl (by kernel_rfl) (by kernel_rfl) (by kernel_rfl) (fun _ _ _ h => h) (Or.inl ⟨by rfl, ?_⟩) (by assumption) ?_
    rotate_left
    · intro w hSw; go_simp; with_reducible rfl
    simp only [Act.put, List.getElem_toArray, List.getElem_cons_zero, List.getElem_cons_succ, List.setIfInBounds_toArray, List.set_cons_zero, List.set_cons_succ]
    refine wpAnyH_take (i := 9) (oi := _) (v := ?_) rfl (by kernel_rfl) (by kernel_rfl) (by kernel_rfl) (fun _ _ _ h => h) (Or.inl ⟨by rfl, ?_⟩) (by assumption) ?_
    rotate_left
    · intro w hSw; go_simp; with_reducible rfl
    simp only [Act.put, List.getElem_toArray, List.getElem_cons_zero, List.getElem_cons_succ, List.setIfInBounds_toArray, List.set_cons_zero, List.set_cons_succ]
    refine wpAnyH_take (i := 10) (oi := _) (v := ?_) rfl (by kernel_rfl) (by kernel_rfl) (by kernel_rfl) (fun _ _ _ h => h) (Or.inl ⟨by rfl, ?_⟩) (by assumption) ?_
    rotate_left
    · intro w hSw; go_simp; with_reducible rfl
    simp only [Act.put, List.getElem_toArray, List.getElem_cons_zero, List.getElem_cons_succ, List.setIfInBounds_toArray, List.set_cons_zero, List.set_cons_succ]
    refine wpAnyH_ready (rs := [2, 7]) (by kernel_rfl) (by simp) ?_
    refine AllReadyH.cons rfl (fun K hK => ?_) ?_
    · skip
      go_simp
      refine (l4Length_any _ (HN.out.grow (HLL.out _ (by assumption)).bl) (HR.out.grow (HLL.out _ (by assumption)).bl) HM.out HL.out).mono ?_
      rintro e w2 ⟨rfl, hb1⟩
      rw [hlen2.out]
      go_wp2_with fail
      refine hK.out _ _ (Cls.next hb1 (by assumption)) (fun hHeld => ?_)
      clear hK K
      try simp only [Act.put, List.getElem_toArray, List.getElem_cons_zero, List.getElem_cons_succ, List.setIfInBounds_toArray, List.set_cons_zero, List.set_cons_succ]
      refine wpAnyH_take (i := 3) (oi := _) (v := ?_) rfl (by kernel_rfl) (by kernel_rfl) (by kernel_rfl) (fun _ _ _ h => h) (Or.inl ⟨by rfl, ?_⟩) (by assumption) ?_
      rotate_left
      · intro w hSw; go_simp; with_reducible rfl
      simp only [Act.put, List.getElem_toArray, List.getElem_cons_zero, List.getElem_cons_succ, List.setIfInBounds_toArray, List.set_cons_zero, List.set_cons_succ]
      refine wpAnyH_ready (rs := [7]) (by kernel_rfl) (by simp) ?_
      refine AllReadyH.cons rfl (fun K hK => ?_) AllReadyH.nil
      go_simp
      go_wp2_with fail
      refine hK.out _ _ (by first | exact bl_alloc (by assumption) _ | exact (bl_alloc (Below.refl _ _) _).drew) (fun hHeld => ?_)
      clear hK K
      try simp only [Act.put, List.getElem_toArray, List.getElem_cons_zero, List.getElem_cons_succ, List.setIfInBounds_toArray, List.set_cons_zero, List.set_cons_succ]
      refine wpAnyH_ready (rs := [8]) (by kernel_rfl) (by simp) ?_
      refine AllReadyH.cons rfl (fun K hK => ?_) AllReadyH.nil
      go_simp
      refine (l5Distances_any (l := []) p _ (HN.out.grow (HLL.out _ (by assumption)).bl) (Sees.nil elInt _ 0 _) (by decide) HE.out HL5.out hpn hn8 hm14).mono ?_
      rintro e w3 ⟨v, rfl, ho, hb2⟩
      obtain ⟨g2, c2, rfl⟩ := ho.splitg hdl.out hn0
      have hL2 := (HLL.out _ (by assumption)).owns hb2 ho
      go_wp2_with fail
      refine hK.out _ _ (Cls.next hb2 (by assumption)) (fun hHeld => ?_)
      clear hK K
      try simp only [Act.put, List.getElem_toArray, List.getElem_cons_zero, List.getElem_cons_succ, List.setIfInBounds_toArray, List.set_cons_zero, List.set_cons_succ]
      refine wpAnyH_mono (S' := fun w' => Cls w1 w' ∧ Cls w3 w') (fun _ h => h.1) _ _ _ _ ?_
      have V0 : ∀ w', Cls w3 w' → w'.cell? ⟨g2, q, none⟩ = some (.int .i64 Dq) := fun _ h => h.cell (by rw [← HDQ.out]; exact hL2.int_at 0 rfl (j := q) (by rw [hdl.out]; exact hqn))
      have hS2 : Cls w1 w3 ∧ Cls w3 w3 := ⟨by assumption, Cls.refl _⟩
      refine wpAnyH_ready (rs := [11]) (by kernel_rfl) (by simp) ?_
      refine AllReadyH.cons rfl (fun K hK => ?_) AllReadyH.nil
      go_simp
      refine (l4End_any _ (HN.out.grow hL2.bl) (HR.out.grow hL2.bl) HRT.out).mono ?_
      rintro e w4 ⟨rfl, hb3⟩
      rw [HQ.out]
      go_wp2_with fail
      refine hK.out _ _ (⟨Cls.next hb3 hS2.1, Cls.next hb3 hS2.2⟩) (fun hHeld => ?_)
      clear hK K
      try simp only [Act.put, List.getElem_toArray, List.getElem_cons_zero, List.getElem_cons_succ, List.setIfInBounds_toArray, List.set_cons_zero, List.set_cons_succ]
      refine wpAnyH_take (i := 12) (oi := _) (v := ?_) rfl (by kernel_rfl) (by kernel_rfl) (by kernel_rfl) (fun _ _ _ h => h) (Or.inl ⟨by rfl, ?_⟩) (by assumption) ?_
      rotate_left
      · intro w hSw; go_simp; with_reducible rfl
      simp only [Act.put, List.getElem_toArray, List.getElem_cons_zero, List.getElem_cons_succ, List.setIfInBounds_toArray, List.set_cons_zero, List.set_cons_succ]
      refine wpAnyH_take (i := 13) (oi := _) (v := ?_) rfl (by kernel_rfl) (by kernel_rfl) (by kernel_rfl) (fun _ _ _ h => h) (Or.inl ⟨by rfl, ?_⟩) (by assumption) ?_
      rotate_left
      · intro w hSw; go_simp; with_reducible rfl
      simp only [Act.put, List.getElem_toArray, List.getElem_cons_zero, List.getElem_cons_succ, List.setIfInBounds_toArray, List.set_cons_zero, List.set_cons_succ]
      refine wpAnyH_take (i := 14) (oi := _) (v := ?_) rfl (by kernel_rfl) (by kernel_rfl) (by kernel_rfl) (fun _ _ _ h => h) (Or.inl ⟨by rfl, ?_⟩) (by assumption) ?_
      rotate_left
      · intro w hSw; go_simp; with_reducible rfl
      simp only [Act.put, List.getElem_toArray, List.getElem_cons_zero, List.getElem_cons_succ, List.setIfInBounds_toArray, List.set_cons_zero, List.set_cons_succ]
      refine wpAnyH_take (i := 15) (oi := _) (v := ?_) rfl (by kernel_rfl) (by kernel_rfl) (by kernel_rfl) (fun _ _ _ h => h) (Or.inl ⟨by rfl, ?_⟩) (by assumption) ?_
      rotate_left
      · intro w hSw; go_simp; with_reducible rfl
      simp only [Act.put, List.getElem_toArray, List.getElem_cons_zero, List.getElem_cons_succ, List.setIfInBounds_toArray, List.set_cons_zero, List.set_cons_succ]
      refine wpAnyH_take (i := 16) (oi := _) (v := ?_) rfl (by kernel_rfl) (by kernel_rfl) (by kernel_rfl) (fun _ _ _ h => h) (Or.inl ⟨by rfl, ?_⟩) (by assumption) ?_
      rotate_left
      · intro w hSw; go_simp; with_reducible rfl
      simp only [Act.put, List.getElem_toArray, List.getElem_cons_zero, List.getElem_cons_succ, List.setIfInBounds_toArray, List.set_cons_zero, List.set_cons_succ]
      refine wpAnyH_done (by kernel_rfl) ?_ _
      have HZ := hid (bl_then hL2.bl hb3)
      go_wp2
      go_ret2
      exact ⟨by rw [hlen2.out, HDQ.out]; rfl, HZ.out⟩
    refine AllReadyH.cons rfl (fun K hK => ?_) AllReadyH.nil
    go_simp
    go_wp2_with fail
    refine hK.out _ _ (by first | exact bl_alloc (by assumption) _ | exact (bl_alloc (Below.refl _ _) _).drew) (fun hHeld => ?_)
    clear hK K
    try simp only [Act.put, List.getElem_toArray, List.getElem_cons_zero, List.getElem_cons_succ, List.setIfInBounds_toArray, List.set_cons_zero, List.set_cons_succ]
    refine wpAnyH_ready (rs := [2]) (by kernel_rfl) (by simp) ?_
    refine AllReadyH.cons rfl (fun K hK => ?_) AllReadyH.nil
    go_simp
    refine (l4Length_any _ (HN.out.grow (HLL.out _ (by assumption)).bl) (HR.out.grow (HLL.out _ (by assumption)).bl) HM.out HL.out).mono ?_
    rintro e w2 ⟨rfl, hb1⟩
    rw [hlen2.out]
    go_wp2_with fail
    refine hK.out _ _ (Cls.next hb1 (by assumption)) (fun hHeld => ?_)
    clear hK K
    try simp only [Act.put, List.getElem_toArray, List.getElem_cons_zero, List.getElem_cons_succ, List.setIfInBounds_toArray, List.set_cons_zero, List.set_cons_succ]
    refine wpAnyH_take (i := 3) (oi := _) (v := ?_) rfl (by kernel_rfl) (by kernel_rfl) (by kernel_rfl) (fun _ _ _ h => h) (Or.inl ⟨by rfl, ?_⟩) (by assumption) ?_
    rotate_left
    · intro w hSw; go_simp; with_reducible rfl
    simp only [Act.put, List.getElem_toArray, List.getElem_cons_zero, List.getElem_cons_succ, List.setIfInBounds_toArray, List.set_cons_zero, List.set_cons_succ]
    refine wpAnyH_ready (rs := [8]) (by kernel_rfl) (by simp) ?_
    refine AllReadyH.cons rfl (fun K hK => ?_) AllReadyH.nil
    go_simp
    refine (l5Distances_any (l := []) p _ (HN.out.grow (HLL.out _ (by assumption)).bl) (Sees.nil elInt _ 0 _) (by decide) HE.out HL5.out hpn hn8 hm14).mono ?_
    rintro e w3 ⟨v, rfl, ho, hb2⟩
    obtain ⟨g2, c2, rfl⟩ := ho.splitg hdl.out hn0
    have hL2 := (HLL.out _ (by assumption)).owns hb2 ho
    go_wp2_with fail
    refine hK.out _ _ (Cls.next hb2 (by assumption)) (fun hHeld => ?_)
    clear hK K
    try simp only [Act.put, List.getElem_toArray, List.getElem_cons_zero, List.getElem_cons_succ, List.setIfInBounds_toArray, List.set_cons_zero, List.set_cons_succ]
    refine wpAnyH_mono (S' := fun w' => Cls w1 w' ∧ Cls w3 w') (fun _ h => h.1) _ _ _ _ ?_
    have V0 : ∀ w', Cls w3 w' → w'.cell? ⟨g2, q, none⟩ = some (.int .i64 Dq) := fun _ h => h.cell (by rw [← HDQ.out]; exact hL2.int_at 0 rfl (j := q) (by rw [hdl.out]; exact hqn))
    have hS2 : Cls w1 w3 ∧ Cls w3 w3 := ⟨by assumption, Cls.refl _⟩
    refine wpAnyH_ready (rs := [11]) (by kernel_rfl) (by simp) ?_
    refine AllReadyH.cons rfl (fun K hK => ?_) AllReadyH.nil
    go_simp
    refine (l4End_any _ (HN.out.grow hL2.bl) (HR.out.grow hL2.bl) HRT.out).mono ?_
    rintro e w4 ⟨rfl, hb3⟩
    rw [HQ.out]
    go_wp2_with fail
    refine hK.out _ _ (⟨Cls.next hb3 hS2.1, Cls.next hb3 hS2.2⟩) (fun hHeld => ?_)
    clear hK K
    try simp only [Act.put, List.getElem_toArray, List.getElem_cons_zero, List.getElem_cons_succ, List.setIfInBounds_toArray, List.set_cons_zero, List.set_cons_succ]
    refine wpAnyH_take (i := 12) (oi := _) (v := ?_) rfl (by kernel_rfl) (by kernel_rfl) (by kernel_rfl) (fun _ _ _ h => h) (Or.inl ⟨by rfl, ?_⟩) (by assumption) ?_
    rotate_left
    · intro w hSw; go_simp; with_reducible rfl
    simp only [Act.put, List.getElem_toArray, List.getElem_cons_zero, List.getElem_cons_succ, List.setIfInBounds_toArray, List.set_cons_zero, List.set_cons_succ]
    refine wpAnyH_take (i := 13) (oi := _) (v := ?_) rfl (by kernel_rfl) (by kernel_rfl) (by kernel_rfl) (fun _ _ _ h => h) (Or.inl ⟨by rfl, ?_⟩) (by assumption) ?_
    rotate_left
    · intro w hSw; go_simp; with_reducible rfl
    simp only [Act.put, List.getElem_toArray, List.getElem_cons_zero, List.getElem_cons_succ, List.setIfInBounds_toArray, List.set_cons_zero, List.set_cons_succ]
    refine wpAnyH_take (i := 14) (oi := _) (v := ?_) rfl (by kernel_rfl) (by kernel_rfl) (by kernel_rfl) (fun _ _ _ h => h) (Or.inl ⟨by rfl, ?_⟩) (by assumption) ?_
    rotate_left
    · intro w hSw; go_simp; with_reducible rfl
    simp only [Act.put, List.getElem_toArray, List.getElem_cons_zero, List.getElem_cons_succ, List.setIfInBounds_toArray, List.set_cons_zero, List.set_cons_succ]
    refine wpAnyH_take (i := 15) (oi := _) (v := ?_) rfl (by kernel_rfl) (by kernel_rfl) (by kernel_rfl) (fun _ _ _ h => h) (Or.inl ⟨by rfl, ?_⟩) (by assumption) ?_
    rotate_left
    · intro w hSw; go_simp; with_reducible rfl
    simp only [Act.put, List.getElem_toArray, List.getElem_cons_zero, List.getElem_cons_succ, List.setIfInBounds_toArray, List.set_cons_zero, List.set_cons_succ]
    refine wpAnyH_take (i := 16) (oi := _) (v := ?_) rfl (by kernel_rfl) (by kernel_rfl) (by kernel_rfl) (fun _ _ _ h => h) (Or.inl ⟨by rfl, ?_⟩) (by assumption) ?_
    rotate_left
    · intro w hSw; go_simp; with_reducible rfl
    simp only [Act.put, List.getElem_toArray, List.getElem_cons_zero, List.getElem_cons_succ, List.setIfInBounds_toArray, List.set_cons_zero, List.set_cons_succ]
    refine wpAnyH_done (by kernel_rfl) ?_ _
    have HZ := hid (bl_then hL2.bl hb3)
    go_wp2
    go_ret2
    exact ⟨by rw [hlen2.out, HDQ.out]; rfl, HZ.out⟩
end
end Go.Proofs.Ytjklphlgmlomjaa
/- Routes in the ledger: equal, marked, held. Conditions: at most 1048576 fibers; marks below 2^40. -/
namespace Go.Proofs.Ytjklphlgmlomjaa
open Go.RowKit
variable {w0 : World} {L : List Thing} {base base' c c' : Nat} {A A' : Option Addr} {ids : List Int}
set_option maxHeartbeats 1000000 in
set_option maxRecDepth 100000 in
theorem markR_led {w : World} (h : Led w0 w L) (i : Nat) (hi : L[i]? = some (tOwns elInt base 3 (.slice A ids.length c) ids)) (s k : Int) (hn : ids.length ≤ 1048576) (hk0 : 0 ≤ k) (hk : k ≤ 1099511627776) :
    Calls Try.prog 26 #[.agg #[.int .i64 s, .slice A ids.length c], .int .i64 k] w fun e w' => e = .returned (.int .i64 (k + ids.length)) ∧ Led w0 w' (L.set i (tOwns elInt base 3 (.slice A ids.length c) (marks k ids.length))) := by
  have h0 := h.blk 37 #[.int .i64 s, .slice A ids.length c]
  go_enter Try.func26, Try.ntmps26
  go_wp2_with fail
  refine (markI_led h0 (i + 1) (by simpa using hi) k hn hk0 hk).mono ?_
  rintro e w1 ⟨rfl, h1⟩
  have h2 : Led w0 w1 (L.set i (tOwns elInt base 3 (.slice A ids.length c) (marks k ids.length))) := h1.drop 1
  go_wp2_with fail
  go_ret
  exact ⟨rfl, h2⟩
set_option maxHeartbeats 1000000 in
set_option maxRecDepth 100000 in
theorem heldR_led {w : World} (h : Led w0 w L) (i : Nat) (s k : Int) {n : Nat} (hi : L[i]? = some (tOwns elInt base 3 (.slice A n c) (marks k n))) (hn : n ≤ 1048576) (hk0 : 0 ≤ k) (hk : k ≤ 1099511627776) :
    Calls Try.prog 27 #[.agg #[.int .i64 s, .slice A n c], .int .i64 k] w fun e w' => e = .returned (.int .i64 (k + n)) ∧ Led w0 w' L := by
  have h0 := h.blk 37 #[.int .i64 s, .slice A n c]
  go_enter Try.func27, Try.ntmps27
  go_wp2_with fail
  refine (heldI_led h0 (i + 1) k (by simpa using hi) hn hk0 hk).mono ?_
  rintro e w1 ⟨rfl, h1⟩
  have h2 : Led w0 w1 L := h1.drop 1
  go_wp2_with fail
  go_ret
  exact ⟨rfl, h2⟩
theorem eqR_led2 {w : World} (h : Led w0 w L) (i j : Nat) (hi : L[i]? = some (tOwns elInt base 3 (.slice A ids.length c) ids)) (hj : L[j]? = some (tOwns elInt base' 3 (.slice A' ids.length c') ids)) (s : Int) (hn : ids.length ≤ 1048576) :
    Calls Try.prog 22 #[.agg #[.int .i64 s, .slice A ids.length c], .agg #[.int .i64 s, .slice A' ids.length c']] w fun e w' => e = .returned (.bool true) ∧ Led w0 w' L ∧ Below w.heap.size w w' :=
  (eqRoute_any s w (h.seesI i hi) (h.seesI j hj) hn).mono fun _ _ ⟨he, hw⟩ => ⟨he, h.step hw, hw⟩
theorem eqR_led {w : World} (h : Led w0 w L) (i j : Nat) (hi : L[i]? = some (tOwns elInt base 3 (.slice A ids.length c) ids)) (hj : L[j]? = some (tOwns elInt base' 3 (.slice A' ids.length c') ids)) (s : Int) (hn : ids.length ≤ 1048576) :
    Calls Try.prog 22 #[.agg #[.int .i64 s, .slice A ids.length c], .agg #[.int .i64 s, .slice A' ids.length c']] w fun e w' => e = .returned (.bool true) ∧ Led w0 w' L :=
  (eqR_led2 h i j hi hj s hn).mono fun _ _ ⟨he, hw, _⟩ => ⟨he, hw⟩
end Go.Proofs.Ytjklphlgmlomjaa
/- A route that came in. Conditions: none. -/
namespace Go.Proofs.Ytjklphlgmlomjaa
open Go.ChangeShapes Go.WideShapes Go.ChangeAt Go.RowKit Go.Deep Go.Joins
section
variable {H : Type} {enc : TypeId × Value → H} {W : World} {spare : Nat → Bool} {held : Bool}
theorem cellsR : Try.prog.cellsOf 28 = 2 := by kernel_rfl
/-- A route that came in. -/
def RouteArg (W : World) (s : Int) (A : Option Addr) (n c : Nat) (xs : List Int) : Prop := (-9223372036854775808 ≤ s ∧ s ≤ 9223372036854775807) ∧ IntsArg W A n c xs
set_option maxRecDepth 100000 in
theorem open_route {base : Nat} {v : Value} {d : DataW H} {p : List MemPlace} (hv : Value.okWide Try.prog W .any base 28 v) (h : DataW.Trod enc Try.prog W 0 spare held 28 v d p) :
    ∃ s A n c xs, v = .agg #[.int .i64 s, .slice A n c] ∧ RouteArg W s A n c xs := by
  obtain ⟨v0, v1, y0, y1, k, rfl, _, _, h0, h1⟩ := open_agg2 Try.underlying28 (by kernel_rfl) cellsR hv h
  obtain ⟨s, e0, hs⟩ := el_int Try.underlying3 _ _ _ h0
  obtain ⟨A, n, c, xs, e1, b1, b2, b3, b4⟩ := open_sl elInt _ Try.underlying26 cellsI (el_int Try.underlying3) h1
  simp [elInt] at e0 e1
  exact ⟨s, A, n, c, xs, by rw [e0, e1], hs, ⟨b1, b2, b3, b4⟩⟩
end
end Go.Proofs.Ytjklphlgmlomjaa
/- FnExactDetourFactor, walked. Conditions: none. -/
namespace Go.Proofs.Ytjklphlgmlomjaa.fnExactDetourFactor
open Go.RowKit
set_option maxHeartbeats 2000000 in
set_option maxRecDepth 100000 in
theorem walk (w : World) {A0 E0 : Option Addr} {n0 c0 m0 d0 : Nat} {xs0 : List ByteArray} {fs0 : List Fib} (h0 : NetArg w A0 n0 c0 E0 m0 d0 xs0 fs0) {s1 : Int} {A1 : Option Addr} {k1 c1 : Nat} {l1 : List Int} (h1 : RouteArg w s1 A1 k1 c1 l1) :
    Calls Try.prog 11 #[.agg #[.slice A0 n0 c0, .slice E0 m0 d0], .agg #[.int .i64 s1, .slice A1 k1 c1]] w fun e w' => e = .returned (.bool true) ∧ Below w.heap.size w w' := by
  obtain ⟨⟨h0nc, h0cm, h0A, h0x⟩, ⟨h0md, h0dm, h0F, _⟩⟩ := h0
  obtain ⟨_, h1nc, h1cm, h1A, _⟩ := h1
  obtain rfl := h1A.len
  have hS := Led.nil w
  replace hS := hS.blk_ (w.heap.size) (by simp) 25 #[.slice A0 n0 c0, .slice E0 m0 d0]
  replace hS := hS.blk_ (w.heap.size + 1) (by simp) 28 #[.int .i64 s1, .slice A1 l1.length c1]
  obtain ⟨r0, hr0⟩ : ∃ r, r = lessI 1048576 (netTot xs0 fs0) := ⟨_, rfl⟩
  have hlb0 := lessI_bd (left := 1048576) (t := (netTot xs0 fs0))
  rw [← hr0] at hlb0
  have HR0 := hid hr0
  clear hr0
  rcases hlb0 with ⟨hz0, _⟩ | ⟨hz0, hy0, hx0⟩
  case inl =>
    subst hz0
    go_enter Try.func11, Try.ntmps11
    go_wp2_with fail
    refine (szNetwork_any 1048576 _ (h0A.below hS.bl) (h0F.below hS.bl) hS.bl.size (by omega) (by omega) h0x (by omega) (by omega)).mono ?_
    rintro e W1 ⟨rfl, hb⟩; replace hS := hS.step hb; clear hb
    rw [← HR0.out]
    go_wp2_with fail
    go_ret
    exact ⟨rfl, hS.bl⟩
  have h0n : n0 ≤ 1048576 := by have := h0A.len; unfold netTot strTot at hx0; omega
  have h0m : m0 ≤ 1048576 := by have := h0F.len; unfold netTot strTot at hx0; omega
  have h0I := hid (show NetIs w A0 n0 c0 E0 m0 d0 xs0 fs0 from ⟨⟨h0nc, h0n⟩, ⟨h0md, h0m⟩, h0A, h0F, h0x⟩)
  clear hx0
  obtain ⟨r1, hr1⟩ : ∃ r, r = lessI r0 l1.length := ⟨_, rfl⟩
  have hlb1 := lessI_bd (left := r0) (t := l1.length)
  rw [← hr1] at hlb1
  have HR1 := hid hr1
  clear hr1
  rcases hlb1 with ⟨hz1, _⟩ | ⟨hz1, hy1, hx1⟩
  case inl =>
    subst hz1
    go_enter Try.func11, Try.ntmps11
    go_wp2_with fail
    refine (szNetwork_any 1048576 _ (h0A.below hS.bl) (h0F.below hS.bl) hS.bl.size (by omega) (by omega) h0x (by omega) (by omega)).mono ?_
    rintro e W1 ⟨rfl, hb⟩; replace hS := hS.step hb; clear hb
    rw [← HR0.out]
    have q0 := hS.cell 0 0 rfl rfl
    have q1 := hS.cell 0 1 rfl rfl
    go_wp2_with fail
    refine (szRoute_any s1 r0 _ (by omega) (by omega) (by omega)).mono ?_
    rintro e W2 ⟨rfl, hb⟩; replace hS := hS.step hb; clear hb
    rw [← HR1.out]
    clear q0 q1
    go_wp2_with fail
    go_ret
    exact ⟨rfl, hS.bl⟩
  have h1n : l1.length ≤ 1048576 := by omega
  have h1I := hid (show RtIs w A1 l1.length c1 l1 from ⟨⟨h1nc, h1n⟩, h1A⟩)
  clear hx1
  go_enter Try.func11, Try.ntmps11
  go_wp2_with fail
  refine (szNetwork_any 1048576 _ (h0A.below hS.bl) (h0F.below hS.bl) hS.bl.size (by omega) (by omega) h0x (by omega) (by omega)).mono ?_
  rintro e W1 ⟨rfl, hb⟩; replace hS := hS.step hb; clear hb
  rw [← HR0.out]
  have q0 := hS.cell 0 0 rfl rfl
  have q1 := hS.cell 0 1 rfl rfl
  go_wp2_with fail
  refine (szRoute_any s1 r0 _ (by omega) (by omega) (by omega)).mono ?_
  rintro e W2 ⟨rfl, hb⟩; replace hS := hS.step hb; clear hb
  rw [← HR1.out]
  clear q0 q1
  -- the reference
  have C0 : ∀ w', Cls W2 w' → w'.cell? ⟨w.heap.size, 0, none⟩ = some (.slice A0 n0 c0) := fun _ h => h.cell (hS.cell 1 0 rfl rfl)
  have C1 : ∀ w', Cls W2 w' → w'.cell? ⟨w.heap.size, 1, none⟩ = some (.slice E0 m0 d0) := fun _ h => h.cell (hS.cell 1 1 rfl rfl)
  have C2 : ∀ w', Cls W2 w' → w'.cell? ⟨w.heap.size + 1, 0, none⟩ = some (.int .i64 s1) := fun _ h => h.cell (hS.cell 0 0 rfl rfl)
  have C3 : ∀ w', Cls W2 w' → w'.cell? ⟨w.heap.size + 1, 1, none⟩ = some (.slice A1 l1.length c1) := fun _ h => h.cell (hS.cell 0 1 rfl rfl)
  have HL := hid (fun w' (h : Cls W2 w') => hS.step h)
  go_wp2_with fail
  go_region_held3 (fun w' => Cls W2 w') (first | exact Cls.drew _ | exact Cls.next (by assumption) (by assumption))
    (first
      | (go_at_call 18; refine (toNetwork_own _ (h0I.out.grow (HL.out _ (by assumption)).bl).strs (h0I.out.grow (HL.out _ (by assumption)).bl).fibs (Nat.le_refl _) h0n h0m).mono ?_; rintro e w' ⟨Aw0, cw0, Ew0, dw0, rfl, ho_w0, hb_w0⟩; have hLw0 := (HL.out _ (by assumption)).net hb_w0 ho_w0)
      | (go_at_call 19; refine (toRoute_any s1 _ (h1I.out.grow hLw0.bl).2 (Nat.le_refl _) h1n).mono ?_; rintro e w' ⟨Aw1, cw1, rfl, _, ho_w1, hb_w1⟩; have hLw1 := hLw0.owns hb_w1 ho_w1)
      | (go_at_call 43; refine (specDetour _ (hLw1.netIs 1 rfl h0n h0m h0x) (hLw1.rt 0 rfl h1n) s1).mono ?_; rintro e w' ⟨rfl, hb⟩))
  have hS2 := hLw1
  clear HL C0 C1 C2 C3
  replace hS2 := hS2.step hb
  clear hS
  have hS := hS2
  clear hS2 hb hLw0 hb_w0 ho_w0 hLw1 hb_w1 ho_w1
  generalize w' = W3 at *
  -- the program on copies that are kept
  have q0 := hS.cell 3 0 rfl rfl
  have q1 := hS.cell 3 1 rfl rfl
  go_wp2_with fail
  refine (toNetwork_own _ (h0I.out.grow hS.bl).strs (h0I.out.grow hS.bl).fibs (Nat.le_refl _) h0n h0m).mono ?_
  rintro e W4 ⟨Ax0, cx0, Ex0, dx0, rfl, ho, hb⟩
  replace hS := hS.net hb ho
  clear hb ho
  clear q0 q1
  replace hS := hS.blk_ (W4.heap.size) (by simp) 35 #[.slice Ax0 n0 cx0, .slice Ex0 m0 dx0]
  have q0 := hS.cell 4 0 rfl rfl
  have q1 := hS.cell 4 1 rfl rfl
  go_wp2_with fail
  refine (toRoute_any s1 _ (h1I.out.grow hS.bl).2 (Nat.le_refl _) h1n).mono ?_
  rintro e W5 ⟨Ax1, cx1, rfl, _, ho, hb⟩
  replace hS := hS.owns hb ho
  clear hb ho
  clear q0 q1
  replace hS := hS.blk_ (W5.heap.size) (by simp) 37 #[.int .i64 s1, .slice Ax1 l1.length cx1]
  have q0 := hS.cell 2 0 rfl rfl
  have q1 := hS.cell 2 1 rfl rfl
  go_wp2_with fail
  refine (implDetour _ (hS.netIs 3 rfl h0n h0m h0x) (hS.rt 1 rfl h1n) s1).mono ?_
  rintro e W6 ⟨rfl, hb⟩
  replace hS := hS.step hb
  clear hb
  clear q0 q1
  -- the results are equal
  -- the arguments are as they were
  have C0 : ∀ w', Cls W6 w' → w'.cell? ⟨w.heap.size, 0, none⟩ = some (.slice A0 n0 c0) := fun _ h => h.cell (hS.cell 7 0 rfl rfl)
  have C1 : ∀ w', Cls W6 w' → w'.cell? ⟨w.heap.size, 1, none⟩ = some (.slice E0 m0 d0) := fun _ h => h.cell (hS.cell 7 1 rfl rfl)
  have C2 : ∀ w', Cls W6 w' → w'.cell? ⟨W4.heap.size, 0, none⟩ = some (.slice Ax0 n0 cx0) := fun _ h => h.cell (hS.cell 2 0 rfl rfl)
  have C3 : ∀ w', Cls W6 w' → w'.cell? ⟨W4.heap.size, 1, none⟩ = some (.slice Ex0 m0 dx0) := fun _ h => h.cell (hS.cell 2 1 rfl rfl)
  have HL := hid (fun w' (h : Cls W6 w') => hS.step h)
  go_wp2_with fail
  go_region_held3 (fun w' => Cls W6 w') (first | exact Cls.drew _ | exact Cls.next (by assumption) (by assumption))
    (first
      | (go_at_call 18; refine (toNetwork_own _ (h0I.out.grow (HL.out _ (by assumption)).bl).strs (h0I.out.grow (HL.out _ (by assumption)).bl).fibs (Nat.le_refl _) h0n h0m).mono ?_; rintro e w' ⟨Ay0, cy0, Ey0, dy0, rfl, ho1, hb1⟩; have hL1 := (HL.out _ (by assumption)).net hb1 ho1)
      | (go_at_call 21; refine (eqN_led2 hL1 4 0 rfl rfl h0n h0m).mono ?_; rintro e w' ⟨rfl, hS2, hb2⟩))
  clear HL hL1 ho1 hb1 hb2 C0 C1 C2 C3
  replace hS := hS2.drop 1
  clear hS2
  dsimp only [List.drop] at hS
  generalize w' = W7 at *
  have C0 : ∀ w', Cls W7 w' → w'.cell? ⟨w.heap.size + 1, 0, none⟩ = some (.int .i64 s1) := fun _ h => h.cell (hS.cell 6 0 rfl rfl)
  have C1 : ∀ w', Cls W7 w' → w'.cell? ⟨w.heap.size + 1, 1, none⟩ = some (.slice A1 l1.length c1) := fun _ h => h.cell (hS.cell 6 1 rfl rfl)
  have C2 : ∀ w', Cls W7 w' → w'.cell? ⟨W5.heap.size, 0, none⟩ = some (.int .i64 s1) := fun _ h => h.cell (hS.cell 0 0 rfl rfl)
  have C3 : ∀ w', Cls W7 w' → w'.cell? ⟨W5.heap.size, 1, none⟩ = some (.slice Ax1 l1.length cx1) := fun _ h => h.cell (hS.cell 0 1 rfl rfl)
  have HL := hid (fun w' (h : Cls W7 w') => hS.step h)
  go_wp2_with fail
  go_region_held3 (fun w' => Cls W7 w') (first | exact Cls.drew _ | exact Cls.next (by assumption) (by assumption))
    (first
      | (go_at_call 19; refine (toRoute_any s1 _ (h1I.out.grow (HL.out _ (by assumption)).bl).2 (Nat.le_refl _) h1n).mono ?_; rintro e w' ⟨Ay1, cy1, rfl, _, ho1, hb1⟩; have hL1 := (HL.out _ (by assumption)).owns hb1 ho1)
      | (go_at_call 22; refine (eqR_led2 hL1 2 0 rfl rfl s1 h1n).mono ?_; rintro e w' ⟨rfl, hS2, hb2⟩))
  clear HL hL1 ho1 hb1 hb2 C0 C1 C2 C3
  replace hS := hS2.drop 1
  clear hS2
  dsimp only [List.drop] at hS
  generalize w' = W8 at *
  go_wp2_with fail
  go_ret
  exact ⟨rfl, hS.bl⟩
end Go.Proofs.Ytjklphlgmlomjaa.fnExactDetourFactor
