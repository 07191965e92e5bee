/- FnAvoiding: the law returns true at every input; memory that was there reads as it did. Conditions: none. -/
import Derived.Test.YtjfafhehpfjofaaGreatZaf4372b58ce4
import Derived.Test.YtjfafhehpfjofaaGreatZ864e83883b1b
import Derived.Deep.RegionHeld3
import Derived.Test.YtjfafhehpfjofaaGreatZ9a562a3a5e02
import Derived.Test.YtjfafhehpfjofaaGreatZ366dab748d14
import Derived.Test.YtjfafhehpfjofaaGreatZ64393d360f58
import Derived.Test.YtjfafhehpfjofaaGreatRows
import Derived.Test.YtjfafhehpfjofaaGreatZ6bf9e9b909bb
/- DetourFactor of both sides, walked. Conditions: none. -/
namespace Go.Proofs.YtjfafhehpfjofaaGreat
open Go.RowKit
/-- A stronger word on the worlds serves. -/
theorem wpAnyH_mono {P : Program} {ops : Array Oper} {Q : Exit → Act → World → Prop} {md : Region.Mode} {S S' : World → Prop} (hS : ∀ w, S' w → S w) : ∀ (fuel : Nat) (listed : Array Bool) (a : Act) (w : World), wpAnyH P md ops Q S' fuel listed a w → wpAnyH P md ops Q S fuel listed a w
  | 0, _, _, _, h => h
  | fuel + 1, _, _, _, h => ⟨h.1, fun i hi => wpOp_mono (fun a' w' h' => ⟨hS w' h'.1, wpAnyH_mono hS fuel _ a' w' h'.2⟩) (h.2 i hi)⟩
/-- 1000 times the length over the distance. -/
def detI (xs : List ByteArray) (fs : List Fib) (s : Int) (ids : List Int) : Int := if routeB xs fs s ids then IntKind.i64.wrap ((1000 * lenR fs ids).tdiv (valL (distL (goneF []) fs xs.length s.toNat) (atW fs s ids ids.length).toNat)) else 0
section
variable {n c m d er : Nat} {A A' R : Option Addr} {xs : List ByteArray} {fs : List Fib} {ids : List Int}
theorem route_ends {xs : List ByteArray} {fs : List Fib} {s : Int} {ids : List Int} (h : routeB xs fs s ids = true) : ∃ p q : Nat, s = (p : Int) ∧ atW fs s ids ids.length = (q : Int) ∧ p < xs.length ∧ q < xs.length ∧ q ≠ p := by
  obtain ⟨hg, hr⟩ := routeB_good h
  have hf : ∀ f ∈ fs, fibB xs.length f = true := fun f hf => goodB_fibB hg hf
  have h1 := inB_idx (rtB_parts hr).1
  have h2 := outW_range hf hr ids.length (Nat.le_refl _) _ (List.mem_of_getElem? (outW_get fs s ids ids.length))
  have hnd := outW_nodup (rtB_parts hr).2.2 ids.length (Nat.le_refl _)
  have hl := (routeB_short h).2
  refine ⟨s.toNat, (atW fs s ids ids.length).toNat, by omega, by omega, by omega, by omega, fun e => ?_⟩
  have e2 : atW fs s ids ids.length = s := by omega
  have g0 : (outW fs s ids ids.length)[0]? = some s := by unfold outW; simp [atW]
  have g1 := outW_get fs s ids ids.length
  rw [e2] at g1
  have := (List.getElem?_inj (by rw [outW_len]; omega) hnd).1 (g0.trans g1.symm)
  omega
set_option maxHeartbeats 1000000 in
set_option maxRecDepth 100000 in
theorem implDetour (w : World) (h : NetIs w A n c A' m d xs fs) (hr : RtIs w R ids.length er ids) (s : Int) :
    Calls Tryz.prog 10 #[.agg #[.slice A n c, .slice A' m d], .agg #[.int .i64 s, .slice R ids.length er]] w fun e w' => e = .returned (.tuple #[.int .i64 (detI xs fs s ids), .bool (routeB xs fs s ids)]) ∧ Below w.heap.size w w' := by
  have hS := ((Led.nil w).blk_ w.heap.size rfl 27 #[.slice A n c, .slice A' m d]).blk_ (w.heap.size + 1) (by simp) 32 #[.int .i64 s, .slice R ids.length er]
  cases g : routeB xs fs s ids
  · have H : Hid (detI xs fs s ids = 0) := by unfold Hid detI; rw [g]; rfl
    go_enter Tryz.func10, Tryz.ntmps10
    go_wp2_with fail
    refine (implIsValidRoute _ _ (h.grow hS.bl) (hr.grow hS.bl)).mono ?_
    rintro e w1 ⟨rfl, hb⟩
    rw [g]
    go_wp2_with fail
    go_ret2
    exact ⟨by rw [H.out]; rfl, bl_then hS.bl hb⟩
  · obtain ⟨hg, hrt⟩ := routeB_good g
    obtain ⟨he, hn0, hn8, hm14⟩ := good_parts h hg
    obtain ⟨p, q, rfl, hq, hpn, hqn, hqp⟩ := route_ends g
    rw [h.xlen] at hpn hqn hrt
    have H : Hid (detI xs fs (p : Int) ids = IntKind.i64.wrap ((1000 * lenR fs ids).tdiv (valL (distL (goneF []) fs n p) q))) := by unfold Hid detI; rw [g, hq, h.xlen]; rfl
    have hD := (distL_pos (q := goneF []) he (lens5_pos (goodB_lens5 hg)) hpn hqn).2 hqp
    have hlr := rt_lens g
    have HL := hid (goodB_lens hg)
    have HM := hid (rtB_mem hrt)
    have HL5 := hid (goodB_lens5 hg)
    have HE := hid he
    have HRT := hid hrt
    have HQ := hid hq
    have hdl : Hid ((distL (goneF []) fs n p).length = n) := distL_len
    rw [H.out]
    have HN := hid h
    have HR := hid hr
    go_enter Tryz.func10, Tryz.ntmps10
    go_wp2_with fail
    refine (implIsValidRoute _ _ (h.grow hS.bl) (hr.grow hS.bl)).mono ?_
    rintro e w1 ⟨rfl, hb⟩
    rw [g]
    replace hS := hS.step hb
    clear h hr he hg hrt hq hb
    have C0 : ∀ w', Cls w1 w' → w'.cell? ⟨w.heap.size, 0, none⟩ = some (.slice A n c) := fun _ h => h.cell (hS.cell 1 0 rfl rfl)
    have C1 : ∀ w', Cls w1 w' → w'.cell? ⟨w.heap.size, 1, none⟩ = some (.slice A' m d) := fun _ h => h.cell (hS.cell 1 1 rfl rfl)
    have C2 : ∀ w', Cls w1 w' → w'.cell? ⟨w.heap.size + 1, 0, none⟩ = some (.int .i64 (p : Int)) := fun _ h => h.cell (hS.cell 0 0 rfl rfl)
    have C3 : ∀ w', Cls w1 w' → w'.cell? ⟨w.heap.size + 1, 1, none⟩ = some (.slice R ids.length er) := fun _ h => h.cell (hS.cell 0 1 rfl rfl)
    have HLL := hid (fun w' (h : Cls w1 w') => hS.step h)
    generalize hlenR : lenR fs ids = lr at *
    have iw : IntKind.i64.wrap (1000 * lr) = 1000 * lr := IntWalk.i64_in _ (by omega)
    have iq : (q : Int) < (n : Int) := by omega
    generalize hDq : valL (distL (goneF []) fs n p) q = Dq at *
    have HDQ := hid hDq
    have hlen2 := hid hlenR
    clear hDq hlenR
    have hne : Dq ≠ 0 := by omega
    have hne2 : (Dq == 0) = false := by simpa using hne
    go_wp2_with fail
    refine wp_region_held_drew (S := fun w' => Cls w1 w') (by kernel_rfl) (Cls.drew _) (fun hHeld => ?_)
    refine wpAnyH_take (i := 0) (oi := _) (v := ?_) rfl (by kernel_rfl) (by kernel_rfl) (by kernel_rfl) (fun _ _ _ h => h) (Or.inl ⟨by rfl, ?_⟩) (by assumption) ?_
    rotate_left
    · intro w hSw; go_simp; with_reducible rfl
    simp only [Act.put, List.getElem_toArray, List.getElem_cons_zero, List.setIfInBounds_toArray, List.set_cons_zero, List.set_cons_succ]
    refine wpAnyH_take (i := 1) (oi := _) (v := ?_) rfl (by kernel_rfl) (by kernel_rfl) (by kernel_rfl) (fun _ _ _ h => h) (Or.inl ⟨by rfl, ?_⟩) (by assumption) ?_
    rotate_left
    · intro w hSw; go_simp; with_reducible rfl
    simp only [Act.put, List.getElem_toArray, List.getElem_cons_zero, List.getElem_cons_succ, List.setIfInBounds_toArray, List.set_cons_zero, List.set_cons_succ]
    refine wpAnyH_take (i := 4) (oi := _) (v := ?_) rfl (by kernel_rfl) (by kernel_rfl) (by kernel_rfl) (fun _ _ _ h => h) (Or.inl ⟨by rfl, ?_⟩) (by assumption) ?_
    rotate_left
    · intro w hSw; go_simp; with_reducible rfl
    simp only [Act.put, List.getElem_toArray, List.getElem_cons_zero, List.getElem_cons_succ, List.setIfInBounds_toArray, List.set_cons_zero, List.set_cons_succ]
    refine wpAnyH_take (i := 5) (oi := _) (v := ?_) rfl (by kernel_rfl) (by kernel_rfl) (by kernel_rfl) (fun _ _ _ h => h) (Or.inl ⟨by rfl, ?_⟩) (by assumption) ?_
    rotate_left
    · intro w hSw; go_simp; with_reducible rfl
    simp only [Act.put, List.getElem_toArray, List.getElem_cons_zero, List.getElem_cons_succ, List.setIfInBounds_toArray, List.set_cons_zero, List.set_cons_succ]
    refine wpAnyH_take (i := 6) (oi := _) (v := ?_) rfl (by kernel_rfl) (by kernel_rfl) (by kernel_rfl) (fun _ _ _ h => h) (Or.inl ⟨by rfl, ?_⟩) (by assumption) ?_
    rotate_left
    · intro w hSw; go_simp; with_reducible rfl
    simp only [Act.put, List.getElem_toArray, List.getElem_cons_zero, List.getElem_cons_succ, List.setIfInBounds_toArray, List.set_cons_zero, List.set_cons_succ]
    refine wpAnyH_take (i := 8) (oi := _) (v := ?_) rfl (by kernel_rfl) (by kernel_rfl) (by kernel_rfl) (fun _ _ _ h => h) (Or.inl ⟨by rfl, ?_⟩) (by assumption) ?_
    rotate_left
    · intro w hSw; go_simp; with_reducible rfl
    simp only [Act.put, List.getElem_toArray, List.getElem_cons_zero, List.getElem_cons_succ, List.setIfInBounds_toArray, List.set_cons_zero, List.set_cons_succ]
    refine wpAnyH_take (i := 9) (oi := _) (v := ?_) rfl (by kernel_rfl) (by kernel_rfl) (by kernel_rfl) (fun _ _ _ h => h) (Or.inl ⟨by rfl, ?_⟩) (by assumption) ?_
    rotate_left
    · intro w hSw; go_simp; with_reducible rfl
    simp only [Act.put, List.getElem_toArray, List.getElem_cons_zero, List.getElem_cons_succ, List.setIfInBounds_toArray, List.set_cons_zero, List.set_cons_succ]
    refine wpAnyH_ready (rs := [2]) (by kernel_rfl) (by simp) ?_
    refine AllReadyH.cons rfl (fun K hK => ?_) AllReadyH.nil
    go_simp
    refine (lengthOf_any _ (HN.out.grow (HLL.out _ hHeld).bl) (HR.out.grow (HLL.out _ hHeld).bl) HM.out HL.out).mono ?_
    rintro e w2 ⟨rfl, hb1⟩
    rw [hlen2.out]
    go_wp2_with fail
    refine hK.out _ _ (Cls.next hb1 hHeld) (fun hHeld => ?_)
    clear hK K
    try simp only [Act.put, List.getElem_toArray, List.getElem_cons_zero, List.getElem_cons_succ, List.setIfInBounds_toArray, List.set_cons_zero, List.set_cons_succ]
    refine wpAnyH_take (i := 3) (oi := _) (v := ?_) rfl (by kernel_rfl) (by kernel_rfl) (by kernel_rfl) (fun _ _ _ h => h) (Or.inl ⟨by rfl, ?_⟩) (by assumption) ?_
    rotate_left
    · intro w hSw; go_simp; with_reducible rfl
    simp only [Act.put, List.getElem_toArray, List.getElem_cons_zero, List.getElem_cons_succ, List.setIfInBounds_toArray, List.set_cons_zero, List.set_cons_succ]
    refine wpAnyH_ready (rs := [7]) (by kernel_rfl) (by simp) ?_
    refine AllReadyH.cons rfl (fun K hK => ?_) AllReadyH.nil
    go_simp
    refine (lengthsFrom_any p _ (HN.out.grow (HLL.out _ (by assumption)).bl) HE.out HL5.out hpn hn8 hm14).mono ?_
    rintro e w3 ⟨v, rfl, ho, hb2⟩
    obtain ⟨g2, c2, rfl⟩ := ho.splitg hdl.out hn0
    rename_i hHeld2
    have hL2 := (HLL.out _ (by assumption)).owns hb2 ho
    go_wp2_with fail
    refine hK.out _ _ (Cls.next hb2 (by assumption)) (fun hHeld => ?_)
    clear hK K
    try simp only [Act.put, List.getElem_toArray, List.getElem_cons_zero, List.getElem_cons_succ, List.setIfInBounds_toArray, List.set_cons_zero, List.set_cons_succ]
    refine wpAnyH_mono (S' := fun w' => Cls w1 w' ∧ Cls w3 w') (fun _ h => h.1) _ _ _ _ ?_
    have V0 : ∀ w', Cls w3 w' → w'.cell? ⟨g2, q, none⟩ = some (.int .i64 Dq) := fun _ h => h.cell (by rw [← HDQ.out]; exact hL2.int_at 0 rfl (j := q) (by rw [hdl.out]; exact hqn))
    have hS2 : Cls w1 w3 ∧ Cls w3 w3 := ⟨by assumption, Cls.refl _⟩
    refine wpAnyH_ready (rs := [10]) (by kernel_rfl) (by simp) ?_
    refine AllReadyH.cons rfl (fun K hK => ?_) AllReadyH.nil
    go_simp
    refine (endOf_any _ (HN.out.grow hL2.bl) (HR.out.grow hL2.bl) HRT.out).mono ?_
    rintro e w4 ⟨rfl, hb3⟩
    rw [HQ.out]
    go_wp2_with fail
    refine hK.out _ _ (⟨Cls.next hb3 hS2.1, Cls.next hb3 hS2.2⟩) (fun hHeld => ?_)
    clear hK K
    try simp only [Act.put, List.getElem_toArray, List.getElem_cons_zero, List.getElem_cons_succ, List.setIfInBounds_toArray, List.set_cons_zero, List.set_cons_succ]
    refine wpAnyH_take (i := 11) (oi := _) (v := ?_) rfl (by kernel_rfl) (by kernel_rfl) (by kernel_rfl) (fun _ _ _ h => h) (Or.inl ⟨by rfl, ?_⟩) (by assumption) ?_
    rotate_left
    · intro w hSw; go_simp; with_reducible rfl
    simp only [Act.put, List.getElem_toArray, List.getElem_cons_zero, List.getElem_cons_succ, List.setIfInBounds_toArray, List.set_cons_zero, List.set_cons_succ]
    refine wpAnyH_take (i := 12) (oi := _) (v := ?_) rfl (by kernel_rfl) (by kernel_rfl) (by kernel_rfl) (fun _ _ _ h => h) (Or.inl ⟨by rfl, ?_⟩) (by assumption) ?_
    rotate_left
    · intro w hSw; go_simp; with_reducible rfl
    simp only [Act.put, List.getElem_toArray, List.getElem_cons_zero, List.getElem_cons_succ, List.setIfInBounds_toArray, List.set_cons_zero, List.set_cons_succ]
    refine wpAnyH_take (i := 13) (oi := _) (v := ?_) rfl (by kernel_rfl) (by kernel_rfl) (by kernel_rfl) (fun _ _ _ h => h) (Or.inl ⟨by rfl, ?_⟩) (by assumption) ?_
    rotate_left
    · intro w hSw; go_simp; with_reducible rfl
    simp only [Act.put, List.getElem_toArray, List.getElem_cons_zero, List.getElem_cons_succ, List.setIfInBounds_toArray, List.set_cons_zero, List.set_cons_succ]
    refine wpAnyH_take (i := 14) (oi := _) (v := ?_) rfl (by kernel_rfl) (by kernel_rfl) (by kernel_rfl) (fun _ _ _ h => h) (Or.inl ⟨by rfl, ?_⟩) (by assumption) ?_
    rotate_left
    · intro w hSw; go_simp; with_reducible rfl
    simp only [Act.put, List.getElem_toArray, List.getElem_cons_zero, List.getElem_cons_succ, List.setIfInBounds_toArray, List.set_cons_zero, List.set_cons_succ]
    refine wpAnyH_take (i := 15) (oi := _) (v := ?_) rfl (by kernel_rfl) (by kernel_rfl) (by kernel_rfl) (fun _ _ _ h => h) (Or.inl ⟨by rfl, ?_⟩) (by assumption) ?_
    rotate_left
    · intro w hSw; go_simp; with_reducible rfl
    simp only [Act.put, List.getElem_toArray, List.getElem_cons_zero, List.getElem_cons_succ, List.setIfInBounds_toArray, List.set_cons_zero, List.set_cons_succ]
    refine wpAnyH_done (by kernel_rfl) ?_ _
    have HZ := hid (bl_then hL2.bl hb3)
    go_wp2
    go_ret2
    exact ⟨by rw [hlen2.out, HDQ.out]; rfl, HZ.out⟩
end
end Go.Proofs.YtjfafhehpfjofaaGreat
/- What a route that avoids fibers holds, in plain Lean. Conditions: as each states. -/
namespace Go.Proofs.YtjfafhehpfjofaaGreat
open Go.RowKit
theorem avo_law {xs : List ByteArray} {fs : List Fib} {f t : Int} {l r : List Int} (h : avO xs fs f t l = some r) :
    (∀ x ∈ r, hasB l x = false) ∧ routeB xs fs f r = true ∧ 1000 ≤ detI xs fs f r ∧ ∃ q, feO xs fs f t = some q ∧ q.length ≤ r.length := by
  unfold avO at h
  cases g : avB xs fs f t l
  · rw [g] at h; cases h
  · rw [g, if_pos rfl] at h
    have hmc : mcB xs fs f t = true := by unfold avB at g; rw [Bool.and_eq_true] at g; exact g.1
    have hmc' := hmc
    unfold mcB at hmc'
    rw [Bool.and_eq_true, Bool.and_eq_true, Bool.and_eq_true] at hmc'
    obtain ⟨⟨⟨hg, hf1⟩, ht1⟩, hne⟩ := hmc'
    have hf2 := inB_idx hf1
    have ht2 := inB_idx ht1
    obtain ⟨s, rfl⟩ : ∃ s : Nat, f = (s : Int) := ⟨f.toNat, by omega⟩
    obtain ⟨to, rfl⟩ : ∃ to : Nat, t = (to : Int) := ⟨t.toNat, by omega⟩
    simp only [Int.toNat_natCast] at h
    have hst : s ≠ to := by intro e; subst e; simp at hne
    unfold frO at h
    have hm := (srtR_ok _).2.mem_iff.1 (List.mem_of_find?_eq_some h)
    have hp := List.find?_some h
    obtain ⟨hr, hend⟩ := rbL_rt (n := xs.length) (by omega) hm
    have hrb : routeB xs fs (s : Int) r = true := by unfold routeB; rw [hg, hr]; rfl
    have hfb : ∀ f ∈ fs, fibB xs.length f = true := fun f hf => goodB_fibB hg hf
    have he := goodB_ends hg
    have hl : lensB fs := fun i hi => by
      have h1 := goodB_lens5 hg i hi
      omega
    refine ⟨fun x hx => ?_, hrb, ?_, ?_⟩
    · unfold avQ at hp
      have h1 := List.all_eq_true.1 hp x hx
      have h2 := rtB_mem hr x hx
      rw [Bool.not_eq_true'] at h1
      unfold goneF at h1
      rw [Int.toNat_of_nonneg h2.1] at h1
      exact h1
    · have hd := dist_route hfb he hl (by omega) hr r.length (Nat.le_refl _)
      rw [hend, Int.toNat_natCast] at hd
      have hps := (distL_pos (q := goneF []) he hl (s := s) (by omega) (v := to) (by omega)).2 (by omega)
      have h35 := rt_lens hrb
      unfold detI
      rw [hrb, if_pos rfl, hend, Int.toNat_natCast, Int.toNat_natCast]
      have hle : rlTo fs r r.length = lenR fs r := rfl
      rw [hle] at hd
      have h1 : (1000 * lenR fs r).tdiv (valL (distL (goneF []) fs xs.length s) to) = (1000 * lenR fs r) / (valL (distL (goneF []) fs xs.length s) to) := Int.tdiv_eq_ediv_of_nonneg (by omega)
      rw [h1]
      generalize valL (distL (goneF []) fs xs.length s) to = D at *
      generalize lenR fs r = R at *
      have hD : 1 ≤ D := by omega
      have h2 : 1000 ≤ 1000 * R / D := (Int.le_ediv_iff_mul_le (by omega)).2 (Int.mul_le_mul_of_nonneg_left hd.2 (by decide))
      have h3 : 1000 * R / D ≤ 1000 * R := Int.ediv_le_self _ (by omega)
      rw [IntWalk.i64_in _ (by omega)]
      exact h2
    · unfold feO
      rw [hmc, if_pos rfl]
      simp only [Int.toNat_natCast]
      rw [← best_few]
      rcases best_of (few := true) (fs := fs) (s := (s : Int)) (rbL fs xs.length s to) with ⟨h1, _⟩ | ⟨m, h1, _, h3⟩
      · rw [h1] at hm; cases hm
      · refine ⟨m, h1, ?_⟩
        have h4 := h3 r hm
        unfold le2 at h4
        rw [if_pos rfl] at h4
        omega
end Go.Proofs.YtjfafhehpfjofaaGreat
/- FnAvoiding, walked. Conditions: none. -/
namespace Go.Proofs.YtjfafhehpfjofaaGreat
open Go.RowKit
set_option maxHeartbeats 1000000 in
set_option maxRecDepth 100000 in
theorem walkFnAvoiding (w : World) {A : Option Addr} {n c : Nat} {bs : List Int} (hA : BytesArg w A n c bs) : Calls Tryz.prog 3 #[.slice A n c] w fun e w' => e = .returned (.bool true) ∧ Below w.heap.size w w' := by
  obtain ⟨hcc, hcm, hS, hx⟩ := hA
  unfold maxLen at hcm
  by_cases hn : n ≤ 65536
  · have HS := hid hS
    have HX := hid hx
    clear hS hx
    go_enter Tryz.func3, Tryz.ntmps3
    go_wp2_with fail
    go_in
    go_wp2_with fail
    refine (drawAvoiding_any _ HS.out HX.out (by omega)).mono ?_
    rintro e w1 ⟨B, p, cb, E, m, d, xs, fs, f, t, V, cV, l, rfl, hD, hV, hVc, hV30⟩
    have HN := hid hD.net
    have HB1 := hid hD.bl
    have HV := hid hV
    have HVC := hid hVc
    have HV30 := hid hV30
    have H1 := hid ((Led.nil w1).blk_ w1.heap.size rfl 27 #[.slice B p cb, .slice E m d])
    clear hD HS HX hV hVc hV30
    have HP1 := hid (fun w' h => implShortestAvoiding (cg := cV) f t w' (HN.out.grow h) ((HV.out.grow h).more h.size) (by have := HV30.out; omega))
    have HP2 := hid (fun w' h => specShortestAvoiding (cg := cV) f t w' (HN.out.grow h) ((HV.out.grow h).more h.size) (by have := HV30.out; omega))
    have HP3 := hid (fun w' h => implFewestFibers f t w' (HN.out.grow h))
    have HAV := hid (fun r h => avo_law (xs := xs) (fs := fs) (f := f) (t := t) (l := l) (r := r) h)
    have HAL := hid (avO_len (xs := xs) (fs := fs) (f := f) (t := t) (l := l))
    obtain ⟨oA, hoA⟩ : ∃ oA, oA = avO xs fs f t l := ⟨_, rfl⟩
    rw [← hoA] at HP1 HP2 HAL HAV
    obtain ⟨ids, hids⟩ : ∃ ids, ids = frL oA := ⟨_, rfl⟩
    rw [← hids] at HP1 HP2 HAL
    obtain ⟨sr, hsr⟩ : ∃ sr, sr = frS oA f := ⟨_, rfl⟩
    rw [← hsr] at HP1 HP2
    have HIDS := hid hids
    have HSR := hid hsr
    clear hoA hids hsr
    go_wp2_with fail
    refine (HP1.out _ H1.out.bl).mono ?_
    rintro e w2 ⟨R, kr, rfl, ho, hb⟩
    have H2 := hid ((H1.out.owns_ (b0 := w1.heap.size) hb ho (Nat.le_refl _) H1.out.bl.size).blk_ w2.heap.size rfl 32 #[.int .i64 sr, .slice R ids.length kr])
    clear ho hb H1
    have q0 := H2.out.cell 2 0 rfl rfl
    have q1 := H2.out.cell 2 1 rfl rfl
    go_wp2_with fail
    refine (HP2.out _ H2.out.bl).mono ?_
    rintro e w3 ⟨R2, kr2, rfl, ho, hb⟩
    have H3 := hid ((H2.out.owns_ (b0 := w1.heap.size) hb ho (Nat.le_refl _) H2.out.bl.size).blk_ w3.heap.size rfl 32 #[.int .i64 sr, .slice R2 ids.length kr2])
    clear ho hb H2 q0 q1 HP1 HP2
    -- ledger: [wbox, want, rbox, r, nbox]
    have a0 := H3.out.cell 0 0 rfl rfl
    have a1 := H3.out.cell 0 1 rfl rfl
    have b0 := H3.out.cell 2 0 rfl rfl
    have b1 := H3.out.cell 2 1 rfl rfl
    have HVR := hid (vRoutes_same (e1 := kr) (e2 := kr2) sr _ (H3.out.seesI 3 rfl) (H3.out.seesI 1 rfl) (by have := HAL.out; omega) (Nat.le_refl _) (Nat.le_refl _))
    have hal8 := HAL.out
    have nO : (oA.isSome != oA.isSome) = false := by simp
    go_wp2_with fail
    refine HVR.out.mono ?_
    rintro e w4 ⟨rfl, hb⟩
    have H4 := hid ((H3.out.step hb).drop 2)
    clear hb H3 HVR a0 a1 b0 b1 nO
    -- ledger: [rbox, r, nbox]
    rcases (show oA = none ∨ ∃ r, oA = some r by cases oA; exact .inl rfl; exact .inr ⟨_, rfl⟩) with hO | ⟨r, hO⟩
    · subst hO
      have e0 : ((ids.length : Int) == 0) = true := by rw [HIDS.out]; rfl
      have b1 := H4.out.cell 0 1 rfl rfl
      go_wp2_with fail
      go_ret
      exact ⟨rfl, bl_then HB1.out H4.out.bl⟩
    · subst hO
      obtain rfl : ids = r := HIDS.out
      obtain rfl : sr = f := HSR.out
      obtain ⟨hno, hrb, hdet, few, hfew, hfl⟩ := HAV.out ids rfl
      have HNO := hid hno
      have HRB := hid hrb
      have HDET := hid hdet
      have HFEW := hid hfew
      clear hno hrb hdet hfew
      clear HIDS HSR
      go_wp2_with fail
      go_loopw [11] (fun i wr => ∃ k : Nat, k ≤ ids.length ∧ i = .int .i64 k ∧ Hid (Led w1 wr [tBlk w2.heap.size 32 #[.int .i64 sr, .slice R ids.length kr], tOwns elInt w1.heap.size 3 (.slice R ids.length kr) ids, tBlk w1.heap.size 27 #[.slice B p cb, .slice E m d]])) (fun i _ => ids.length - (intOf i).toNat)
      case atStart => exact ⟨0, Nat.zero_le _, rfl, H4⟩
      case round =>
        clear H4
        obtain ⟨k, hk, rfl, HS⟩ := hrel
        have b1 := HS.out.cell 0 1 rfl rfl
        by_cases hlt : k < ids.length
        · have iz : (k : Int) < (ids.length : Int) := by omega
          obtain ⟨g1, c1, hv⟩ := HS.out.row_ 1 rfl rfl (by omega)
          injection hv with hv1 _ hv3
          subst hv1; subst hv3
          have va := HS.out.int_at 1 rfl (j := k) hlt
          have hnk := HNO.out _ (List.mem_of_getElem? (valL_get hlt))
          have HVH := hid (vHas_any (c := cV) (valL ids k) _ ((HV.out.grow HS.out.bl).more HS.out.bl.size) (by have := HV30.out; unfold maxLen; omega))
          rw [hnk] at HVH
          obtain ⟨x, hx⟩ : ∃ x, x = valL ids k := ⟨_, rfl⟩
          rw [← hx] at va HVH
          clear hnk hx
          go_wp2_with fail
          refine HVH.out.mono ?_
          rintro e w5 ⟨rfl, rfl⟩
          clear HVH va b1
          go_wp2
          go_roundw
          case rel => exact ⟨k + 1, by omega, by go_num, HS⟩
          case measure => simp [intOf]; omega
        · have iz : ¬ ((k : Int) < (ids.length : Int)) := by omega
          have q0 := HS.out.cell 2 0 rfl rfl
          have q1 := HS.out.cell 2 1 rfl rfl
          have b0 := HS.out.cell 0 0 rfl rfl
          have HPD := hid (implDetour _ (HN.out.grow HS.out.bl) (HS.out.rt 1 rfl (by omega)) sr)
          rw [HRB.out] at HPD
          obtain ⟨dt, hdt⟩ : ∃ dt, dt = detI xs fs sr ids := ⟨_, rfl⟩
          rw [← hdt] at HPD HDET
          clear hdt hk hlt
          go_wp2_with fail
          refine HPD.out.mono ?_
          rintro e w5 ⟨rfl, hb⟩
          have H5 := hid (HS.out.step hb)
          clear hb HS HPD q0 q1 b0 b1
          have q0 := H5.out.cell 2 0 rfl rfl
          have q1 := H5.out.cell 2 1 rfl rfl
          rw [HFEW.out] at HP3
          go_wp2_with fail
          refine (HP3.out _ H5.out.bl).mono ?_
          rintro e w6 ⟨R6, k6, rfl, ho, hb⟩
          have h6 := H5.out.step hb
          have H7 := hid (h6.blk_ w6.heap.size rfl 32 #[.int .i64 (frS (some few) sr), .slice R6 (frL (some few)).length k6])
          have b1 := H7.out.cell 1 1 rfl rfl
          have b2 := H7.out.cell 0 1 rfl rfl
          have hd := HDET.out
          have hge : dt ≥ 1000 := hd
          have hle : ((frL (some few)).length : Int) ≤ (ids.length : Int) := by show ((few.length : Nat) : Int) ≤ _; omega
          clear h6 H5 hb ho q0 q1
          go_wp2
          go_ret
          exact ⟨rfl, bl_then HB1.out H7.out.bl⟩
  · clear hS hx
    go_enter Tryz.func3, Tryz.ntmps3
    go_wp2_with go_in
    go_ret
    exact ⟨rfl, Below.refl _ _⟩
end Go.Proofs.YtjfafhehpfjofaaGreat
/- FnAvoiding: the law returns true at every input; memory that was there reads as it did. Conditions: none. -/
namespace Go.Proofs.YtjfafhehpfjofaaGreat.fnAvoiding
open Go.ChangeShapes Go.WideShapes Go.ChangeAt Go.RowKit Go.Deep
open Go.ChangeMaps (open_string shut_string)
open Go.RowKit
theorem own : ownKnob Tryz.prog.godebug = none := by kernel_rfl
theorem laidOut : laidOutB Tryz.prog = true := by kernel_rfl
theorem reads : Tryz.f3.params.toList.all (fun t => Tryz.prog.readableRec t && decide (t < Tryz.prog.types.size)) = true := by kernel_rfl
theorem plain {H : Type} (ds : List (DataW H)) (h : ds.length = Tryz.f3.params.toList.length) : (Rows.fnAvoidingSpec.fn H ds).results = [.lit (.bool true)] ∧ (Rows.fnAvoidingSpec.fn H ds).args = ds ∧ (Rows.fnAvoidingSpec.fn H ds).vars = [] := by
  rw [Tryz.params3] at h
  match ds, h with
  | [d0], _ => exact ⟨rfl, rfl, rfl⟩
set_option maxRecDepth 100000 in
theorem lifted (os : Os) (started : os.Started) (H : Type) (enc : TypeId × Value → H) :
    ReturnsInHanded {} Tryz.checked os 3 .any (Rows.fnAvoidingSpec.pre6 enc Tryz.prog Tryz.f3 Rows.fnAvoidingRow.domain false) (Rows.fnAvoidingSpec.post enc Tryz.prog Tryz.f3 false true false false) := by
  refine returnsInHanded_of_change (C := Tryz.checked) own started (by kernel_rfl) Tryz.func3
    (ChangeSpec.witness6 (enc := enc) (C := Tryz.checked) false ⟨#[], #[.slice none 0 0], []⟩ 8 (by kernel_rfl) (by kernel_rfl) (by kernel_rfl) (by kernel_rfl)) ?_
  intro W base args ds gs before hval0 hW _ _
  have hval : ∀ (j : Nat) t v, Tryz.f3.params[j]? = some t → args[j]? = some v → Value.okWide Tryz.prog W .any base t v := hval0
  refine law_contract (P := Tryz.prog) laidOut reads rfl Tryz.underlying4 rfl plain W args ds gs before hW (fun p hA => ?_)
  clear hval0 hW
  rw [Tryz.params3] at hA hval
  obtain ⟨v0, vs0, d0, ds0, p0, q0, hargs, rfl, rfl, h0, r0⟩ := trodAll_cons hA
  obtain ⟨rfl, rfl, rfl⟩ := trodAll_nil r0
  obtain rfl : args = #[v0] := by cases args; simp_all
  obtain ⟨A0, n0, c0, x0, rfl, w0⟩ := open_bytes (hval 0 22 v0 rfl rfl) h0
  exact walkFnAvoiding W w0
theorem proved : Rows.FnAvoidingSaid :=
  OpenClaim.holds_of_wide 3 Tryz.f3 rfl rfl rfl rfl rfl rfl rfl ⟨rfl, rfl, rfl, rfl, rfl⟩ rfl rfl rfl rfl rfl (by kernel_rfl) Tryz.func3 (by kernel_rfl)
    (of_decide_eq_true (by kernel_rfl)) (by unfold Func.isWrapper; first | (rw [if_pos (by decide +kernel)]; kernel_rfl) | (rw [if_neg (by decide +kernel)]; exact ⟨rfl, rfl⟩))
    (fun os started H enc _ => lifted os started H enc)
#print axioms proved
end Go.Proofs.YtjfafhehpfjofaaGreat.fnAvoiding
