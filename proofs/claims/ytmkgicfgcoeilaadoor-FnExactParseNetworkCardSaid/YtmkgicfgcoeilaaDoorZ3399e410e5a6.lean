/- Lemmas and walks that the claim rests on, laid together. Conditions: none. -/
import Derived.Test.YtmkgicfgcoeilaaDoorZ9e85c901efc2
/- How the reference reads a fiber's line, walked. Conditions: words of at most 4000 bytes. By rds.py. -/
namespace Go.Proofs.YtmkgicfgcoeilaaDoor
open Go.RowKit
theorem wF_list : wF.toList = [102, 105, 98, 101, 114] := by rw [ByteArray.toList_eq]; rfl
theorem wR_list : wR.toList = [114, 105, 115, 107] := by rw [ByteArray.toList_eq]; rfl
section
variable {xs ws : List ByteArray} {x0 x1 x2 x3 x4 x5 : ByteArray}
theorem rdS_4 (hl : ws.length = 4) (h0 : ws[0]? = some x0) (h1 : ws[1]? = some x1) (h2 : ws[2]? = some x2) (h3 : ws[3]? = some x3) (hx : x0 = wF) : rdS xs ws = if rdK x3 then some ⟨findI xs x1, findI xs x2, rdV x3, 0⟩ else none := by
  unfold rdS
  have h6 : ¬ ws.length = 6 := by omega
  rw [if_pos ⟨Or.inl hl, by rw [getD_of h0]; exact hx⟩, getD_of h1, getD_of h2, getD_of h3]
  cases k3 : rdK x3
  · rw [if_neg (fun h => by cases h.1)]; rfl
  · rw [if_pos ⟨rfl, fun h => absurd h h6⟩, if_neg h6]; rfl
theorem rdS_6 (hl : ws.length = 6) (h0 : ws[0]? = some x0) (h1 : ws[1]? = some x1) (h2 : ws[2]? = some x2) (h3 : ws[3]? = some x3) (h4 : ws[4]? = some x4) (h5 : ws[5]? = some x5) (hx : x0 = wF) : rdS xs ws = if (rdK x3 && rdK x5) && decide (x4 = wR) then some ⟨findI xs x1, findI xs x2, rdV x3, rdV x5⟩ else none := by
  unfold rdS
  rw [if_pos ⟨Or.inr hl, by rw [getD_of h0]; exact hx⟩, getD_of h1, getD_of h2, getD_of h3, getD_of h4, getD_of h5]
  cases k3 : rdK x3
  · rw [if_neg (fun h => by cases h.1)]; rfl
  · cases k5 : rdK x5
    · rw [if_neg (fun h => by cases (h.2 hl).1)]; rfl
    · by_cases e4 : x4 = wR
      · rw [if_pos ⟨rfl, fun _ => ⟨rfl, e4⟩⟩, if_pos hl, decide_eq_true e4]; rfl
      · rw [if_neg (fun h => e4 (h.2 hl).2), decide_eq_false e4]; rfl
theorem rdS_no (h : (¬ ws.length = 4 ∧ ¬ ws.length = 6) ∨ ws.getD 0 ⟨#[]⟩ ≠ wF) : rdS xs ws = none := by
  unfold rdS
  rw [if_neg]
  rintro ⟨h1, h2⟩
  rcases h with h | h
  · rcases h1 with h1 | h1
    · exact h.1 h1
    · exact h.2 h1
  · exact h h2
end
section
variable {n c m d cw BW : Nat} {A A' W : Option Addr} {xs ws : List ByteArray} {fs : List Fib}
set_option maxHeartbeats 4000000 in
set_option maxRecDepth 100000 in
theorem l3Fiber_any (w : World) (h : NetIs w A n c A' m d xs fs) (hw : Sees elStr w BW W ws.length ws) (hp : ∀ x ∈ ws, x.size ≤ 4000) :
    Calls Tryd.prog 23 #[.agg #[.slice A n c, .slice A' m d], .slice W ws.length cw] w fun e w' => ∃ (f : Fib) (b : Bool), e = .returned (.tuple #[.agg #[.int .i64 f.a, .int .i64 f.b, .int .i64 f.len, .int .i64 f.risk], .bool b]) ∧ rdS xs ws = (if b then some f else none) ∧ Below w.heap.size w w' := by
  have hS := ((Led.nil w).blk_ w.heap.size rfl 25 #[.slice A n c, .slice A' m d]).blk_ (w.heap.size + 1) (by simp) 39 #[.int .i64 0, .int .i64 0, .int .i64 0, .int .i64 0]
  have HN := hid h
  have HPS := hid hp
  have hnl := h.nle
  clear h hp
  by_cases hL4 : ws.length = 4
  · have HLE := hid hL4
    obtain ⟨x0, hx0⟩ := get_of (k := 0) (l := ws) rfl (by omega)
    obtain ⟨x1, hx1⟩ := get_of (k := 1) (l := ws) rfl (by omega)
    obtain ⟨x2, hx2⟩ := get_of (k := 2) (l := ws) rfl (by omega)
    obtain ⟨x3, hx3⟩ := get_of (k := 3) (l := ws) rfl (by omega)
    have HX0 := hid hx0
    have HX1 := hid hx1
    have HX2 := hid hx2
    have HX3 := hid hx3
    have hz0 := HPS.out x0 (List.mem_of_getElem? hx0)
    have hz1 := HPS.out x1 (List.mem_of_getElem? hx1)
    have hz2 := HPS.out x2 (List.mem_of_getElem? hx2)
    have hz3 := HPS.out x3 (List.mem_of_getElem? hx3)
    rw [hL4] at hw
    rw [hL4]
    obtain ⟨b1, o1, rfl, _, hc1⟩ := hw.at_ (k := 0) (by decide)
    have f0 := bl_cell hS.bl (hc1 0 x0 hx0 0 _ rfl)
    have f1 := bl_cell hS.bl (hc1 1 x1 hx1 0 _ rfl)
    have f2 := bl_cell hS.bl (hc1 2 x2 hx2 0 _ rfl)
    have f3 := bl_cell hS.bl (hc1 3 x3 hx3 0 _ rfl)
    simp only [elStr, Nat.mul_one, Nat.add_zero] at f0 f1 f2 f3
    by_cases hF : x0 = wF
    case neg =>
      have HR := hid (rdS_no (xs := xs) (ws := ws) (.inr (by rw [getD_of hx0]; exact hF)))
      have hn := str_ne hF
      rw [wF_list] at hn
      have y0 := hS.cell 0 0 rfl rfl
      have y1 := hS.cell 0 1 rfl rfl
      have y2 := hS.cell 0 2 rfl rfl
      have y3 := hS.cell 0 3 rfl rfl
      have z0 := hS.frozen 0 0 rfl
      have z1 := hS.frozen 0 1 rfl
      have z2 := hS.frozen 0 2 rfl
      have z3 := hS.frozen 0 3 rfl
      have HE := hid hS
      clear hS hw hc1 hL4 hx0 hx1 hx2 hx3
      go_enter Tryd.func23, Tryd.ntmps23
      go_wp2_with fail
      exact bodyPost_ret (v := .tuple #[.agg #[.int .i64 0, .int .i64 0, .int .i64 0, .int .i64 0], .bool false]) (by simp [results, Tryd.results23, go_sem, y0, y1, y2, y3]) rfl
        ⟨⟨0, 0, 0, 0⟩, false, rfl, by rw [HR.out]; rfl, HE.out.bl⟩
    case pos =>
    have HR : Hid (rdS xs ws = _) := rdS_4 hL4 hx0 hx1 hx2 hx3 hF
    have he : (x0.toList == [102, 105, 98, 101, 114]) = true := by rw [hF, wF_list]; exact beq_self_eq_true _
    obtain ⟨v1, hv1⟩ : ∃ v, v = findI xs x1 := ⟨_, rfl⟩
    obtain ⟨v2, hv2⟩ : ∃ v, v = findI xs x2 := ⟨_, rfl⟩
    rw [← hv1, ← hv2] at HR
    obtain ⟨v3, hv3⟩ : ∃ v, rdV x3 = v := ⟨_, rfl⟩
    obtain ⟨k3, hk3⟩ : ∃ v, rdK x3 = v := ⟨_, rfl⟩
    rw [hv3, hk3] at HR
    have HV1 := hid hv1
    have HV2 := hid hv2
    have HV3 := hid hv3
    have HK3 := hid hk3
    clear hw hc1 hF hv1 hv2 hv3 hk3 hL4 hx0 hx1 hx2 hx3
    go_enter Tryd.func23, Tryd.ntmps23
    go_wp2_with fail
    refine (l1Read_any x3 _ (by omega)).mono ?_
    rintro e w1 ⟨rfl, hb⟩
    rw [HV3.out, HK3.out]
    replace hS := hS.step hb
    replace f1 := bl_cell hb f1
    replace f2 := bl_cell hb f2
    clear f0 f3 he hb
    have q0 := hS.cell 1 0 rfl rfl
    have HI1 : Hid (∀ w', Cls w1 w' → Calls Tryd.prog 36 #[.slice A n c, .string x1] w' fun e w2 => e = .returned (.int .i64 v1) ∧ w2 = w') := fun w' hw => by rw [HV1.out]; exact (l2Find_any (c := c) x1 w' ((HN.out.grow hS.bl).strs.grow hw) (by unfold maxLen; omega)).mono fun _ _ h => ⟨h.1, h.2.symm⟩
    have HI2 : Hid (∀ w', Cls w1 w' → Calls Tryd.prog 36 #[.slice A n c, .string x2] w' fun e w2 => e = .returned (.int .i64 v2) ∧ w2 = w') := fun w' hw => by rw [HV2.out]; exact (l2Find_any (c := c) x2 w' ((HN.out.grow hS.bl).strs.grow hw) (by unfold maxLen; omega)).mono fun _ _ h => ⟨h.1, h.2.symm⟩
    have HS := hid hS
    have C0 : ∀ w', Cls w1 w' → w'.cell? ⟨w.heap.size, 0, none⟩ = some (.slice A n c) := fun _ h => h.cell q0
    have C1 : ∀ w', Cls w1 w' → w'.cell? ⟨b1, o1 + 1, none⟩ = some (.string x1) := fun _ h => h.cell f1
    have C2 : ∀ w', Cls w1 w' → w'.cell? ⟨b1, o1 + 2, none⟩ = some (.string x2) := fun _ h => h.cell f2
    clear hS
    go_wp2_with fail
    go_region_held3 (fun w' => Cls w1 w') (first | assumption | exact Cls.drew _ | exact (bl_alloc (Below.refl _ _) _).drew | exact bl_alloc (by assumption) _ | exact Cls.next (by assumption) (by assumption))
      (first
        | (go_at_call_of 36 (Value.string x1); refine (HI1.out _ (by first | assumption | exact Cls.drew _ | exact bl_alloc (by first | assumption | exact Cls.drew _) _)).mono ?_; rintro e w' ⟨rfl, rfl⟩)
        | (go_at_call_of 36 (Value.string x2); refine (HI2.out _ (by first | assumption | exact Cls.drew _ | exact bl_alloc (by first | assumption | exact Cls.drew _) _)).mono ?_; rintro e w' ⟨rfl, rfl⟩))
    all_goals
      have HS1 := hid ((HS.out.blk_ w1.heap.size rfl 39 #[.int .i64 v1, .int .i64 v2, .int .i64 v3, .int .i64 0]).step (Cls.drew _))
      clear HS HI1 HI2 q0 C0 C1 C2 f1 f2
      generalize (w1.alloc (.cells #[.int .i64 v1, .int .i64 v2, .int .i64 v3, .int .i64 0] 39)).drew = w2 at *
      have p0 := HS1.out.cell 0 0 rfl rfl
      have p1 := HS1.out.cell 0 1 rfl rfl
      have p2 := HS1.out.cell 0 2 rfl rfl
      have p3 := HS1.out.cell 0 3 rfl rfl
      have y0 := HS1.out.cell 1 0 rfl rfl
      have y1 := HS1.out.cell 1 1 rfl rfl
      have y2 := HS1.out.cell 1 2 rfl rfl
      have y3 := HS1.out.cell 1 3 rfl rfl
      have z0 := HS1.out.frozen 1 0 rfl
      have z1 := HS1.out.frozen 1 1 rfl
      have z2 := HS1.out.frozen 1 2 rfl
      have z3 := HS1.out.frozen 1 3 rfl
      have HE := hid ((((HS1.out.set 1 rfl 0 (.int .i64 v1)).set 1 rfl 1 (.int .i64 v2)).set 1 rfl 2 (.int .i64 v3)).set 1 rfl 3 (.int .i64 0))
      clear HS1
      go_wp2_with fail
      exact bodyPost_ret (v := .tuple #[.agg #[.int .i64 v1, .int .i64 v2, .int .i64 v3, .int .i64 0], .bool k3]) (by simp [results, Tryd.results23, go_sem, y0, y1, y2, y3]) rfl
        ⟨⟨v1, v2, v3, 0⟩, k3, rfl, HR.out, HE.out.bl⟩
  by_cases hL6 : ws.length = 6
  · have HLE := hid hL6
    obtain ⟨x0, hx0⟩ := get_of (k := 0) (l := ws) rfl (by omega)
    obtain ⟨x1, hx1⟩ := get_of (k := 1) (l := ws) rfl (by omega)
    obtain ⟨x2, hx2⟩ := get_of (k := 2) (l := ws) rfl (by omega)
    obtain ⟨x3, hx3⟩ := get_of (k := 3) (l := ws) rfl (by omega)
    obtain ⟨x4, hx4⟩ := get_of (k := 4) (l := ws) rfl (by omega)
    obtain ⟨x5, hx5⟩ := get_of (k := 5) (l := ws) rfl (by omega)
    have HX0 := hid hx0
    have HX1 := hid hx1
    have HX2 := hid hx2
    have HX3 := hid hx3
    have HX4 := hid hx4
    have HX5 := hid hx5
    have hz0 := HPS.out x0 (List.mem_of_getElem? hx0)
    have hz1 := HPS.out x1 (List.mem_of_getElem? hx1)
    have hz2 := HPS.out x2 (List.mem_of_getElem? hx2)
    have hz3 := HPS.out x3 (List.mem_of_getElem? hx3)
    have hz4 := HPS.out x4 (List.mem_of_getElem? hx4)
    have hz5 := HPS.out x5 (List.mem_of_getElem? hx5)
    rw [hL6] at hw
    rw [hL6]
    obtain ⟨b1, o1, rfl, _, hc1⟩ := hw.at_ (k := 0) (by decide)
    have f0 := bl_cell hS.bl (hc1 0 x0 hx0 0 _ rfl)
    have f1 := bl_cell hS.bl (hc1 1 x1 hx1 0 _ rfl)
    have f2 := bl_cell hS.bl (hc1 2 x2 hx2 0 _ rfl)
    have f3 := bl_cell hS.bl (hc1 3 x3 hx3 0 _ rfl)
    have f4 := bl_cell hS.bl (hc1 4 x4 hx4 0 _ rfl)
    have f5 := bl_cell hS.bl (hc1 5 x5 hx5 0 _ rfl)
    simp only [elStr, Nat.mul_one, Nat.add_zero] at f0 f1 f2 f3 f4 f5
    by_cases hF : x0 = wF
    case neg =>
      have HR := hid (rdS_no (xs := xs) (ws := ws) (.inr (by rw [getD_of hx0]; exact hF)))
      have hn := str_ne hF
      rw [wF_list] at hn
      have y0 := hS.cell 0 0 rfl rfl
      have y1 := hS.cell 0 1 rfl rfl
      have y2 := hS.cell 0 2 rfl rfl
      have y3 := hS.cell 0 3 rfl rfl
      have z0 := hS.frozen 0 0 rfl
      have z1 := hS.frozen 0 1 rfl
      have z2 := hS.frozen 0 2 rfl
      have z3 := hS.frozen 0 3 rfl
      have HE := hid hS
      clear hS hw hc1 hL6 hx0 hx1 hx2 hx3 hx4 hx5
      go_enter Tryd.func23, Tryd.ntmps23
      go_wp2_with fail
      exact bodyPost_ret (v := .tuple #[.agg #[.int .i64 0, .int .i64 0, .int .i64 0, .int .i64 0], .bool false]) (by simp [results, Tryd.results23, go_sem, y0, y1, y2, y3]) rfl
        ⟨⟨0, 0, 0, 0⟩, false, rfl, by rw [HR.out]; rfl, HE.out.bl⟩
    case pos =>
    have HR : Hid (rdS xs ws = _) := rdS_6 hL6 hx0 hx1 hx2 hx3 hx4 hx5 hF
    have he : (x0.toList == [102, 105, 98, 101, 114]) = true := by rw [hF, wF_list]; exact beq_self_eq_true _
    obtain ⟨v1, hv1⟩ : ∃ v, v = findI xs x1 := ⟨_, rfl⟩
    obtain ⟨v2, hv2⟩ : ∃ v, v = findI xs x2 := ⟨_, rfl⟩
    rw [← hv1, ← hv2] at HR
    obtain ⟨v3, hv3⟩ : ∃ v, rdV x3 = v := ⟨_, rfl⟩
    obtain ⟨k3, hk3⟩ : ∃ v, rdK x3 = v := ⟨_, rfl⟩
    rw [hv3, hk3] at HR
    have HV1 := hid hv1
    have HV2 := hid hv2
    have HV3 := hid hv3
    have HK3 := hid hk3
    clear hw hc1 hF hv1 hv2 hv3 hk3 hL6 hx0 hx1 hx2 hx3 hx4 hx5
    go_enter Tryd.func23, Tryd.ntmps23
    go_wp2_with fail
    refine (l1Read_any x3 _ (by omega)).mono ?_
    rintro e w1 ⟨rfl, hb⟩
    rw [HV3.out, HK3.out]
    replace hS := hS.step hb
    replace f1 := bl_cell hb f1
    replace f2 := bl_cell hb f2
    replace f4 := bl_cell hb f4
    replace f5 := bl_cell hb f5
    clear f0 f3 he hb
    have q0 := hS.cell 1 0 rfl rfl
    have HI1 : Hid (∀ w', Cls w1 w' → Calls Tryd.prog 36 #[.slice A n c, .string x1] w' fun e w2 => e = .returned (.int .i64 v1) ∧ w2 = w') := fun w' hw => by rw [HV1.out]; exact (l2Find_any (c := c) x1 w' ((HN.out.grow hS.bl).strs.grow hw) (by unfold maxLen; omega)).mono fun _ _ h => ⟨h.1, h.2.symm⟩
    have HI2 : Hid (∀ w', Cls w1 w' → Calls Tryd.prog 36 #[.slice A n c, .string x2] w' fun e w2 => e = .returned (.int .i64 v2) ∧ w2 = w') := fun w' hw => by rw [HV2.out]; exact (l2Find_any (c := c) x2 w' ((HN.out.grow hS.bl).strs.grow hw) (by unfold maxLen; omega)).mono fun _ _ h => ⟨h.1, h.2.symm⟩
    have HS := hid hS
    have C0 : ∀ w', Cls w1 w' → w'.cell? ⟨w.heap.size, 0, none⟩ = some (.slice A n c) := fun _ h => h.cell q0
    have C1 : ∀ w', Cls w1 w' → w'.cell? ⟨b1, o1 + 1, none⟩ = some (.string x1) := fun _ h => h.cell f1
    have C2 : ∀ w', Cls w1 w' → w'.cell? ⟨b1, o1 + 2, none⟩ = some (.string x2) := fun _ h => h.cell f2
    clear hS
    go_wp2_with fail
    go_region_held3 (fun w' => Cls w1 w') (first | assumption | exact Cls.drew _ | exact (bl_alloc (Below.refl _ _) _).drew | exact bl_alloc (by assumption) _ | exact Cls.next (by assumption) (by assumption))
      (first
        | (go_at_call_of 36 (Value.string x1); refine (HI1.out _ (by first | assumption | exact Cls.drew _ | exact bl_alloc (by first | assumption | exact Cls.drew _) _)).mono ?_; rintro e w' ⟨rfl, rfl⟩)
        | (go_at_call_of 36 (Value.string x2); refine (HI2.out _ (by first | assumption | exact Cls.drew _ | exact bl_alloc (by first | assumption | exact Cls.drew _) _)).mono ?_; rintro e w' ⟨rfl, rfl⟩))
    all_goals
      have HS1 := hid ((HS.out.blk_ w1.heap.size rfl 39 #[.int .i64 v1, .int .i64 v2, .int .i64 v3, .int .i64 0]).step (Cls.drew _))
      have g4 := bl_cell (bl_alloc (Below.refl w1.heap.size w1) (.cells #[.int .i64 v1, .int .i64 v2, .int .i64 v3, .int .i64 0] 39)).drew f4
      have g5 := bl_cell (bl_alloc (Below.refl w1.heap.size w1) (.cells #[.int .i64 v1, .int .i64 v2, .int .i64 v3, .int .i64 0] 39)).drew f5
      clear f4 f5
      clear HS HI1 HI2 q0 C0 C1 C2 f1 f2
      generalize (w1.alloc (.cells #[.int .i64 v1, .int .i64 v2, .int .i64 v3, .int .i64 0] 39)).drew = w2 at *
      go_wp2_with fail
      refine (l1Read_any x5 _ (by omega)).mono ?_
      rintro e w5 ⟨rfl, hb⟩
      have hS6 := HS1.out.step hb
      replace g4 := bl_cell hb g4
      obtain ⟨v5, hv5⟩ : ∃ v, rdV x5 = v := ⟨_, rfl⟩
      obtain ⟨k5, hk5⟩ : ∃ v, rdK x5 = v := ⟨_, rfl⟩
      rw [hv5, hk5] at HR
      rw [hv5, hk5]
      clear hv5 hk5 hb HS1 g5
      obtain ⟨k4, hk4⟩ : ∃ v, decide (x4 = wR) = v := ⟨_, rfl⟩
      rw [hk4] at HR
      have i4 : (x4.toList == [114, 105, 115, 107]) = k4 := by
        by_cases e : x4 = wR
        · rw [← hk4, decide_eq_true e, e, wR_list]; exact beq_self_eq_true _
        · rw [← hk4, decide_eq_false e, ← wR_list]; exact str_ne e
      clear hk4
      cases k3 <;> cases k5 <;> cases k4
      all_goals
        have p0 := hS6.cell 0 0 rfl rfl
        have p1 := hS6.cell 0 1 rfl rfl
        have p2 := hS6.cell 0 2 rfl rfl
        have p3 := hS6.cell 0 3 rfl rfl
        have o3 := hS6.frozen 0 3 rfl
        have HS7 := hid (hS6.set 0 rfl 3 (.int .i64 v5))
        have y0 := hS6.cell 1 0 rfl rfl
        have y1 := hS6.cell 1 1 rfl rfl
        have y2 := hS6.cell 1 2 rfl rfl
        have y3 := hS6.cell 1 3 rfl rfl
        have z0 := hS6.frozen 1 0 rfl
        have z1 := hS6.frozen 1 1 rfl
        have z2 := hS6.frozen 1 2 rfl
        have z3 := hS6.frozen 1 3 rfl
        have HE := hid ((((HS7.out.set 1 rfl 0 (.int .i64 v1)).set 1 rfl 1 (.int .i64 v2)).set 1 rfl 2 (.int .i64 v3)).set 1 rfl 3 (.int .i64 v5))
        have t0 := HS7.out.cell 1 0 rfl rfl
        have t1 := HS7.out.cell 1 1 rfl rfl
        have t2 := HS7.out.cell 1 2 rfl rfl
        have t3 := HS7.out.cell 1 3 rfl rfl
        clear HS7 hS6
        go_wp2_with fail
        exact bodyPost_ret (v := .tuple #[.agg #[.int .i64 v1, .int .i64 v2, .int .i64 v3, .int .i64 v5], .bool _]) (by simp [results, Tryd.results23, go_sem, t0, t1, t2, t3]; rfl) rfl
          ⟨⟨v1, v2, v3, v5⟩, _, rfl, by rw [HR.out]; rfl, HE.out.bl⟩
  have HR := hid (rdS_no (xs := xs) (ws := ws) (.inl ⟨hL4, hL6⟩))
  have i4 : ((ws.length : Int) != 4) = true := by rw [bne_iff_ne]; omega
  have i6 : ((ws.length : Int) != 6) = true := by rw [bne_iff_ne]; omega
  have y0 := hS.cell 0 0 rfl rfl
  have y1 := hS.cell 0 1 rfl rfl
  have y2 := hS.cell 0 2 rfl rfl
  have y3 := hS.cell 0 3 rfl rfl
  have z0 := hS.frozen 0 0 rfl
  have z1 := hS.frozen 0 1 rfl
  have z2 := hS.frozen 0 2 rfl
  have z3 := hS.frozen 0 3 rfl
  have HE := hid hS
  clear hS hw hL4 hL6
  go_enter Tryd.func23, Tryd.ntmps23
  go_wp2_with fail
  exact bodyPost_ret (v := .tuple #[.agg #[.int .i64 0, .int .i64 0, .int .i64 0, .int .i64 0], .bool false]) (by simp [results, Tryd.results23, go_sem, y0, y1, y2, y3]) rfl
    ⟨⟨0, 0, 0, 0⟩, false, rfl, by rw [HR.out]; rfl, HE.out.bl⟩
end
end Go.Proofs.YtmkgicfgcoeilaaDoor
