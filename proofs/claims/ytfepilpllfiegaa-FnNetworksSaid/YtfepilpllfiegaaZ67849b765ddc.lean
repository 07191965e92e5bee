/- Lemmas and walks that the claim rests on, laid together. Conditions: none. -/
import Derived.Test.YtfepilpllfiegaaRows
import Derived.Test.YtfepilpllfiegaaZ76d3d4a5ee99
import Derived.Test.YtfepilpllfiegaaZ26e9db1b046f
import Derived.Test.YtfepilpllfiegaaZ3128dd2975f1
import Derived.Test.YtfepilpllfiegaaZc731a5b1582e
import Derived.Test.YtfepilpllfiegaaZ17f740c013a7
import Derived.Test.YtfepilpllfiegaaZc3e33f13110d
import Derived.Deep.RegionHeld3
/- l4Walk and visited: the nodes of a route, walked. Conditions: none. -/
namespace Go.Proofs.Ytfepilpllfiegaa
open Go.RowKit
theorem filled_one (s : Int) : Filled elInt #[.int .i64 s] [s] 1 := by
  intro j x hj hx i u hu
  obtain rfl : j = 0 := by omega
  simp at hx; subst hx
  match i, hu with
  | 0, hu => simp [elInt] at hu; subst hu; rfl
variable {n c m d kr er : Nat} {A A' R : Option Addr} {xs : List ByteArray} {fs : List Fib} {ids : List Int}
set_option maxHeartbeats 600000 in
set_option maxRecDepth 100000 in
theorem l4Walk_any (s : Int) (w : World) (h : NetIs w A n c A' m d xs fs) (hr : RtIs w R kr er ids) :
    Calls Try.prog 142 #[.agg #[.slice A n c, .slice A' m d], .agg #[.int .i64 s, .slice R kr er]] w fun e w' => ∃ v, e = .returned (.tuple #[v, .bool (rtB n fs s ids)]) ∧ (rtB n fs s ids = true → Owns elInt w' w.heap.size 3 v (outW fs s ids kr)) ∧ Below w.heap.size w w' := by
  obtain ⟨i0, hi, hz0, hz1, hz2⟩ := info_parts int_info
  have hb1 := bl_alloc (Below.refl w.heap.size w) (.cells #[.slice A n c, .slice A' m d] 27)
  have hb0 := bl_alloc hb1 (.cells #[.int .i64 s, .slice R kr er] 35)
  have hx0 : Blk ((w.alloc (.cells #[.slice A n c, .slice A' m d] 27)).alloc (.cells #[.int .i64 s, .slice R kr er] 35)) w.heap.size 27 #[.slice A n c, .slice A' m d] := (Blk.new _ _ _).alloc _
  have hy0 : Blk ((w.alloc (.cells #[.slice A n c, .slice A' m d] 27)).alloc (.cells #[.int .i64 s, .slice R kr er] 35)) (w.heap.size + 1) 35 #[.int .i64 s, .slice R kr er] := by
    have := Blk.new (w.alloc (.cells #[.slice A n c, .slice A' m d] 27)) 35 #[.int .i64 s, .slice R kr er]
    simpa using this
  have h0 := h.grow hb0
  have hr0 := hr.grow hb0
  have hlx := h.xlen
  have hlf := h.flen
  have hm := h.mle
  have hn := h.nle
  have hlr := hr.len
  have hkr := hr.le
  have hsz0 : ((w.alloc (.cells #[.slice A n c, .slice A' m d] 27)).alloc (.cells #[.int .i64 s, .slice R kr er] 35)).heap.size = w.heap.size + 2 := by simp
  have hb2 := bl_alloc hb0 (.cells #[.int .i64 s] 3)
  have hbe := bl_alloc (Below.refl ((w.alloc (.cells #[.slice A n c, .slice A' m d] 27)).alloc (.cells #[.int .i64 s, .slice R kr er] 35)).heap.size ((w.alloc (.cells #[.slice A n c, .slice A' m d] 27)).alloc (.cells #[.int .i64 s, .slice R kr er] 35))) (.cells #[.int .i64 s] 3)
  have hoe : Hid (Owns elInt (((w.alloc (.cells #[.slice A n c, .slice A' m d] 27)).alloc (.cells #[.int .i64 s, .slice R kr er] 35)).alloc (.cells #[.int .i64 s] 3)) (w.heap.size + 2) 3 (.slice (some ⟨w.heap.size + 2, 0, none⟩) 1 1) (outW fs s ids 0)) :=
    Owns.of_blk (n := 1) (cap := 1) (cur := #[.int .i64 s]) (by have := Blk.new ((w.alloc (.cells #[.slice A n c, .slice A' m d] 27)).alloc (.cells #[.int .i64 s, .slice R kr er] 35)) 3 #[.int .i64 s]; simpa using this) (Nat.le_refl _) rfl (Nat.le_refl _) rfl (by decide) (filled_one s)
  cases g1 : inB 0 ((n : Int) - 1) s
  · have H : Hid (rtB n fs s ids = false) := by unfold Hid rtB; rw [g1]; rfl
    clear hlx hlf hlr hoe
    go_enter Try.func142, Try.ntmps142
    go_wp2_with (go_at_call 78; refine (l1In_any _ _ _ _).mono ?_; rintro e w' ⟨rfl, rfl⟩; rw [g1])
    go_ret2
    exact ⟨_, by rw [H.out]; rfl, fun hh => by rw [H.out] at hh; (cases hh), hb2⟩
  · by_cases hk0 : kr = 0
    · have H : Hid (rtB n fs s ids = false) := by unfold Hid rtB; rw [g1, hlr, hk0]; rfl
      have e0 : (kr == 0) = true := by simp [hk0]
      have e1 : ((kr : Int) == 0) = true := by simp [hk0]
      clear hlx hlf hlr hoe hk0
      go_enter Try.func142, Try.ntmps142
      go_wp2_with (go_at_call 78; refine (l1In_any _ _ _ _).mono ?_; rintro e w' ⟨rfl, rfl⟩; rw [g1])
      go_ret2
      exact ⟨_, by rw [H.out]; rfl, fun hh => by rw [H.out] at hh; (cases hh), hb2⟩
    · have e0 : (kr == 0) = false := by simp [hk0]
      have e1 : ((kr : Int) == 0) = false := by simp; omega
      have HB : Hid (rtB n fs s ids = allB (okW m fs s ids) kr) := by unfold Hid rtB; rw [g1, hlr, e0, hlf]; rfl
      clear hlx
      go_enter Try.func142, Try.ntmps142
      go_wp2_with (go_at_call 78; refine (l1In_any _ _ _ _).mono ?_; rintro e w' ⟨rfl, rfl⟩; rw [g1])
      generalize hw0 : ((w.alloc (.cells #[.slice A n c, .slice A' m d] 27)).alloc (.cells #[.int .i64 s, .slice R kr er] 35)) = w0 at *
      go_loopw [6, 7] (fun v i wr => ∃ k : Nat, k ≤ kr ∧ i = .int .i64 k ∧ Hid (Owns elInt wr (w.heap.size + 2) 3 v (outW fs s ids k)) ∧ Hid (allTo (okW m fs s ids) k) ∧ Below w0.heap.size w0 wr) (fun _ i _ => kr - (intOf i).toNat)
      case atStart => exact ⟨0, Nat.zero_le _, rfl, hoe, allTo_zero _, hbe⟩
      case round =>
        clear hbe hoe
        obtain ⟨k, hk, rfl, hown, hall, hb⟩ := hrel
        have q1 := (hy0.below hb (by omega)).cell 1
        simp at q1
        by_cases hlt : k < kr
        · obtain ⟨b, o, rfl, _, hc⟩ := hr0.2.at_ hlt
          obtain ⟨i, hik⟩ := get_of (k := k) hlr hlt
          have hci := bl_cell hb (hc k i hik 0 _ rfl)
          simp only [elInt, Nat.mul_one, Nat.add_zero] at hci
          have p0 := (hx0.below hb (by omega)).cell 0
          have p1 := (hx0.below hb (by omega)).cell 1
          simp at p0 p1
          have hwz := hb.size
          have iz : (k : Int) < (kr : Int) := by omega
          have im : IntKind.i64.wrap ((m : Int) - 1) = (m : Int) - 1 := IntWalk.i64_in _ (by omega)
          have ik : IntKind.i64.wrap (k : Int) = (k : Int) := IntWalk.i64_in _ (by omega)
          have ik2 : IntKind.i64.wrap ((k : Int) + 1 - 1) = (k : Int) := by rw [Int.add_sub_cancel]; exact ik
          have ik3 : (k : Int) < (k : Int) + 1 := by omega
          have P0 : ∀ w', Cls wr w' → w'.cell? ⟨w.heap.size, 0, none⟩ = some (.slice A n c) := fun _ h => h.cell p0
          have P1 : ∀ w', Cls wr w' → w'.cell? ⟨w.heap.size, 1, none⟩ = some (.slice A' m d) := fun _ h => h.cell p1
          have Q1 : ∀ w', Cls wr w' → w'.cell? ⟨w.heap.size + 1, 1, none⟩ = some (.slice (some ⟨b, o, none⟩) kr er) := fun _ h => h.cell q1
          have T0 : ∀ w', Cls wr w' → w'.cell? ⟨b, o + k, none⟩ = some (.int .i64 i) := fun _ h => h.cell hci
          clear hc
          cases g2 : inB 0 ((m : Int) - 1) i
          · have H : Hid (rtB n fs s ids = false) := by unfold Hid; rw [HB.out]; exact allB_no hlt (by unfold okW; rw [getD_of hik, g2]; rfl)
            have HIN : Hid (∀ w', Calls Try.prog 78 #[.int .i64 i, .int .i64 0, .int .i64 ((m : Int) - 1)] w' fun e w2 => e = .returned (.bool false) ∧ w' = w2) := fun w' => by rw [← g2]; exact l1In_any _ _ _ _
            clear hik hown hall
            go_wp2
            refine region_cls (by kernel_rfl) (by kernel_rfl) ?_
            repeat (first
              | ((with_reducible refine quiet_pos ?_ (fun K hK => ?_))
                 · rfl
                 apply Exists.intro
                 refine ⟨fun w' hw' => ?_, ?_⟩
                 · go_simp
                   first
                     | with_reducible rfl
                     | (go_at_call 78; with_reducible exact hw'.same (HIN.out _))
                 simp only [Act.put, List.setIfInBounds_toArray, List.set_cons_zero, List.set_cons_succ]
                 refine hK _ ?_; clear hK K)
              | ((with_reducible refine quiet_neg ?_ (fun K hK => ?_))
                 · rfl
                 simp only [Act.put, List.setIfInBounds_toArray, List.set_cons_zero, List.set_cons_succ]
                 refine hK _ ?_; clear hK K))
            with_reducible refine wpQuiet_nil ?_
            intro wx hwx
            go_wp2
            go_ret2
            exact ⟨_, by rw [H.out]; rfl, fun hh => by rw [H.out] at hh; (cases hh), hb0.trans ((bl_then hb hwx).mono (by omega))⟩
          · obtain ⟨i0', i1'⟩ := inB_idx g2
            obtain ⟨f, hf⟩ := get_of (k := i.toNat) hlf (by omega)
            obtain ⟨Ao, co, rfl, _, _, hso⟩ := hown.out.form
            rw [outW_len] at hso
            obtain ⟨bo, oo, rfl, _, hcl⟩ := hso.at_ (k := k) (by omega)
            have hcl0 := hcl k _ (outW_get fs s ids k) 0 _ rfl
            simp only [elInt, Nat.mul_one, Nat.add_zero] at hcl0
            obtain ⟨cu, hcu⟩ : ∃ cu, cu = atW fs s ids k := ⟨_, rfl⟩
            rw [← hcu] at hcl0
            have L0 : ∀ w', Cls wr w' → w'.cell? ⟨bo, oo + k, none⟩ = some (.int .i64 cu) := fun _ h => h.cell hcl0
            obtain ⟨nx, hnx⟩ : ∃ nx, nx = otherF f cu := ⟨_, rfl⟩
            have HNX : Hid (atW fs s ids (k + 1) = nx) := by unfold Hid; rw [hnx, hcu]; exact atW_succ hik hf
            have hkk : Hid (okW m fs s ids k = (!decide (nx < 0) && !hasB (outW fs s ids k) nx)) := by unfold Hid okW; rw [getD_of hik, g2, HNX.out]; rfl
            have HC : Hid (∀ w', Cls wr w' → Calls Try.prog 79 #[.agg #[.slice A n c, .slice A' m d], .int .i64 i, .int .i64 cu] w' fun e w2 => e = .returned (.int .i64 nx) ∧ Below w'.heap.size w' w2) := fun w' hw' => by
              rw [hnx]; exact l2Other_any i cu w' (h0.grow (bl_then hb hw')) i0' i1' hf
            have hso := hid hso
            rw [outW_len]
            have HIN : Hid (∀ w', Calls Try.prog 78 #[.int .i64 i, .int .i64 0, .int .i64 ((m : Int) - 1)] w' fun e w2 => e = .returned (.bool true) ∧ w' = w2) := fun w' => by rw [← g2]; exact l1In_any _ _ _ _
            clear hik hf hcl hcl0 hcu hnx
            go_wp2
            refine region_cls (by kernel_rfl) (by kernel_rfl) ?_
            repeat (first
              | ((with_reducible refine quiet_pos ?_ (fun K hK => ?_))
                 · rfl
                 apply Exists.intro
                 refine ⟨fun w' hw' => ?_, ?_⟩
                 · go_simp
                   first
                     | with_reducible rfl
                     | (go_at_call 78; with_reducible exact hw'.same (HIN.out _))
                 simp only [Act.put, List.setIfInBounds_toArray, List.set_cons_zero, List.set_cons_succ]
                 refine hK _ ?_; clear hK K)
              | ((with_reducible refine quiet_neg ?_ (fun K hK => ?_))
                 · rfl
                 simp only [Act.put, List.setIfInBounds_toArray, List.set_cons_zero, List.set_cons_succ]
                 refine hK _ ?_; clear hK K))
            with_reducible refine wpQuiet_nil ?_
            intro wx hwx
            have hwxs := hwx.size
            have HC2 := hid (fun w' (h : Cls wx w') => HC.out w' (bl_then hwx h))
            clear HC HIN
            replace P0 : ∀ w', Cls wx w' → w'.cell? ⟨w.heap.size, 0, none⟩ = some (.slice A n c) := fun _ h => P0 _ (bl_then hwx h)
            replace P1 : ∀ w', Cls wx w' → w'.cell? ⟨w.heap.size, 1, none⟩ = some (.slice A' m d) := fun _ h => P1 _ (bl_then hwx h)
            replace Q1 : ∀ w', Cls wx w' → w'.cell? ⟨w.heap.size + 1, 1, none⟩ = some (.slice (some ⟨b, o, none⟩) kr er) := fun _ h => Q1 _ (bl_then hwx h)
            replace T0 : ∀ w', Cls wx w' → w'.cell? ⟨b, o + k, none⟩ = some (.int .i64 i) := fun _ h => T0 _ (bl_then hwx h)
            replace L0 : ∀ w', Cls wx w' → w'.cell? ⟨bo, oo + k, none⟩ = some (.int .i64 cu) := fun _ h => L0 _ (bl_then hwx h)
            go_wp2
            refine region_cls (by kernel_rfl) (by kernel_rfl) ?_
            repeat (first
              | ((with_reducible refine quiet_pos ?_ (fun K hK => ?_))
                 · rfl
                 apply Exists.intro
                 refine ⟨fun w' hw' => ?_, ?_⟩
                 · go_simp
                   first
                     | with_reducible rfl
                     | (go_at_call 79; with_reducible exact hw'.call (HC2.out _ hw'))
                 simp only [Act.put, List.setIfInBounds_toArray, List.set_cons_zero, List.set_cons_succ]
                 refine hK _ ?_; clear hK K)
              | ((with_reducible refine quiet_neg ?_ (fun K hK => ?_))
                 · rfl
                 simp only [Act.put, List.setIfInBounds_toArray, List.set_cons_zero, List.set_cons_succ]
                 refine hK _ ?_; clear hK K))
            with_reducible refine wpQuiet_nil ?_
            intro wy hwy
            have hbz := bl_then (bl_then hb hwx) hwy
            have hoz : Hid (Owns elInt _ _ _ _ _) := (hown.out.below hwx).below hwy
            have hwys := hwy.size
            clear P0 P1 Q1 T0 L0 HC2 hown
            cases g3 : decide (nx < 0)
            · have hsz := hid ((hso.out.grow hwx).grow hwy)
              cases g4 : hasB (outW fs s ids k) nx
              · have HALL : Hid (allTo (okW m fs s ids) (k + 1)) := allTo_succ hall.out (by rw [hkk.out, g3, g4]; rfl)
                have hbG := bl_alloc hbz (.cells #[.int .i64 nx] 3)
                have hoG : Hid (Owns elInt _ _ _ _ _) := hoz.out.below (bl_alloc (Below.refl _ _) (.cells #[.int .i64 nx] 3))
                have hoG2 : Hid (∀ g, (Value.slice (some ⟨bo, oo, none⟩) (k + 1) co).ownBlock = some g → w0.heap.size ≤ g) := fun g hg => by have := (hoG.out.lies g (by rw [outW_len]; exact hg)).1; omega
                rw [outW_len] at hoG
                have hll := outW_len fs s ids k
                clear hkk hoz hall
                go_wp2_with fail
                refine (l1Has_any nx _ hsz.out (by simp only [maxLen]; omega)).mono ?_
                rintro e w' ⟨rfl, rfl⟩
                rw [g4]
                clear hsz
                go_wp2_with (first
                  | (at_builtin; refine wpList_append_own _ rfl _ _ 33 rfl (w.heap.size + 2) 3 i0 (.int .i64 0) 1 8 Try.underlying33 hi hz0 hz1 hz2 rfl (by decide) _ (outW fs s ids k).length ((outW fs s ids k).flatMap elInt.cells) rfl hoG.out ⟨_, 0, none⟩ 1 1 [.int .i64 nx] rfl rfl (one_new _ _ _ (by simp)) (fun u hu => by simp at hu; subst hu; rfl) (by unfold maxLen; omega) (by omega) (by simp; omega) ?_)
                  | go_in)
                intro v' w1 hown' hgrow _
                have HO : Hid (Owns elInt w1 (w.heap.size + 2) 3 v' (outW fs s ids (k + 1))) := by unfold Hid; rw [outW_succ, HNX.out]; exact Owns.appended (by rw [hll]; exact hown')
                have hbN := bl_grown hbG hgrow (fun g hg => by have := (hoG2.out g hg); omega)
                clear hown' hgrow hoG hbG hoG2
                go_wp2
                go_roundw
                case rel => exact ⟨k + 1, by omega, by go_num, HO, HALL, hbN⟩
                case measure => simp [intOf]; omega
              · have H : Hid (rtB n fs s ids = false) := by unfold Hid; rw [HB.out]; exact allB_no hlt (by rw [hkk.out, g3, g4]; rfl)
                clear hkk hoz hall
                go_wp2_with (go_at_call 69; refine (l1Has_any nx _ hsz.out (by simp only [maxLen]; omega)).mono ?_; rintro e w' ⟨rfl, rfl⟩; rw [g4])
                go_ret2
                exact ⟨_, by rw [H.out]; rfl, fun hh => by rw [H.out] at hh; (cases hh), hb0.trans (hbz.mono (by omega))⟩
            · have H : Hid (rtB n fs s ids = false) := by unfold Hid; rw [HB.out]; exact allB_no hlt (by rw [hkk.out, g3]; rfl)
              clear hkk hoz hall
              go_wp2
              go_ret2
              exact ⟨_, by rw [H.out]; rfl, fun hh => by rw [H.out] at hh; (cases hh), hb0.trans (hbz.mono (by omega))⟩
        · have hkm : k = kr := by omega
          have H : Hid (rtB n fs s ids = true) := by unfold Hid; rw [HB.out]; exact allB_yes (by rw [← hkm]; exact hall.out) rfl
          rw [hkm] at hown
          clear hlt hall
          go_wp2
          go_ret2
          exact ⟨_, by rw [H.out]; rfl, fun _ => hown.out.base (by omega), hb0.trans (hb.mono (by omega))⟩
set_option maxHeartbeats 1000000 in
set_option maxRecDepth 100000 in
theorem visited_any (s : Int) (w : World) (h : NetIs w A n c A' m d xs fs) (hr : RtIs w R kr er ids) :
    Calls Try.prog 62 #[.agg #[.slice A n c, .slice A' m d], .agg #[.int .i64 s, .slice R kr er]] w fun e w' => ∃ v, e = .returned (.tuple #[v, .bool (rtB n fs s ids)]) ∧ Owns elInt w' w.heap.size 3 v (rtL n fs s ids) ∧ Below w.heap.size w w' := by
  obtain ⟨i0, hi, hz0, hz1, hz2⟩ := info_parts int_info
  have hb1 := bl_alloc (Below.refl w.heap.size w) (.cells #[.slice A n c, .slice A' m d] 27)
  have hb0 := bl_alloc hb1 (.cells #[.int .i64 s, .slice R kr er] 35)
  have hx0 : Blk ((w.alloc (.cells #[.slice A n c, .slice A' m d] 27)).alloc (.cells #[.int .i64 s, .slice R kr er] 35)) w.heap.size 27 #[.slice A n c, .slice A' m d] := (Blk.new _ _ _).alloc _
  have hy0 : Blk ((w.alloc (.cells #[.slice A n c, .slice A' m d] 27)).alloc (.cells #[.int .i64 s, .slice R kr er] 35)) (w.heap.size + 1) 35 #[.int .i64 s, .slice R kr er] := by
    have := Blk.new (w.alloc (.cells #[.slice A n c, .slice A' m d] 27)) 35 #[.int .i64 s, .slice R kr er]
    simpa using this
  have h0 := h.grow hb0
  have hr0 := hr.grow hb0
  have hlx := h.xlen
  have hlf := h.flen
  have hm := h.mle
  have hn := h.nle
  have hlr := hr.len
  have hkr := hr.le
  have hsz0 : ((w.alloc (.cells #[.slice A n c, .slice A' m d] 27)).alloc (.cells #[.int .i64 s, .slice R kr er] 35)).heap.size = w.heap.size + 2 := by simp
  cases g1 : inB 0 ((n : Int) - 1) s
  · have H : Hid (rtB n fs s ids = false) := by unfold Hid rtB; rw [g1]; rfl
    clear hlx hlf hlr
    go_enter Try.func62, Try.ntmps62
    go_wp2_with (go_at_call 107; refine (within_any _ _ _ _).mono ?_; rintro e w' ⟨rfl, rfl⟩; rw [g1])
    go_ret2
    exact ⟨_, by rw [H.out]; rfl, by rw [rtL_no H.out]; exact World.ownsRow_nil _ _ _ _, hb0⟩
  · by_cases hk0 : kr = 0
    · have H : Hid (rtB n fs s ids = false) := by unfold Hid rtB; rw [g1, hlr, hk0]; rfl
      have e0 : (kr == 0) = true := by simp [hk0]
      have e1 : ((kr : Int) == 0) = true := by simp [hk0]
      clear hlx hlf hlr hk0
      go_enter Try.func62, Try.ntmps62
      go_wp2_with (go_at_call 107; refine (within_any _ _ _ _).mono ?_; rintro e w' ⟨rfl, rfl⟩; rw [g1])
      go_ret2
      exact ⟨_, by rw [H.out]; rfl, by rw [rtL_no H.out]; exact World.ownsRow_nil _ _ _ _, hb0⟩
    · have e0 : (kr == 0) = false := by simp [hk0]
      have e1 : ((kr : Int) == 0) = false := by simp; omega
      have HB : Hid (rtB n fs s ids = allB (okW m fs s ids) kr) := by unfold Hid rtB; rw [g1, hlr, e0, hlf]; rfl
      clear hlx
      go_enter Try.func62, Try.ntmps62
      go_wp2_with fail
      refine (within_any _ _ _ _).mono ?_
      rintro e w' ⟨rfl, rfl⟩
      rw [g1]
      go_wp2_with fail
      go_region
      have hbe : Below ((w.alloc (.cells #[.slice A n c, .slice A' m d] 27)).alloc (.cells #[.int .i64 s, .slice R kr er] 35)).heap.size ((w.alloc (.cells #[.slice A n c, .slice A' m d] 27)).alloc (.cells #[.int .i64 s, .slice R kr er] 35)) ((((w.alloc (.cells #[.slice A n c, .slice A' m d] 27)).alloc (.cells #[.int .i64 s, .slice R kr er] 35)).alloc (.cells #[.int .i64 s] 3)).drew) := by
        repeat (first | exact Below.refl _ _ | apply Below.drew | apply bl_alloc)
      have hoe : Hid (Owns elInt ((((w.alloc (.cells #[.slice A n c, .slice A' m d] 27)).alloc (.cells #[.int .i64 s, .slice R kr er] 35)).alloc (.cells #[.int .i64 s] 3)).drew) (w.heap.size + 2) 3 (.slice (some ⟨w.heap.size + 2, 0, none⟩) 1 1) (outW fs s ids 0)) :=
        hid ((show Owns elInt (((w.alloc (.cells #[.slice A n c, .slice A' m d] 27)).alloc (.cells #[.int .i64 s, .slice R kr er] 35)).alloc (.cells #[.int .i64 s] 3)) (w.heap.size + 2) 3 (.slice (some ⟨w.heap.size + 2, 0, none⟩) 1 1) [s] from Owns.of_blk (n := 1) (cap := 1) (cur := #[.int .i64 s]) (by have := Blk.new ((w.alloc (.cells #[.slice A n c, .slice A' m d] 27)).alloc (.cells #[.int .i64 s, .slice R kr er] 35)) 3 #[.int .i64 s]; simpa using this) (Nat.le_refl _) rfl (Nat.le_refl _) rfl (by decide) (filled_one s)).below (Below.drew (Below.refl _ _)))
      have q9 : ((((w.alloc (.cells #[.slice A n c, .slice A' m d] 27)).alloc (.cells #[.int .i64 s, .slice R kr er] 35)).alloc (.cells #[.int .i64 s] 3)).drew).cell? ⟨w.heap.size + 1, 1, none⟩ = some (.slice R kr er) := by
        have := (hy0.below hbe (by omega)).cell 1
        simpa using this
      go_wp2_with fail
      generalize hw0 : ((w.alloc (.cells #[.slice A n c, .slice A' m d] 27)).alloc (.cells #[.int .i64 s, .slice R kr er] 35)) = w0 at *
      clear q9
      go_loopw [6, 7, 32] (fun v a i wr => ∃ (k : Nat) (cu : Int), k ≤ kr ∧ i = .int .i64 k ∧ a = .int .i64 cu ∧ Hid (atW fs s ids k = cu) ∧ Hid (Owns elInt wr (w.heap.size + 2) 3 v (outW fs s ids k)) ∧ Hid (allTo (okW m fs s ids) k) ∧ Below w0.heap.size w0 wr) (fun _ _ i _ => kr - (intOf i).toNat)
      case atStart => exact ⟨0, s, Nat.zero_le _, rfl, rfl, rfl, hoe, allTo_zero _, hbe⟩
      case round =>
        clear hbe hoe
        obtain ⟨k, cu, hk, rfl, rfl, hcu, hown, hall, hb⟩ := hrel
        by_cases hlt : k < kr
        · obtain ⟨b, o, rfl, _, hc⟩ := hr0.2.at_ hlt
          obtain ⟨i, hik⟩ := get_of (k := k) hlr hlt
          have hci := bl_cell hb (hc k i hik 0 _ rfl)
          simp only [elInt, Nat.mul_one, Nat.add_zero] at hci
          have p1 := (hx0.below hb (by omega)).cell 1
          simp at p1
          have hwz := hb.size
          clear hc
          cases g2 : inB 0 ((m : Int) - 1) i
          · have H : Hid (rtB n fs s ids = false) := by unfold Hid; rw [HB.out]; exact allB_no hlt (by unfold okW; rw [getD_of hik, g2]; rfl)
            clear hik hown hall
            go_wp2_with (go_at_call 107; refine (within_any _ _ _ _).mono ?_; rintro e w' ⟨rfl, rfl⟩; rw [g2])
            go_ret2
            exact ⟨_, by rw [H.out]; rfl, by rw [rtL_no H.out]; exact World.ownsRow_nil _ _ _ _, hb0.trans (hb.mono (by omega))⟩
          · obtain ⟨i0', i1'⟩ := inB_idx g2
            obtain ⟨f, hf⟩ := get_of (k := i.toNat) hlf (by omega)
            obtain ⟨bf, of, rfl, _, hcf⟩ := h0.fibs.at_ (k := i.toNat) (by omega)
            have f0 := bl_cell hb (hcf _ f hf 0 _ rfl)
            have f1 := bl_cell hb (hcf _ f hf 1 _ rfl)
            have f2 := bl_cell hb (hcf _ f hf 2 _ rfl)
            have f3 := bl_cell hb (hcf _ f hf 3 _ rfl)
            simp only [elFib, Nat.add_zero] at f0 f1 f2 f3
            have HNX' : Hid (atW fs s ids (k + 1) = otherF f cu) := by unfold Hid; rw [← hcu.out]; exact atW_succ hik hf
            have HC := hid (otherEnd_any f cu wr)
            generalize hnx : otherF f cu = nx at HC HNX'
            have HNX := HNX'
            have hkk : Hid (okW m fs s ids k = (!decide (nx < 0) && !hasB (outW fs s ids k) nx)) := by unfold Hid okW; rw [getD_of hik, g2, HNX.out]; rfl
            clear hik hf hcf hnx hcu HNX'
            go_wp2_with fail
            refine (within_any _ _ _ _).mono ?_
            rintro e w' ⟨rfl, rfl⟩
            rw [g2]
            go_wp2_with fail
            refine HC.out.mono ?_
            rintro e wy ⟨rfl, hby⟩
            have hbz := bl_then hb hby
            have hoz : Hid (Owns elInt _ _ _ _ _) := hown.out.below hby
            obtain ⟨Ao, co, rfl, _, _, hso⟩ := hoz.out.form
            rw [outW_len] at hso ⊢
            have hso := hid hso
            have hwys := hby.size
            clear HC hown f0 f1 f2 f3 p1 hci
            cases g3 : decide (nx < 0)
            · cases g4 : hasB (outW fs s ids k) nx
              · have HALL : Hid (allTo (okW m fs s ids) (k + 1)) := allTo_succ hall.out (by rw [hkk.out, g3, g4]; rfl)
                have hbG := bl_alloc hbz (.cells #[.int .i64 nx] 3)
                have hoG : Hid (Owns elInt _ _ _ _ _) := hoz.out.below (bl_alloc (Below.refl _ _) (.cells #[.int .i64 nx] 3))
                have hoG2 : Hid (∀ g, (Value.slice Ao (k + 1) co).ownBlock = some g → w0.heap.size ≤ g) := fun g hg => by have := (hoG.out.lies g (by rw [outW_len]; exact hg)).1; omega
                rw [outW_len] at hoG
                have hll := outW_len fs s ids k
                clear hkk hoz hall
                go_wp2_with fail
                refine (containsI_any nx _ hso.out (by simp only [maxLen]; omega)).mono ?_
                rintro e w' ⟨rfl, rfl⟩
                rw [g4]
                clear hso
                go_wp2_with (first
                  | (at_builtin; refine wpList_append_own _ rfl _ _ 33 rfl (w.heap.size + 2) 3 i0 (.int .i64 0) 1 8 Try.underlying33 hi hz0 hz1 hz2 rfl (by decide) _ (outW fs s ids k).length ((outW fs s ids k).flatMap elInt.cells) rfl hoG.out ⟨_, 0, none⟩ 1 1 [.int .i64 nx] rfl rfl (one_new _ _ _ (by simp)) (fun u hu => by simp at hu; subst hu; rfl) (by unfold maxLen; omega) (by omega) (by simp; omega) ?_)
                  | go_in)
                intro v' w1 hown' hgrow _
                have HO : Hid (Owns elInt w1 (w.heap.size + 2) 3 v' (outW fs s ids (k + 1))) := by unfold Hid; rw [outW_succ, HNX.out]; exact Owns.appended (by rw [hll]; exact hown')
                have hbN := bl_grown hbG hgrow (fun g hg => by have := (hoG2.out g hg); omega)
                clear hown' hgrow hoG hbG hoG2
                go_wp2
                go_roundw
                case rel => exact ⟨k + 1, nx, by omega, by go_num, rfl, HNX, HO, HALL, hbN⟩
                case measure => simp [intOf]; omega
              · have H : Hid (rtB n fs s ids = false) := by unfold Hid; rw [HB.out]; exact allB_no hlt (by rw [hkk.out, g3, g4]; rfl)
                clear hkk hoz hall
                go_wp2_with fail
                refine (containsI_any nx _ hso.out (by simp only [maxLen]; omega)).mono ?_
                rintro e w' ⟨rfl, rfl⟩
                rw [g4]
                go_wp2_with fail
                go_ret2
                exact ⟨_, by rw [H.out]; rfl, by rw [rtL_no H.out]; exact World.ownsRow_nil _ _ _ _, hb0.trans (hbz.mono (by omega))⟩
            · have H : Hid (rtB n fs s ids = false) := by unfold Hid; rw [HB.out]; exact allB_no hlt (by rw [hkk.out, g3]; rfl)
              clear hkk hoz hall
              go_wp2_with fail
              go_ret2
              exact ⟨_, by rw [H.out]; rfl, by rw [rtL_no H.out]; exact World.ownsRow_nil _ _ _ _, hb0.trans (hbz.mono (by omega))⟩
        · have hkm : k = kr := by omega
          have H : Hid (rtB n fs s ids = true) := by unfold Hid; rw [HB.out]; exact allB_yes (by rw [← hkm]; exact hall.out) rfl
          have HL : Hid (rtL n fs s ids = outW fs s ids kr) := (rtL_yes H.out).trans (by rw [hlr])
          rw [hkm] at hown
          clear hlt hall hcu
          go_wp2
          go_ret2
          exact ⟨_, by rw [H.out]; rfl, by rw [HL.out]; exact hown.out.base (by omega), hb0.trans (hb.mono (by omega))⟩
end Go.Proofs.Ytfepilpllfiegaa
/- szStringS, walked: it takes the lengths off a number, -1 if that is too small. Conditions: the number lies in 0 .. 1048576. -/
namespace Go.Proofs.Ytfepilpllfiegaa
open Go.RowKit
def lessI (left : Int) (t : Nat) : Int := if (t : Int) ≤ left then left - t else -1
def sumTo (xs : List ByteArray) (k : Nat) : Nat := ((xs.take k).map ByteArray.size).sum
def strTot (xs : List ByteArray) : Nat := xs.length + sumTo xs xs.length
theorem sumTo_succ {xs : List ByteArray} {k : Nat} {x : ByteArray} (h : xs[k]? = some x) : sumTo xs (k + 1) = sumTo xs k + x.size := by
  unfold sumTo
  obtain ⟨hk, hx⟩ := List.getElem?_eq_some_iff.1 h
  rw [List.take_succ_eq_append_getElem hk, hx, List.map_append, List.sum_append]; simp
theorem sumTo_mono {xs : List ByteArray} {j k : Nat} (h : j ≤ k) : sumTo xs j ≤ sumTo xs k := by
  unfold sumTo
  obtain ⟨d, rfl⟩ := Nat.exists_eq_add_of_le h
  rw [List.take_add, List.map_append, List.sum_append]; omega
theorem size_le_tot {xs : List ByteArray} {x : ByteArray} (h : x ∈ xs) : x.size ≤ strTot xs := by
  obtain ⟨k, hk, e⟩ := List.mem_iff_getElem.1 h
  have h1 := sumTo_succ (xs := xs) (k := k) (x := x) (by rw [List.getElem?_eq_getElem hk, e])
  have h2 := sumTo_mono (xs := xs) (j := k + 1) (k := xs.length) hk
  unfold strTot; omega
theorem lessI_neg {left : Int} {t : Nat} (h : left < t) : lessI left t = -1 := by unfold lessI; rw [if_neg (by omega)]
theorem lessI_pos {left : Int} {t : Nat} (h : (t : Int) ≤ left) : lessI left t = left - t := by unfold lessI; rw [if_pos h]
end Go.Proofs.Ytfepilpllfiegaa
/- szFiberS and szNetwork, walked. Conditions: the number lies in 0 .. 1048576. -/
namespace Go.Proofs.Ytfepilpllfiegaa
open Go.RowKit
theorem lessI_bd {left : Int} {t : Nat} : (lessI left t = -1 ∧ left < t) ∨ (0 ≤ lessI left t ∧ lessI left t ≤ left ∧ (t : Int) ≤ left) := by
  unfold lessI; split <;> omega
theorem lessI_lessI {left : Int} {s t : Nat} : lessI left (s + t) = if lessI left s < 0 then -1 else lessI (lessI left s) t := by
  unfold lessI; split <;> split <;> (try split) <;> omega
/-- What a network holds: names, letters, fibers. -/
def netTot {α : Type} (xs : List ByteArray) (fs : List α) : Nat := strTot xs + fs.length
end Go.Proofs.Ytfepilpllfiegaa
/- How a network that can be read is opened. Conditions: none. -/
namespace Go.Proofs.Ytfepilpllfiegaa
open Go.ChangeShapes Go.WideShapes Go.ChangeAt Go.RowKit Go.Deep Go.Joins
theorem cellsS : Try.prog.cellsOf 9 = 1 := by kernel_rfl
theorem cellsI : Try.prog.cellsOf 3 = 1 := by kernel_rfl
section
variable {H : Type} {enc : TypeId × Value → H} {W : World} {spare : Nat → Bool} {held : Bool}
/-- A network that came in. -/
def NetArg (W : World) (A : Option Addr) (n c : Nat) (A' : Option Addr) (m d : Nat) (xs : List ByteArray) (fs : List Fib) : Prop :=
  SlArg elStr W A n c xs (fun s => s.size ≤ maxLen) ∧ SlArg elFib W A' m d fs (fun _ => True)
end
end Go.Proofs.Ytfepilpllfiegaa
/- Lists of numbers, and a fiber, that came in. Conditions: none. -/
namespace Go.Proofs.Ytfepilpllfiegaa
open Go.RowKit
section
variable {H : Type} {enc : TypeId × Value → H} {W : World} {spare : Nat → Bool} {held : Bool}
/-- A list of numbers that came in. -/
def IntsArg (W : World) (A : Option Addr) (n c : Nat) (xs : List Int) : Prop := SlArg elInt W A n c xs (fun a => -9223372036854775808 ≤ a ∧ a ≤ 9223372036854775807)
set_option maxRecDepth 100000 in
theorem open_ints {base : Nat} {v : Value} {d : DataW H} {p : List MemPlace} (hv : Value.okWide Try.prog W .any base 33 v) (h : DataW.Trod enc Try.prog W 0 spare held 33 v d p) :
    ∃ A n c xs, v = .slice A n c ∧ IntsArg W A n c xs :=
  open_sl_val elInt _ Try.underlying33 cellsI (el_int Try.underlying3) hv h
end
end Go.Proofs.Ytfepilpllfiegaa
/- szRoute, toRoute, eqRoute; IsValidRoute and RouteNodes of both sides, walked. Conditions: at most 1048576 fibers. -/
namespace Go.Proofs.Ytfepilpllfiegaa
open Go.RowKit
/-- The nodes of a route. -/
def routeL (xs : List ByteArray) (fs : List Fib) (s : Int) (ids : List Int) : List Int := if goodB xs fs then rtL xs.length fs s ids else []
section
variable {n c m d kr er : Nat} {A A' R : Option Addr} {xs : List ByteArray} {fs : List Fib} {ids : List Int}
set_option maxHeartbeats 1000000 in
set_option maxRecDepth 100000 in
theorem l4Good_any (s : Int) (w : World) (h : NetIs w A n c A' m d xs fs) (hr : RtIs w R kr er ids) :
    Calls Try.prog 95 #[.agg #[.slice A n c, .slice A' m d], .agg #[.int .i64 s, .slice R kr er]] w fun e w' => e = .returned (.bool (routeB xs fs s ids)) ∧ Below w.heap.size w w' := by
  have hb0 := bl_alloc (bl_alloc (Below.refl w.heap.size w) (.cells #[.slice A n c, .slice A' m d] 27)) (.cells #[.int .i64 s, .slice R kr er] 35)
  have hx0 : Blk ((w.alloc (.cells #[.slice A n c, .slice A' m d] 27)).alloc (.cells #[.int .i64 s, .slice R kr er] 35)) w.heap.size 27 #[.slice A n c, .slice A' m d] := (Blk.new _ _ _).alloc _
  have hy0 : Blk ((w.alloc (.cells #[.slice A n c, .slice A' m d] 27)).alloc (.cells #[.int .i64 s, .slice R kr er] 35)) (w.heap.size + 1) 35 #[.int .i64 s, .slice R kr er] := by
    have := Blk.new (w.alloc (.cells #[.slice A n c, .slice A' m d] 27)) 35 #[.int .i64 s, .slice R kr er]
    simpa using this
  have h0 := h.grow hb0
  have hr0 := hr.grow hb0
  cases g : goodB xs fs
  · have H : Hid (routeB xs fs s ids = false) := by unfold Hid routeB; rw [g]; rfl
    go_enter Try.func95, Try.ntmps95
    go_wp2_with fail
    refine (goodN _ h0).mono ?_
    rintro e w1 ⟨rfl, hb1⟩
    rw [g]
    go_wp2_with fail
    go_ret
    exact ⟨by rw [H.out]; rfl, bl_then hb0 hb1⟩
  · have H : Hid (routeB xs fs s ids = rtB n fs s ids) := by unfold Hid routeB; rw [g, h.xlen]; rfl
    go_enter Try.func95, Try.ntmps95
    go_wp2_with fail
    refine (goodN _ h0).mono ?_
    rintro e w1 ⟨rfl, hb1⟩
    rw [g]
    have p0 := (hx0.below hb1 hx0.lt).cell 0
    have p1 := (hx0.below hb1 hx0.lt).cell 1
    have p2 := (hy0.below hb1 hy0.lt).cell 0
    have p3 := (hy0.below hb1 hy0.lt).cell 1
    simp at p0 p1 p2 p3
    go_wp2_with fail
    refine (l4Walk_any s w1 (h0.grow hb1) (hr0.grow hb1)).mono ?_
    rintro e w2 ⟨v2, rfl, _, hb2⟩
    go_wp2_with fail
    go_ret
    exact ⟨by rw [H.out]; rfl, bl_then (bl_then hb0 hb1) hb2⟩
set_option maxRecDepth 100000 in
theorem specIsValidRoute (s : Int) (w : World) (h : NetIs w A n c A' m d xs fs) (hr : RtIs w R kr er ids) :
    Calls Try.prog 40 #[.agg #[.slice A n c, .slice A' m d], .agg #[.int .i64 s, .slice R kr er]] w fun e w' => e = .returned (.bool (routeB xs fs s ids)) ∧ Below w.heap.size w w' := by
  have hb0 := bl_alloc (bl_alloc (Below.refl w.heap.size w) (.cells #[.slice A n c, .slice A' m d] 27)) (.cells #[.int .i64 s, .slice R kr er] 35)
  have hx0 : Blk ((w.alloc (.cells #[.slice A n c, .slice A' m d] 27)).alloc (.cells #[.int .i64 s, .slice R kr er] 35)) w.heap.size 27 #[.slice A n c, .slice A' m d] := (Blk.new _ _ _).alloc _
  have hy0 : Blk ((w.alloc (.cells #[.slice A n c, .slice A' m d] 27)).alloc (.cells #[.int .i64 s, .slice R kr er] 35)) (w.heap.size + 1) 35 #[.int .i64 s, .slice R kr er] := by
    have := Blk.new (w.alloc (.cells #[.slice A n c, .slice A' m d] 27)) 35 #[.int .i64 s, .slice R kr er]
    simpa using this
  have h0 := h.grow hb0
  have hr0 := hr.grow hb0
  go_enter Try.func40, Try.ntmps40
  go_wp2_with fail
  refine (l4Good_any s _ h0 hr0).mono ?_
  rintro e w1 ⟨rfl, hb1⟩
  go_wp2_with fail
  go_ret
  exact ⟨rfl, bl_then hb0 hb1⟩
set_option maxHeartbeats 1000000 in
set_option maxRecDepth 100000 in
theorem implRouteNodes (s : Int) (w : World) (h : NetIs w A n c A' m d xs fs) (hr : RtIs w R kr er ids) :
    Calls Try.prog 15 #[.agg #[.slice A n c, .slice A' m d], .agg #[.int .i64 s, .slice R kr er]] w fun e w' => ∃ v, e = .returned (.tuple #[v, .bool (routeB xs fs s ids)]) ∧ Owns elInt w' w.heap.size 3 v (routeL xs fs s ids) ∧ Below w.heap.size w w' := by
  have hb0 := bl_alloc (bl_alloc (Below.refl w.heap.size w) (.cells #[.slice A n c, .slice A' m d] 27)) (.cells #[.int .i64 s, .slice R kr er] 35)
  have hx0 : Blk ((w.alloc (.cells #[.slice A n c, .slice A' m d] 27)).alloc (.cells #[.int .i64 s, .slice R kr er] 35)) w.heap.size 27 #[.slice A n c, .slice A' m d] := (Blk.new _ _ _).alloc _
  have hy0 : Blk ((w.alloc (.cells #[.slice A n c, .slice A' m d] 27)).alloc (.cells #[.int .i64 s, .slice R kr er] 35)) (w.heap.size + 1) 35 #[.int .i64 s, .slice R kr er] := by
    have := Blk.new (w.alloc (.cells #[.slice A n c, .slice A' m d] 27)) 35 #[.int .i64 s, .slice R kr er]
    simpa using this
  have h0 := h.grow hb0
  have hr0 := hr.grow hb0
  cases g : goodB xs fs
  · have H : Hid (routeB xs fs s ids = false ∧ routeL xs fs s ids = []) := by unfold Hid routeB routeL; rw [g]; exact ⟨rfl, rfl⟩
    go_enter Try.func15, Try.ntmps15
    go_wp2_with fail
    refine (validN _ h0).mono ?_
    rintro e w1 ⟨rfl, hb1⟩
    rw [g]
    go_wp2_with fail
    go_ret2
    exact ⟨_, by rw [H.out.1]; rfl, by rw [H.out.2]; exact World.ownsRow_nil _ _ _ _, bl_then hb0 hb1⟩
  · have H : Hid (routeB xs fs s ids = rtB n fs s ids ∧ routeL xs fs s ids = rtL n fs s ids) := by unfold Hid routeB routeL; rw [g, h.xlen]; exact ⟨rfl, rfl⟩
    go_enter Try.func15, Try.ntmps15
    go_wp2_with fail
    refine (validN _ h0).mono ?_
    rintro e w1 ⟨rfl, hb1⟩
    rw [g]
    have p0 := (hx0.below hb1 hx0.lt).cell 0
    have p1 := (hx0.below hb1 hx0.lt).cell 1
    have p2 := (hy0.below hb1 hy0.lt).cell 0
    have p3 := (hy0.below hb1 hy0.lt).cell 1
    simp at p0 p1 p2 p3
    go_wp2_with fail
    refine (visited_any s w1 (h0.grow hb1) (hr0.grow hb1)).mono ?_
    rintro e w2 ⟨v2, rfl, ho2, hb2⟩
    have hbw := bl_then hb0 hb1
    have HO := hid ho2
    clear ho2
    go_wp2_with fail
    go_ret2
    exact ⟨_, by rw [H.out.1]; rfl, by rw [H.out.2]; exact HO.out.base hbw.size, bl_then hbw hb2⟩
set_option maxRecDepth 100000 in
theorem implIsValidRoute (s : Int) (w : World) (h : NetIs w A n c A' m d xs fs) (hr : RtIs w R kr er ids) :
    Calls Try.prog 92 #[.agg #[.slice A n c, .slice A' m d], .agg #[.int .i64 s, .slice R kr er]] w fun e w' => e = .returned (.bool (routeB xs fs s ids)) ∧ Below w.heap.size w w' := by
  have hb0 := bl_alloc (bl_alloc (Below.refl w.heap.size w) (.cells #[.slice A n c, .slice A' m d] 27)) (.cells #[.int .i64 s, .slice R kr er] 35)
  have hx0 : Blk ((w.alloc (.cells #[.slice A n c, .slice A' m d] 27)).alloc (.cells #[.int .i64 s, .slice R kr er] 35)) w.heap.size 27 #[.slice A n c, .slice A' m d] := (Blk.new _ _ _).alloc _
  have hy0 : Blk ((w.alloc (.cells #[.slice A n c, .slice A' m d] 27)).alloc (.cells #[.int .i64 s, .slice R kr er] 35)) (w.heap.size + 1) 35 #[.int .i64 s, .slice R kr er] := by
    have := Blk.new (w.alloc (.cells #[.slice A n c, .slice A' m d] 27)) 35 #[.int .i64 s, .slice R kr er]
    simpa using this
  have h0 := h.grow hb0
  have hr0 := hr.grow hb0
  go_enter Try.func92, Try.ntmps92
  go_wp2_with fail
  refine (implRouteNodes s _ h0 hr0).mono ?_
  rintro e w1 ⟨v1, rfl, _, hb1⟩
  go_wp2_with fail
  go_ret
  exact ⟨rfl, bl_then hb0 hb1⟩
end
end Go.Proofs.Ytfepilpllfiegaa
/- Small functions of the laws, walked: a number held in a list, equal lists and routes and networks, nodes apart, a list without one place. Conditions: as each states. -/
namespace Go.Proofs.Ytfepilpllfiegaa
open Go.RowKit
section
variable {α : Type} {A A' : Option Addr} {n c c' : Nat} {xs : List Int} {B B' : Nat}
set_option maxRecDepth 100000 in
theorem vHas_any (s : Int) (w : World) (hA : Sees elInt w B A n xs) (hn : n ≤ maxLen) :
    Calls Try.prog 21 #[.slice A n c, .int .i64 s] w fun e w' => e = .returned (.bool (hasB xs s)) ∧ w = w' := by
  unfold maxLen at hn
  go_enter Try.func21, Try.ntmps21
  go_wp2
  go_loop [5] (fun i => ∃ k : Nat, k ≤ n ∧ i = .int .i64 k ∧ Hid (noneTo xs s k)) (fun i => n - (intOf i).toNat)
  case atStart => exact ⟨0, Nat.zero_le _, rfl, noneTo_zero⟩
  case round =>
    obtain ⟨k, hk, rfl, hno⟩ := hrel
    by_cases hlt : k < n
    · obtain ⟨b, o, rfl, _, hx⟩ := hA.at_ hlt
      obtain ⟨x, hxk⟩ : ∃ x, xs[k]? = some x := ⟨xs[k]'(by rw [hA.len]; exact hlt), List.getElem?_eq_getElem _⟩
      have hc := hx k x hxk 0 _ rfl
      simp only [elInt, Nat.mul_one, Nat.add_zero] at hc
      clear hx
      by_cases heq : x = s
      · subst heq
        have HF : Hid (hasB xs x = true) := hasB_iff.2 (List.mem_of_getElem? hxk)
        clear hxk
        go_wp2
        go_ret
        exact ⟨by rw [HF.out]; rfl, rfl⟩
      · have hne : (x == s) = false := by simp; exact heq
        have HN := hid (noneTo_succ hno hxk heq)
        clear hxk hno
        go_wp2
        go_round
        case rel => exact ⟨k + 1, by omega, by go_num, HN⟩
        case measure => simp [intOf]; omega
    · have HF : Hid (hasB xs s = false) := by
        unfold Hid
        cases g : hasB xs s
        · rfl
        · exact absurd (hasB_iff.1 g) (noneTo_not hA.len (by obtain rfl : k = n := (by omega); exact hno.out))
      go_wp2
      go_ret
      exact ⟨by rw [HF.out]; rfl, rfl⟩
set_option maxRecDepth 100000 in
theorem vInts_same (w : World) (hA : Sees elInt w B A n xs) (hA' : Sees elInt w B' A' n xs) (hn : n ≤ 1048576) :
    Calls Try.prog 20 #[.slice A n c, .slice A' n c'] w fun e w' => e = .returned (.bool true) ∧ Below w.heap.size w w' := by
  go_enter Try.func20, Try.ntmps20
  go_wp2
  go_loopw [5] (fun i wr => ∃ k q : Nat, k ≤ n ∧ i = .int .i64 k ∧ wr = w.drewN q) (fun i _ => n - (intOf i).toNat)
  case atStart => exact ⟨0, 0, Nat.zero_le _, rfl, rfl⟩
  case round =>
    obtain ⟨k, q, hk, rfl, rfl⟩ := hrel
    by_cases hlt : k < n
    · obtain ⟨b, o, rfl, _, hc⟩ := hA.at_ hlt
      obtain ⟨b', o', rfl, _, hc'⟩ := hA'.at_ hlt
      obtain ⟨x, hxk⟩ : ∃ x, xs[k]? = some x := ⟨xs[k]'(by rw [hA.len]; exact hlt), List.getElem?_eq_getElem _⟩
      have h1 := hc k x hxk 0 _ rfl
      have h2 := hc' k x hxk 0 _ rfl
      simp only [elInt, Nat.mul_one, Nat.add_zero] at h1 h2
      clear hc hc' hxk
      have i1 : (k : Int) < (n : Int) := by omega
      go_wp2
      go_quiet (fail)
      go_wp2
      go_roundw
      case rel => exact ⟨k + 1, _, by omega, by go_num, rfl⟩
      case measure => simp [intOf]; omega
    · go_wp2
      go_ret
      exact ⟨rfl, bl_drewN (Below.refl _ _) _⟩
set_option maxHeartbeats 1000000 in
set_option maxRecDepth 100000 in
theorem vRoutes_same {B B' e1 e2 k : Nat} {R R2 : Option Addr} {ids : List Int} (s : Int) (w : World) (h1 : Sees elInt w B R k ids) (h2 : Sees elInt w B' R2 k ids) (hk : k ≤ 1048576) (hB : B ≤ w.heap.size) (hB' : B' ≤ w.heap.size) :
    Calls Try.prog 14 #[.agg #[.int .i64 s, .slice R k e1], .agg #[.int .i64 s, .slice R2 k e2]] w fun e w' => e = .returned (.bool true) ∧ Below w.heap.size w w' := by
  have hb0 : Below w.heap.size w ((w.alloc (.cells #[.int .i64 s, .slice R k e1] 35)).alloc (.cells #[.int .i64 s, .slice R2 k e2] 35)) := bl_alloc (bl_alloc (Below.refl _ _) _) _
  have k1 := (h1.more hB).grow hb0
  have k2 := (h2.more hB').grow hb0
  go_enter Try.func14, Try.ntmps14
  go_wp2_with fail
  refine (vInts_same _ k1 k2 hk).mono ?_
  rintro e w1 ⟨rfl, hb⟩
  have HB := hid (bl_then hb0 hb)
  clear hb k1 k2 hb0
  go_wp2_with fail
  go_ret
  exact ⟨rfl, HB.out⟩
set_option maxHeartbeats 1000000 in
set_option maxRecDepth 100000 in
theorem rApart_any {m d c2 : Nat} {V E : Option Addr} {xs : List ByteArray} {fs : List Fib} {l : List Int} (a b : Nat) (w : World) (h : NetIs w A n c E m d xs fs) (hv : Sees elInt w w.heap.size V l.length l) (hl : l.length ≤ 1048576) (hco : coB xs fs l = true) (ha : a < n) (hb : b < n) :
    Calls Try.prog 22 #[.agg #[.slice A n c, .slice E m d], .slice V l.length c2, .int .i64 (a : Int), .int .i64 (b : Int)] w fun e w' => e = .returned (.bool (decide (valL (compL (goneF l) fs n) a ≠ valL (compL (goneF l) fs n) b))) ∧ Below w.heap.size w w' := by
  have hb0 := bl_alloc (Below.refl w.heap.size w) (.cells #[.slice A n c, .slice E m d] 27)
  have HC := hid (implComponentsOf (c' := c2) _ (h.grow hb0) ((hv.grow hb0).more hb0.size) hl)
  have HB0 := hid hb0
  rw [hco] at HC
  have hL : coL xs fs l = compL (goneF l) fs n := by unfold coL; rw [hco, h.xlen]; rfl
  have hg : goodB xs fs = true := by unfold coB at hco; rw [Bool.and_eq_true] at hco; exact hco.1
  have hlen : (compL (goneF l) fs n).length = n := compL_len
  have hn8 := (goodB_bd hg).2.1
  rw [h.xlen] at hn8
  rw [hL] at HC
  obtain ⟨L, hLL⟩ : ∃ L, L = compL (goneF l) fs n := ⟨_, rfl⟩
  rw [← hLL] at HC hlen
  rw [← hLL]
  have HLEN := hid hlen
  clear h hv hco hL hLL hb0 hlen hg
  go_enter Try.func22, Try.ntmps22
  go_wp2_with fail
  refine HC.out.mono ?_
  rintro e w1 ⟨v, rfl, ho, hb1⟩
  have hS := (Led.nil w).owns_ (b0 := w.heap.size) (bl_then HB0.out hb1) ho (by simp) (by simp)
  obtain ⟨g, cc, rfl⟩ := hS.row_ 0 rfl HLEN.out (by omega)
  have va := hS.int_at 0 rfl (j := a) (by rw [HLEN.out]; exact ha)
  have vb := hS.int_at 0 rfl (j := b) (by rw [HLEN.out]; exact hb)
  have CA : ∀ w', Cls w1 w' → w'.cell? ⟨g, a, none⟩ = some (.int .i64 (valL L a)) := fun _ h => h.cell va
  have CB : ∀ w', Cls w1 w' → w'.cell? ⟨g, b, none⟩ = some (.int .i64 (valL L b)) := fun _ h => h.cell vb
  obtain ⟨x, hx⟩ : ∃ x, valL L a = x := ⟨_, rfl⟩
  obtain ⟨y, hy⟩ : ∃ y, valL L b = y := ⟨_, rfl⟩
  rw [hx] at va CA
  rw [hy] at vb CB
  have HXA := hid hx
  have HYB := hid hy
  have HS := hid hS.bl
  have hla : (a : Int) < (n : Int) := by omega
  have hlb : (b : Int) < (n : Int) := by omega
  have hla0 : (0 : Int) ≤ (a : Int) := by omega
  have hlb0 : (0 : Int) ≤ (b : Int) := by omega
  have HX : Hid ((x != y) = decide (x ≠ y)) := by
    unfold Hid
    by_cases e : x = y
    · subst e; simp
    · simp [e]
  clear hS va vb ho hb1 HC hx hy
  go_wp2_with fail
  refine region_cls (by kernel_rfl) (by kernel_rfl) ?_
  repeat (first
    | ((with_reducible refine quiet_pos ?_ (fun K hK => ?_))
       · rfl
       apply Exists.intro
       refine ⟨fun w' hw' => ?_, ?_⟩
       · go_simp
         with_reducible rfl
       simp only [Act.put, List.setIfInBounds_toArray, List.set_cons_zero, List.set_cons_succ]
       refine hK _ ?_; clear hK K)
    | ((with_reducible refine quiet_neg ?_ (fun K hK => ?_))
       · rfl
       simp only [Act.put, List.setIfInBounds_toArray, List.set_cons_zero, List.set_cons_succ]
       refine hK _ ?_; clear hK K))
  with_reducible refine wpQuiet_nil ?_
  intro wz hwz'
  go_wp2_with fail
  go_ret
  exact ⟨ret_bool (by rw [HX.out, HXA.out, HYB.out]), bl_then HS.out hwz'⟩

set_option maxHeartbeats 1000000 in
set_option maxRecDepth 100000 in
theorem vNetworks_same {B B' m d d' : Nat} {E E' : Option Addr} {xs : List ByteArray} {fs : List Fib} (w : World) (hA : Sees elStr w B A n xs) (hA' : Sees elStr w B' A' n xs) (hF : Sees elFib w B E m fs) (hF' : Sees elFib w B' E' m fs)
    (hB : B ≤ w.heap.size) (hB' : B' ≤ w.heap.size) (hn : n ≤ 1048576) (hm : m ≤ 1048576) :
    Calls Try.prog 52 #[.agg #[.slice A n c, .slice E m d], .agg #[.slice A' n c', .slice E' m d']] w fun e w' => e = .returned (.bool true) ∧ Below w.heap.size w w' := by
  have hS := ((Led.nil w).blk_ w.heap.size rfl 27 #[.slice A n c, .slice E m d]).blk_ (w.heap.size + 1) (by simp) 27 #[.slice A' n c', .slice E' m d']
  have HS := hid hS
  replace hA := hid (hA.more hB)
  replace hA' := hid (hA'.more hB')
  replace hF := hid (hF.more hB)
  replace hF' := hid (hF'.more hB')
  clear hS
  go_enter Try.func52, Try.ntmps52
  go_wp2_with fail
  go_loopw [5] (fun i wr => ∃ k : Nat, k ≤ n ∧ i = .int .i64 k ∧ Hid (Led w wr [tBlk (w.heap.size + 1) 27 #[.slice A' n c', .slice E' m d'], tBlk w.heap.size 27 #[.slice A n c, .slice E m d]])) (fun i _ => n - (intOf i).toNat)
  case atStart => exact ⟨0, Nat.zero_le _, rfl, HS⟩
  case round =>
    clear HS
    obtain ⟨k, hk, rfl, HS⟩ := hrel
    have p0 := HS.out.cell 1 0 rfl rfl
    have D0 : ∀ w', Cls wr w' → w'.cell? ⟨w.heap.size, 0, none⟩ = some (.slice A n c) := fun _ h => h.cell (HS.out.cell 1 0 rfl rfl)
    have D1 : ∀ w', Cls wr w' → w'.cell? ⟨w.heap.size + 1, 0, none⟩ = some (.slice A' n c') := fun _ h => h.cell (HS.out.cell 0 0 rfl rfl)
    by_cases hlt : k < n
    · obtain ⟨b, o, rfl, _, hc⟩ := (hA.out.grow HS.out.bl).at_ hlt
      obtain ⟨b', o', rfl, _, hc'⟩ := (hA'.out.grow HS.out.bl).at_ hlt
      obtain ⟨x, hxk⟩ := get_of (k := k) hA.out.len hlt
      have f0 := hc k x hxk 0 _ rfl
      have f1 := hc' k x hxk 0 _ rfl
      simp only [elStr, Nat.mul_one, Nat.add_zero] at f0 f1
      have F0 : ∀ w', Cls wr w' → w'.cell? ⟨b, o + k, none⟩ = some (.string x) := fun _ h => h.cell f0
      have F1 : ∀ w', Cls wr w' → w'.cell? ⟨b', o' + k, none⟩ = some (.string x) := fun _ h => h.cell f1
      have iz : (k : Int) < (n : Int) := by omega
      have ie : (x.toList == x.toList) = true := beq_self_eq_true _
      clear hc hc' f0 f1 hxk
      go_wp2_with fail
      refine region_cls (by kernel_rfl) (by kernel_rfl) ?_
      repeat (first
        | ((with_reducible refine quiet_pos ?_ (fun K hK => ?_))
           · rfl
           apply Exists.intro
           refine ⟨fun w' hw' => ?_, ?_⟩
           · go_simp
             with_reducible rfl
           simp only [Act.put, List.setIfInBounds_toArray, List.set_cons_zero, List.set_cons_succ]
           refine hK _ ?_; clear hK K)
        | ((with_reducible refine quiet_neg ?_ (fun K hK => ?_))
           · rfl
           simp only [Act.put, List.setIfInBounds_toArray, List.set_cons_zero, List.set_cons_succ]
           refine hK _ ?_; clear hK K))
      with_reducible refine wpQuiet_nil ?_
      intro wz hwz'
      have HS1 := hid (HS.out.step hwz')
      clear HS D0 D1 F0 F1 hwz' p0
      go_wp2
      go_roundw
      case rel => exact ⟨k + 1, by omega, by go_num, HS1⟩
      case measure => simp [intOf]; omega
    · have iz : ¬ ((k : Int) < (n : Int)) := by omega
      clear D0 D1
      go_wp2_with fail
      go_loopw [6] (fun i wr => ∃ k : Nat, k ≤ m ∧ i = .int .i64 k ∧ Hid (Led w wr [tBlk (w.heap.size + 1) 27 #[.slice A' n c', .slice E' m d'], tBlk w.heap.size 27 #[.slice A n c, .slice E m d]])) (fun i _ => m - (intOf i).toNat)
      case atStart => exact ⟨0, Nat.zero_le _, rfl, HS⟩
      case round =>
        clear HS p0
        obtain ⟨k, hk, rfl, HS⟩ := hrel
        have p0 := HS.out.cell 1 1 rfl rfl
        have D0 : ∀ w', Cls wr w' → w'.cell? ⟨w.heap.size, 1, none⟩ = some (.slice E m d) := fun _ h => h.cell (HS.out.cell 1 1 rfl rfl)
        have D1 : ∀ w', Cls wr w' → w'.cell? ⟨w.heap.size + 1, 1, none⟩ = some (.slice E' m d') := fun _ h => h.cell (HS.out.cell 0 1 rfl rfl)
        by_cases hlt : k < m
        · obtain ⟨b, o, rfl, _, hc⟩ := (hF.out.grow HS.out.bl).at_ hlt
          obtain ⟨b', o', rfl, _, hc'⟩ := (hF'.out.grow HS.out.bl).at_ hlt
          obtain ⟨f, hfk⟩ := get_of (k := k) hF.out.len hlt
          have T0 : ∀ w', Cls wr w' → w'.cell? ⟨b, o + k * 4, none⟩ = some (.int .i64 f.a) := fun _ h => h.cell (hc k f hfk 0 _ rfl)
          have T1 : ∀ w', Cls wr w' → w'.cell? ⟨b, o + k * 4 + 1, none⟩ = some (.int .i64 f.b) := fun _ h => h.cell (hc k f hfk 1 _ rfl)
          have T2 : ∀ w', Cls wr w' → w'.cell? ⟨b, o + k * 4 + 2, none⟩ = some (.int .i64 f.len) := fun _ h => h.cell (hc k f hfk 2 _ rfl)
          have T3 : ∀ w', Cls wr w' → w'.cell? ⟨b, o + k * 4 + 3, none⟩ = some (.int .i64 f.risk) := fun _ h => h.cell (hc k f hfk 3 _ rfl)
          have S0 : ∀ w', Cls wr w' → w'.cell? ⟨b', o' + k * 4, none⟩ = some (.int .i64 f.a) := fun _ h => h.cell (hc' k f hfk 0 _ rfl)
          have S1 : ∀ w', Cls wr w' → w'.cell? ⟨b', o' + k * 4 + 1, none⟩ = some (.int .i64 f.b) := fun _ h => h.cell (hc' k f hfk 1 _ rfl)
          have S2 : ∀ w', Cls wr w' → w'.cell? ⟨b', o' + k * 4 + 2, none⟩ = some (.int .i64 f.len) := fun _ h => h.cell (hc' k f hfk 2 _ rfl)
          have S3 : ∀ w', Cls wr w' → w'.cell? ⟨b', o' + k * 4 + 3, none⟩ = some (.int .i64 f.risk) := fun _ h => h.cell (hc' k f hfk 3 _ rfl)
          have iz : (k : Int) < (m : Int) := by omega
          clear hc hc' hfk
          go_wp2_with fail
          refine region_cls (by kernel_rfl) (by kernel_rfl) ?_
          repeat (first
            | ((with_reducible refine quiet_pos ?_ (fun K hK => ?_))
               · rfl
               apply Exists.intro
               refine ⟨fun w' hw' => ?_, ?_⟩
               · go_simp
                 with_reducible rfl
               simp only [Act.put, List.setIfInBounds_toArray, List.set_cons_zero, List.set_cons_succ]
               refine hK _ ?_; clear hK K)
            | ((with_reducible refine quiet_neg ?_ (fun K hK => ?_))
               · rfl
               simp only [Act.put, List.setIfInBounds_toArray, List.set_cons_zero, List.set_cons_succ]
               refine hK _ ?_; clear hK K))
          with_reducible refine wpQuiet_nil ?_
          intro wz hwz'
          have HS1 := hid (HS.out.step hwz')
          clear HS D0 D1 T0 T1 T2 T3 S0 S1 S2 S3 hwz' p0
          go_wp2
          go_roundw
          case rel => exact ⟨k + 1, by omega, by go_num, HS1⟩
          case measure => simp [intOf]; omega
        · have iz : ¬ ((k : Int) < (m : Int)) := by omega
          clear D0 D1
          go_wp2
          go_ret
          exact ⟨rfl, HS.out.bl⟩

theorem Sees.backG {α : Type} {E : El α} {w : World} {B b o n k : Nat} {l : List α} (h : Sees E w B (some ⟨b, o, none⟩) n l) (hz : E.sz = 1) (hk : k ≤ n) : Sees E w B (some ⟨b, o + k, none⟩) (n - k) (l.drop k) := by
  refine ⟨by rw [List.length_drop, h.1], ?_⟩
  rcases h.2 with h0 | ⟨b', o', e, hb, hc⟩
  · exact .inl (by omega)
  · injection e with e
    injection e with e1 e2
    subst e1 e2
    refine .inr ⟨b, _, rfl, hb, fun j x hx i u hu => ?_⟩
    rw [List.getElem?_drop] at hx
    have h1 := hc (k + j) x hx i u hu
    rw [hz] at h1 ⊢
    have e : o + (k + j) * 1 + i = o + k + j * 1 + i := by omega
    rw [← e]; exact h1
set_option maxHeartbeats 1000000 in
set_option maxRecDepth 100000 in
theorem rWithout_any {i : Nat} (w : World) (hA : Sees elInt w w.heap.size A n xs) (hnc : n ≤ c) (hn : n ≤ 1048576) (hi : i < n) :
    Calls Try.prog 31 #[.slice A n c, .int .i64 (i : Int)] w fun e w' => ∃ A1 c1, e = .returned (.slice A1 (n - 1) c1) ∧ Owns elInt w' w.heap.size 3 (.slice A1 (n - 1) c1) (xs.take i ++ xs.drop (i + 1)) ∧ Below w.heap.size w w' := by
  obtain ⟨j0, hj, hy0, hy1, hy2⟩ := info_parts int_info
  have HN := hid hA
  have hlf := hA.len
  obtain ⟨b, o, rfl, -, -⟩ := hA.at_ hi
  have hW := Led.nil w
  obtain ⟨q, hq⟩ : ∃ q, q = i + 1 := ⟨_, rfl⟩
  have i0 : (0 : Int) ≤ (i : Int) := by omega
  have i1 : (i : Int) ≤ (n : Int) := by omega
  have i2 : (q : Int) ≤ (n : Int) := by omega
  have i3 : (0 : Int) ≤ (q : Int) := by omega
  have i4 : (i : Int) ≤ (c : Int) := by omega
  have i5 : (q : Int) ≤ (c : Int) := by omega
  have iw : IntKind.i64.wrap ((i : Int) + 1) = (q : Int) := by rw [IntWalk.i64_in _ (by omega)]; omega
  have hnc2 : (n : Int) ≤ (c : Int) := by omega
  have HTl : Hid ((xs.take i).length = i) := by unfold Hid; rw [List.length_take]; omega
  have HDl : Hid ((xs.drop q).length = n - q) := by unfold Hid; rw [List.length_drop, hlf]
  have HE1 : Hid (i + (n - q) = n - 1) := by unfold Hid; omega
  have HQ := hid hq
  have him : i ≤ n := by omega
  have hi1 : q ≤ n := by omega
  have hres : (xs.take i ++ xs.drop (i + 1)) = xs.take i ++ xs.drop q := by rw [hq]
  rw [hres]
  clear hA hlf hq hres
  by_cases hdk : c = q
  · subst hdk
    have HE2 : Hid (i + 0 = n - 1) := by have := HQ.out; unfold Hid; omega
    go_enter Try.func31, Try.ntmps31
    go_wp2_with fail
    refine wp_region_held_drew (S := fun w' => Led w w' []) (by kernel_rfl) (hW.step (Cls.drew _)) (fun hHeld => ?_)
    refine wpAnyH_take (i := 1) (oi := _) (v := ?_) rfl (by kernel_rfl) (by kernel_rfl) (by kernel_rfl) (fun _ _ _ h => h) (Or.inl ⟨by rfl, ?_⟩) (by assumption) ?_
    rotate_left
    · intro w hSw; go_simp; with_reducible rfl
    simp only [Act.put, List.getElem_toArray, List.getElem_cons_zero, List.getElem_cons_succ, List.setIfInBounds_toArray, List.set_cons_zero, List.set_cons_succ]
    refine wpAnyH_take (i := 2) (oi := _) (v := ?_) rfl (by kernel_rfl) (by kernel_rfl) (by kernel_rfl) (fun _ _ _ h => h) (Or.inl ⟨by rfl, ?_⟩) (by assumption) ?_
    rotate_left
    · intro w hSw; go_simp; with_reducible rfl
    simp only [Act.put, List.getElem_toArray, List.getElem_cons_zero, List.getElem_cons_succ, List.setIfInBounds_toArray, List.set_cons_zero, List.set_cons_succ]
    refine wpAnyH_take (i := 3) (oi := _) (v := ?_) rfl (by kernel_rfl) (by kernel_rfl) (by kernel_rfl) (fun _ _ _ h => h) (Or.inl ⟨by rfl, ?_⟩) (by assumption) ?_
    rotate_left
    · intro w hSw; go_simp; with_reducible rfl
    simp only [Act.put, List.getElem_toArray, List.getElem_cons_zero, List.getElem_cons_succ, List.setIfInBounds_toArray, List.set_cons_zero, List.set_cons_succ]
    refine wpAnyH_take (i := 5) (oi := _) (v := ?_) rfl (by kernel_rfl) (by kernel_rfl) (by kernel_rfl) (fun _ _ _ h => h) (Or.inl ⟨by rfl, ?_⟩) (by assumption) ?_
    rotate_left
    · intro w hSw; go_simp; with_reducible rfl
    simp only [Act.put, List.getElem_toArray, List.getElem_cons_zero, List.getElem_cons_succ, List.setIfInBounds_toArray, List.set_cons_zero, List.set_cons_succ]
    refine wpAnyH_take (i := 6) (oi := _) (v := ?_) rfl (by kernel_rfl) (by kernel_rfl) (by kernel_rfl) (fun _ _ _ h => h) (Or.inl ⟨by rfl, ?_⟩) (by assumption) ?_
    rotate_left
    · intro w hSw; go_simp; with_reducible rfl
    simp only [Act.put, List.getElem_toArray, List.getElem_cons_zero, List.getElem_cons_succ, List.setIfInBounds_toArray, List.set_cons_zero, List.set_cons_succ]
    refine wpAnyH_take (i := 7) (oi := _) (v := ?_) rfl (by kernel_rfl) (by kernel_rfl) (by kernel_rfl) (fun _ _ _ h => h) (Or.inl ⟨by rfl, ?_⟩) (by assumption) ?_
    rotate_left
    · intro w hSw; go_simp; with_reducible rfl
    simp only [Act.put, List.getElem_toArray, List.getElem_cons_zero, List.getElem_cons_succ, List.setIfInBounds_toArray, List.set_cons_zero, List.set_cons_succ]
    refine wpAnyH_take (i := 8) (oi := _) (v := ?_) rfl (by kernel_rfl) (by kernel_rfl) (by kernel_rfl) (fun _ _ _ h => h) (Or.inl ⟨by rfl, ?_⟩) (by assumption) ?_
    rotate_left
    · intro w hSw; go_simp; with_reducible rfl
    simp only [Act.put, List.getElem_toArray, List.getElem_cons_zero, List.getElem_cons_succ, List.setIfInBounds_toArray, List.set_cons_zero, List.set_cons_succ]
    refine wpAnyH_ready (rs := [0]) (by kernel_rfl) (by simp) ?_
    refine AllReadyH.cons rfl (fun K hK => ?_) AllReadyH.nil
    have a1 := (hW.empty elInt 3 w.heap.size rfl w.heap.size (Nat.le_refl _)).step (Cls.drew _)
    go_simp
    go_wp2_with fail
    refine hK.out _ _ (a1.drop 1) (fun hHeld => ?_)
    clear hK K
    try simp only [Act.put, List.getElem_toArray, List.getElem_cons_zero, List.getElem_cons_succ, List.setIfInBounds_toArray, List.set_cons_zero, List.set_cons_succ]
    refine wpAnyH_ready (rs := [4]) (by kernel_rfl) (by simp) ?_
    refine AllReadyH.cons rfl (fun K hK => ?_) AllReadyH.nil
    refine step_append_led rfl _ _ 33 rfl a1 0 rfl Try.underlying33 hj hy0 hy1 (by rw [hy2]; decide) rfl rfl rfl ((HN.out.grow a1.bl).take him) (by simp; omega) a1.bl.size ?_
    intro B1 b1 v1 h1
    simp only [List.length_nil, Nat.zero_add, List.nil_append] at h1 ⊢
    refine hK.out _ _ (h1.drop 1) (fun hHeld => ?_)
    clear hK K
    try simp only [Act.put, List.getElem_toArray, List.getElem_cons_zero, List.getElem_cons_succ, List.setIfInBounds_toArray, List.set_cons_zero, List.set_cons_succ]
    refine wpAnyH_ready (rs := [9]) (by kernel_rfl) (by simp) ?_
    refine AllReadyH.cons rfl (fun K hK => ?_) AllReadyH.nil
    refine step_append_led rfl _ _ 33 rfl h1 0 rfl Try.underlying33 hj hy0 hy1 (by rw [hy2]; decide) rfl rfl rfl ((show Sees elInt _ 0 _ _ (xs.drop c) from by have h0 : xs.drop c = [] := List.drop_of_length_le (by have := HN.out.len; omega); rw [h0]; exact Sees.nil elInt _ 0 _)) (by rw [HTl.out]; omega) h1.bl.size ?_
    intro B2 b2 v2 h2
    rw [HTl.out, HE2.out] at h2
    rw [HTl.out, HE2.out]
    refine hK.out _ _ (h2.drop 1) (fun hHeld => ?_)
    clear hK K
    try simp only [Act.put, List.getElem_toArray, List.getElem_cons_zero, List.getElem_cons_succ, List.setIfInBounds_toArray, List.set_cons_zero, List.set_cons_succ]
    refine wpAnyH_take (i := 10) (oi := _) (v := ?_) rfl (by kernel_rfl) (by kernel_rfl) (by kernel_rfl) (fun _ _ _ h => h) (Or.inl ⟨by rfl, ?_⟩) (by assumption) ?_
    rotate_left
    · intro w hSw; go_simp; with_reducible rfl
    simp only [Act.put, List.getElem_toArray, List.getElem_cons_zero, List.getElem_cons_succ, List.setIfInBounds_toArray, List.set_cons_zero, List.set_cons_succ]
    have HE := hid h2
    clear h1 h2 hHeld
    refine wpAnyH_done (by kernel_rfl) ?_ _
    go_wp2_with fail
    go_ret
    exact ⟨B2, b2, rfl, HE.out.own 0 rfl, HE.out.bl⟩
  · skip
    go_enter Try.func31, Try.ntmps31
    go_wp2_with fail
    refine wp_region_held_drew (S := fun w' => Led w w' []) (by kernel_rfl) (hW.step (Cls.drew _)) (fun hHeld => ?_)
    refine wpAnyH_take (i := 1) (oi := _) (v := ?_) rfl (by kernel_rfl) (by kernel_rfl) (by kernel_rfl) (fun _ _ _ h => h) (Or.inl ⟨by rfl, ?_⟩) (by assumption) ?_
    rotate_left
    · intro w hSw; go_simp; with_reducible rfl
    simp only [Act.put, List.getElem_toArray, List.getElem_cons_zero, List.getElem_cons_succ, List.setIfInBounds_toArray, List.set_cons_zero, List.set_cons_succ]
    refine wpAnyH_take (i := 2) (oi := _) (v := ?_) rfl (by kernel_rfl) (by kernel_rfl) (by kernel_rfl) (fun _ _ _ h => h) (Or.inl ⟨by rfl, ?_⟩) (by assumption) ?_
    rotate_left
    · intro w hSw; go_simp; with_reducible rfl
    simp only [Act.put, List.getElem_toArray, List.getElem_cons_zero, List.getElem_cons_succ, List.setIfInBounds_toArray, List.set_cons_zero, List.set_cons_succ]
    refine wpAnyH_take (i := 3) (oi := _) (v := ?_) rfl (by kernel_rfl) (by kernel_rfl) (by kernel_rfl) (fun _ _ _ h => h) (Or.inl ⟨by rfl, ?_⟩) (by assumption) ?_
    rotate_left
    · intro w hSw; go_simp; with_reducible rfl
    simp only [Act.put, List.getElem_toArray, List.getElem_cons_zero, List.getElem_cons_succ, List.setIfInBounds_toArray, List.set_cons_zero, List.set_cons_succ]
    refine wpAnyH_take (i := 5) (oi := _) (v := ?_) rfl (by kernel_rfl) (by kernel_rfl) (by kernel_rfl) (fun _ _ _ h => h) (Or.inl ⟨by rfl, ?_⟩) (by assumption) ?_
    rotate_left
    · intro w hSw; go_simp; with_reducible rfl
    simp only [Act.put, List.getElem_toArray, List.getElem_cons_zero, List.getElem_cons_succ, List.setIfInBounds_toArray, List.set_cons_zero, List.set_cons_succ]
    refine wpAnyH_take (i := 6) (oi := _) (v := ?_) rfl (by kernel_rfl) (by kernel_rfl) (by kernel_rfl) (fun _ _ _ h => h) (Or.inl ⟨by rfl, ?_⟩) (by assumption) ?_
    rotate_left
    · intro w hSw; go_simp; with_reducible rfl
    simp only [Act.put, List.getElem_toArray, List.getElem_cons_zero, List.getElem_cons_succ, List.setIfInBounds_toArray, List.set_cons_zero, List.set_cons_succ]
    refine wpAnyH_take (i := 7) (oi := _) (v := ?_) rfl (by kernel_rfl) (by kernel_rfl) (by kernel_rfl) (fun _ _ _ h => h) (Or.inl ⟨by rfl, ?_⟩) (by assumption) ?_
    rotate_left
    · intro w hSw; go_simp; with_reducible rfl
    simp only [Act.put, List.getElem_toArray, List.getElem_cons_zero, List.getElem_cons_succ, List.setIfInBounds_toArray, List.set_cons_zero, List.set_cons_succ]
    refine wpAnyH_take (i := 8) (oi := _) (v := ?_) rfl (by kernel_rfl) (by kernel_rfl) (by kernel_rfl) (fun _ _ _ h => h) (Or.inl ⟨by rfl, ?_⟩) (by assumption) ?_
    rotate_left
    · intro w hSw; go_simp; with_reducible rfl
    simp only [Act.put, List.getElem_toArray, List.getElem_cons_zero, List.getElem_cons_succ, List.setIfInBounds_toArray, List.set_cons_zero, List.set_cons_succ]
    refine wpAnyH_ready (rs := [0]) (by kernel_rfl) (by simp) ?_
    refine AllReadyH.cons rfl (fun K hK => ?_) AllReadyH.nil
    have a1 := (hW.empty elInt 3 w.heap.size rfl w.heap.size (Nat.le_refl _)).step (Cls.drew _)
    go_simp
    go_wp2_with fail
    refine hK.out _ _ (a1.drop 1) (fun hHeld => ?_)
    clear hK K
    try simp only [Act.put, List.getElem_toArray, List.getElem_cons_zero, List.getElem_cons_succ, List.setIfInBounds_toArray, List.set_cons_zero, List.set_cons_succ]
    refine wpAnyH_ready (rs := [4]) (by kernel_rfl) (by simp) ?_
    refine AllReadyH.cons rfl (fun K hK => ?_) AllReadyH.nil
    refine step_append_led rfl _ _ 33 rfl a1 0 rfl Try.underlying33 hj hy0 hy1 (by rw [hy2]; decide) rfl rfl rfl ((HN.out.grow a1.bl).take him) (by simp; omega) a1.bl.size ?_
    intro B1 b1 v1 h1
    simp only [List.length_nil, Nat.zero_add, List.nil_append] at h1 ⊢
    refine hK.out _ _ (h1.drop 1) (fun hHeld => ?_)
    clear hK K
    try simp only [Act.put, List.getElem_toArray, List.getElem_cons_zero, List.getElem_cons_succ, List.setIfInBounds_toArray, List.set_cons_zero, List.set_cons_succ]
    refine wpAnyH_ready (rs := [9]) (by kernel_rfl) (by simp) ?_
    refine AllReadyH.cons rfl (fun K hK => ?_) AllReadyH.nil
    refine step_append_led rfl _ _ 33 rfl h1 0 rfl Try.underlying33 hj hy0 hy1 (by rw [hy2]; decide) rfl rfl rfl ((HN.out.grow h1.bl).backG rfl hi1) (by rw [HTl.out]; omega) h1.bl.size ?_
    intro B2 b2 v2 h2
    rw [HTl.out, HE1.out] at h2
    rw [HTl.out, HE1.out]
    refine hK.out _ _ (h2.drop 1) (fun hHeld => ?_)
    clear hK K
    try simp only [Act.put, List.getElem_toArray, List.getElem_cons_zero, List.getElem_cons_succ, List.setIfInBounds_toArray, List.set_cons_zero, List.set_cons_succ]
    refine wpAnyH_take (i := 10) (oi := _) (v := ?_) rfl (by kernel_rfl) (by kernel_rfl) (by kernel_rfl) (fun _ _ _ h => h) (Or.inl ⟨by rfl, ?_⟩) (by assumption) ?_
    rotate_left
    · intro w hSw; go_simp; with_reducible rfl
    simp only [Act.put, List.getElem_toArray, List.getElem_cons_zero, List.getElem_cons_succ, List.setIfInBounds_toArray, List.set_cons_zero, List.set_cons_succ]
    have HE := hid h2
    clear h1 h2 hHeld
    refine wpAnyH_done (by kernel_rfl) ?_ _
    go_wp2_with fail
    go_ret
    exact ⟨B2, b2, rfl, HE.out.own 0 rfl, HE.out.bl⟩
end
end Go.Proofs.Ytfepilpllfiegaa
