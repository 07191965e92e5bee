/- l4Walk and visited: the nodes of a route, walked. Conditions: none. -/
import Derived.Test.YtdnmkcalpfkfhaaRows
import Derived.Test.YtdnmkcalpfkfhaaRt
import Derived.Test.YtdnmkcalpfkfhaaIntL
import Derived.Test.YtdnmkcalpfkfhaaOtherEnd
namespace Go.Proofs.Ytdnmkcalpfkfhaa
open Go.RowKit
theorem filled_one (s : Int) : Filled elInt #[.int .i64 s] [s] 1 := by
  intro j x hj hx i u hu
  obtain rfl : j = 0 := by omega
  simp at hx; subst hx
  match i, hu with
  | 0, hu => simp [elInt] at hu; subst hu; rfl
variable {n c m d kr er : Nat} {A A' R : Option Addr} {xs : List ByteArray} {fs : List Fib} {ids : List Int}
set_option maxHeartbeats 600000 in
set_option maxRecDepth 100000 in
theorem l4Walk_any (s : Int) (w : World) (h : NetIs w A n c A' m d xs fs) (hr : RtIs w R kr er ids) :
    Calls Try.prog 103 #[.agg #[.slice A n c, .slice A' m d], .agg #[.int .i64 s, .slice R kr er]] w fun e w' => ∃ v, e = .returned (.tuple #[v, .bool (rtB n fs s ids)]) ∧ (rtB n fs s ids = true → Owns elInt w' w.heap.size 3 v (outW fs s ids kr)) ∧ Below w.heap.size w w' := by
  obtain ⟨i0, hi, hz0, hz1, hz2⟩ := info_parts int_info
  have hb1 := bl_alloc (Below.refl w.heap.size w) (.cells #[.slice A n c, .slice A' m d] 35)
  have hb0 := bl_alloc hb1 (.cells #[.int .i64 s, .slice R kr er] 37)
  have hx0 : Blk ((w.alloc (.cells #[.slice A n c, .slice A' m d] 35)).alloc (.cells #[.int .i64 s, .slice R kr er] 37)) w.heap.size 35 #[.slice A n c, .slice A' m d] := (Blk.new _ _ _).alloc _
  have hy0 : Blk ((w.alloc (.cells #[.slice A n c, .slice A' m d] 35)).alloc (.cells #[.int .i64 s, .slice R kr er] 37)) (w.heap.size + 1) 37 #[.int .i64 s, .slice R kr er] := by
    have := Blk.new (w.alloc (.cells #[.slice A n c, .slice A' m d] 35)) 37 #[.int .i64 s, .slice R kr er]
    simpa using this
  have h0 := h.grow hb0
  have hr0 := hr.grow hb0
  have hlx := h.xlen
  have hlf := h.flen
  have hm := h.mle
  have hn := h.nle
  have hlr := hr.len
  have hkr := hr.le
  have hsz0 : ((w.alloc (.cells #[.slice A n c, .slice A' m d] 35)).alloc (.cells #[.int .i64 s, .slice R kr er] 37)).heap.size = w.heap.size + 2 := by simp
  have hb2 := bl_alloc hb0 (.cells #[.int .i64 s] 3)
  have hbe := bl_alloc (Below.refl ((w.alloc (.cells #[.slice A n c, .slice A' m d] 35)).alloc (.cells #[.int .i64 s, .slice R kr er] 37)).heap.size ((w.alloc (.cells #[.slice A n c, .slice A' m d] 35)).alloc (.cells #[.int .i64 s, .slice R kr er] 37))) (.cells #[.int .i64 s] 3)
  have hoe : Hid (Owns elInt (((w.alloc (.cells #[.slice A n c, .slice A' m d] 35)).alloc (.cells #[.int .i64 s, .slice R kr er] 37)).alloc (.cells #[.int .i64 s] 3)) (w.heap.size + 2) 3 (.slice (some ⟨w.heap.size + 2, 0, none⟩) 1 1) (outW fs s ids 0)) :=
    Owns.of_blk (n := 1) (cap := 1) (cur := #[.int .i64 s]) (by have := Blk.new ((w.alloc (.cells #[.slice A n c, .slice A' m d] 35)).alloc (.cells #[.int .i64 s, .slice R kr er] 37)) 3 #[.int .i64 s]; simpa using this) (Nat.le_refl _) rfl (Nat.le_refl _) rfl (by decide) (filled_one s)
  cases g1 : inB 0 ((n : Int) - 1) s
  · have H : Hid (rtB n fs s ids = false) := by unfold Hid rtB; rw [g1]; rfl
    clear hlx hlf hlr hoe
    go_enter Try.func103, Try.ntmps103
    go_wp2_with (go_at_call 122; refine (l1In_any _ _ _ _).mono ?_; rintro e w' ⟨rfl, rfl⟩; rw [g1])
    go_ret2
    exact ⟨_, by rw [H.out]; rfl, fun hh => by rw [H.out] at hh; (cases hh), hb2⟩
  · by_cases hk0 : kr = 0
    · have H : Hid (rtB n fs s ids = false) := by unfold Hid rtB; rw [g1, hlr, hk0]; rfl
      have e0 : (kr == 0) = true := by simp [hk0]
      have e1 : ((kr : Int) == 0) = true := by simp [hk0]
      clear hlx hlf hlr hoe hk0
      go_enter Try.func103, Try.ntmps103
      go_wp2_with (go_at_call 122; refine (l1In_any _ _ _ _).mono ?_; rintro e w' ⟨rfl, rfl⟩; rw [g1])
      go_ret2
      exact ⟨_, by rw [H.out]; rfl, fun hh => by rw [H.out] at hh; (cases hh), hb2⟩
    · have e0 : (kr == 0) = false := by simp [hk0]
      have e1 : ((kr : Int) == 0) = false := by simp; omega
      have HB : Hid (rtB n fs s ids = allB (okW m fs s ids) kr) := by unfold Hid rtB; rw [g1, hlr, e0, hlf]; rfl
      clear hlx
      go_enter Try.func103, Try.ntmps103
      go_wp2_with (go_at_call 122; refine (l1In_any _ _ _ _).mono ?_; rintro e w' ⟨rfl, rfl⟩; rw [g1])
      generalize hw0 : ((w.alloc (.cells #[.slice A n c, .slice A' m d] 35)).alloc (.cells #[.int .i64 s, .slice R kr er] 37)) = w0 at *
      go_loopw [6, 7] (fun v i wr => ∃ k : Nat, k ≤ kr ∧ i = .int .i64 k ∧ Hid (Owns elInt wr (w.heap.size + 2) 3 v (outW fs s ids k)) ∧ Hid (allTo (okW m fs s ids) k) ∧ Below w0.heap.size w0 wr) (fun _ i _ => kr - (intOf i).toNat)
      case atStart => exact ⟨0, Nat.zero_le _, rfl, hoe, allTo_zero _, hbe⟩
      case round =>
        clear hbe hoe
        obtain ⟨k, hk, rfl, hown, hall, hb⟩ := hrel
        have q1 := (hy0.below hb (by omega)).cell 1
        simp at q1
        by_cases hlt : k < kr
        · obtain ⟨b, o, rfl, _, hc⟩ := hr0.2.at_ hlt
          obtain ⟨i, hik⟩ := get_of (k := k) hlr hlt
          have hci := bl_cell hb (hc k i hik 0 _ rfl)
          simp only [elInt, Nat.mul_one, Nat.add_zero] at hci
          have p0 := (hx0.below hb (by omega)).cell 0
          have p1 := (hx0.below hb (by omega)).cell 1
          simp at p0 p1
          have hwz := hb.size
          have iz : (k : Int) < (kr : Int) := by omega
          have im : IntKind.i64.wrap ((m : Int) - 1) = (m : Int) - 1 := IntWalk.i64_in _ (by omega)
          have ik : IntKind.i64.wrap (k : Int) = (k : Int) := IntWalk.i64_in _ (by omega)
          have ik2 : IntKind.i64.wrap ((k : Int) + 1 - 1) = (k : Int) := by rw [Int.add_sub_cancel]; exact ik
          have ik3 : (k : Int) < (k : Int) + 1 := by omega
          have P0 : ∀ w', Cls wr w' → w'.cell? ⟨w.heap.size, 0, none⟩ = some (.slice A n c) := fun _ h => h.cell p0
          have P1 : ∀ w', Cls wr w' → w'.cell? ⟨w.heap.size, 1, none⟩ = some (.slice A' m d) := fun _ h => h.cell p1
          have Q1 : ∀ w', Cls wr w' → w'.cell? ⟨w.heap.size + 1, 1, none⟩ = some (.slice (some ⟨b, o, none⟩) kr er) := fun _ h => h.cell q1
          have T0 : ∀ w', Cls wr w' → w'.cell? ⟨b, o + k, none⟩ = some (.int .i64 i) := fun _ h => h.cell hci
          clear hc
          cases g2 : inB 0 ((m : Int) - 1) i
          · have H : Hid (rtB n fs s ids = false) := by unfold Hid; rw [HB.out]; exact allB_no hlt (by unfold okW; rw [getD_of hik, g2]; rfl)
            have HIN : Hid (∀ w', Calls Try.prog 122 #[.int .i64 i, .int .i64 0, .int .i64 ((m : Int) - 1)] w' fun e w2 => e = .returned (.bool false) ∧ w' = w2) := fun w' => by rw [← g2]; exact l1In_any _ _ _ _
            clear hik hown hall
            go_wp2
            refine region_cls (by kernel_rfl) (by kernel_rfl) ?_
            repeat (first
              | ((with_reducible refine quiet_pos ?_ (fun K hK => ?_))
                 · rfl
                 apply Exists.intro
                 refine ⟨fun w' hw' => ?_, ?_⟩
                 · go_simp
                   first
                     | with_reducible rfl
                     | (go_at_call 122; with_reducible exact hw'.same (HIN.out _))
                 simp only [Act.put, List.setIfInBounds_toArray, List.set_cons_zero, List.set_cons_succ]
                 refine hK _ ?_; clear hK K)
              | ((with_reducible refine quiet_neg ?_ (fun K hK => ?_))
                 · rfl
                 simp only [Act.put, List.setIfInBounds_toArray, List.set_cons_zero, List.set_cons_succ]
                 refine hK _ ?_; clear hK K))
            with_reducible refine wpQuiet_nil ?_
            intro wx hwx
            go_wp2
            go_ret2
            exact ⟨_, by rw [H.out]; rfl, fun hh => by rw [H.out] at hh; (cases hh), hb0.trans ((bl_then hb hwx).mono (by omega))⟩
          · obtain ⟨i0', i1'⟩ := inB_idx g2
            obtain ⟨f, hf⟩ := get_of (k := i.toNat) hlf (by omega)
            obtain ⟨Ao, co, rfl, _, _, hso⟩ := hown.out.form
            rw [outW_len] at hso
            obtain ⟨bo, oo, rfl, _, hcl⟩ := hso.at_ (k := k) (by omega)
            have hcl0 := hcl k _ (outW_get fs s ids k) 0 _ rfl
            simp only [elInt, Nat.mul_one, Nat.add_zero] at hcl0
            obtain ⟨cu, hcu⟩ : ∃ cu, cu = atW fs s ids k := ⟨_, rfl⟩
            rw [← hcu] at hcl0
            have L0 : ∀ w', Cls wr w' → w'.cell? ⟨bo, oo + k, none⟩ = some (.int .i64 cu) := fun _ h => h.cell hcl0
            obtain ⟨nx, hnx⟩ : ∃ nx, nx = otherF f cu := ⟨_, rfl⟩
            have HNX : Hid (atW fs s ids (k + 1) = nx) := by unfold Hid; rw [hnx, hcu]; exact atW_succ hik hf
            have hkk : Hid (okW m fs s ids k = (!decide (nx < 0) && !hasB (outW fs s ids k) nx)) := by unfold Hid okW; rw [getD_of hik, g2, HNX.out]; rfl
            have HC : Hid (∀ w', Cls wr w' → Calls Try.prog 135 #[.agg #[.slice A n c, .slice A' m d], .int .i64 i, .int .i64 cu] w' fun e w2 => e = .returned (.int .i64 nx) ∧ Below w'.heap.size w' w2) := fun w' hw' => by
              rw [hnx]; exact l2Other_any i cu w' (h0.grow (bl_then hb hw')) i0' i1' hf
            have hso := hid hso
            rw [outW_len]
            have HIN : Hid (∀ w', Calls Try.prog 122 #[.int .i64 i, .int .i64 0, .int .i64 ((m : Int) - 1)] w' fun e w2 => e = .returned (.bool true) ∧ w' = w2) := fun w' => by rw [← g2]; exact l1In_any _ _ _ _
            clear hik hf hcl hcl0 hcu hnx
            go_wp2
            refine region_cls (by kernel_rfl) (by kernel_rfl) ?_
            repeat (first
              | ((with_reducible refine quiet_pos ?_ (fun K hK => ?_))
                 · rfl
                 apply Exists.intro
                 refine ⟨fun w' hw' => ?_, ?_⟩
                 · go_simp
                   first
                     | with_reducible rfl
                     | (go_at_call 122; with_reducible exact hw'.same (HIN.out _))
                 simp only [Act.put, List.setIfInBounds_toArray, List.set_cons_zero, List.set_cons_succ]
                 refine hK _ ?_; clear hK K)
              | ((with_reducible refine quiet_neg ?_ (fun K hK => ?_))
                 · rfl
                 simp only [Act.put, List.setIfInBounds_toArray, List.set_cons_zero, List.set_cons_succ]
                 refine hK _ ?_; clear hK K))
            with_reducible refine wpQuiet_nil ?_
            intro wx hwx
            have hwxs := hwx.size
            have HC2 := hid (fun w' (h : Cls wx w') => HC.out w' (bl_then hwx h))
            clear HC HIN
            replace P0 : ∀ w', Cls wx w' → w'.cell? ⟨w.heap.size, 0, none⟩ = some (.slice A n c) := fun _ h => P0 _ (bl_then hwx h)
            replace P1 : ∀ w', Cls wx w' → w'.cell? ⟨w.heap.size, 1, none⟩ = some (.slice A' m d) := fun _ h => P1 _ (bl_then hwx h)
            replace Q1 : ∀ w', Cls wx w' → w'.cell? ⟨w.heap.size + 1, 1, none⟩ = some (.slice (some ⟨b, o, none⟩) kr er) := fun _ h => Q1 _ (bl_then hwx h)
            replace T0 : ∀ w', Cls wx w' → w'.cell? ⟨b, o + k, none⟩ = some (.int .i64 i) := fun _ h => T0 _ (bl_then hwx h)
            replace L0 : ∀ w', Cls wx w' → w'.cell? ⟨bo, oo + k, none⟩ = some (.int .i64 cu) := fun _ h => L0 _ (bl_then hwx h)
            go_wp2
            refine region_cls (by kernel_rfl) (by kernel_rfl) ?_
            repeat (first
              | ((with_reducible refine quiet_pos ?_ (fun K hK => ?_))
                 · rfl
                 apply Exists.intro
                 refine ⟨fun w' hw' => ?_, ?_⟩
                 · go_simp
                   first
                     | with_reducible rfl
                     | (go_at_call 135; with_reducible exact hw'.call (HC2.out _ hw'))
                 simp only [Act.put, List.setIfInBounds_toArray, List.set_cons_zero, List.set_cons_succ]
                 refine hK _ ?_; clear hK K)
              | ((with_reducible refine quiet_neg ?_ (fun K hK => ?_))
                 · rfl
                 simp only [Act.put, List.setIfInBounds_toArray, List.set_cons_zero, List.set_cons_succ]
                 refine hK _ ?_; clear hK K))
            with_reducible refine wpQuiet_nil ?_
            intro wy hwy
            have hbz := bl_then (bl_then hb hwx) hwy
            have hoz : Hid (Owns elInt _ _ _ _ _) := (hown.out.below hwx).below hwy
            have hwys := hwy.size
            clear P0 P1 Q1 T0 L0 HC2 hown
            cases g3 : decide (nx < 0)
            · have hsz := hid ((hso.out.grow hwx).grow hwy)
              cases g4 : hasB (outW fs s ids k) nx
              · have HALL : Hid (allTo (okW m fs s ids) (k + 1)) := allTo_succ hall.out (by rw [hkk.out, g3, g4]; rfl)
                have hbG := bl_alloc hbz (.cells #[.int .i64 nx] 3)
                have hoG : Hid (Owns elInt _ _ _ _ _) := hoz.out.below (bl_alloc (Below.refl _ _) (.cells #[.int .i64 nx] 3))
                have hoG2 : Hid (∀ g, (Value.slice (some ⟨bo, oo, none⟩) (k + 1) co).ownBlock = some g → w0.heap.size ≤ g) := fun g hg => by have := (hoG.out.lies g (by rw [outW_len]; exact hg)).1; omega
                rw [outW_len] at hoG
                have hll := outW_len fs s ids k
                clear hkk hoz hall
                go_wp2_with fail
                refine (l1Has_any nx _ hsz.out (by simp only [maxLen]; omega)).mono ?_
                rintro e w' ⟨rfl, rfl⟩
                rw [g4]
                clear hsz
                go_wp2_with (first
                  | (at_builtin; refine wpList_append_own _ rfl _ _ 26 rfl (w.heap.size + 2) 3 i0 (.int .i64 0) 1 8 Try.underlying26 hi hz0 hz1 hz2 rfl (by decide) _ (outW fs s ids k).length ((outW fs s ids k).flatMap elInt.cells) rfl hoG.out ⟨_, 0, none⟩ 1 1 [.int .i64 nx] rfl rfl (one_new _ _ _ (by simp)) (fun u hu => by simp at hu; subst hu; rfl) (by unfold maxLen; omega) (by omega) (by simp; omega) ?_)
                  | go_in)
                intro v' w1 hown' hgrow _
                have HO : Hid (Owns elInt w1 (w.heap.size + 2) 3 v' (outW fs s ids (k + 1))) := by unfold Hid; rw [outW_succ, HNX.out]; exact Owns.appended (by rw [hll]; exact hown')
                have hbN := bl_grown hbG hgrow (fun g hg => by have := (hoG2.out g hg); omega)
                clear hown' hgrow hoG hbG hoG2
                go_wp2
                go_roundw
                case rel => exact ⟨k + 1, by omega, by go_num, HO, HALL, hbN⟩
                case measure => simp [intOf]; omega
              · have H : Hid (rtB n fs s ids = false) := by unfold Hid; rw [HB.out]; exact allB_no hlt (by rw [hkk.out, g3, g4]; rfl)
                clear hkk hoz hall
                go_wp2_with (go_at_call 79; refine (l1Has_any nx _ hsz.out (by simp only [maxLen]; omega)).mono ?_; rintro e w' ⟨rfl, rfl⟩; rw [g4])
                go_ret2
                exact ⟨_, by rw [H.out]; rfl, fun hh => by rw [H.out] at hh; (cases hh), hb0.trans (hbz.mono (by omega))⟩
            · have H : Hid (rtB n fs s ids = false) := by unfold Hid; rw [HB.out]; exact allB_no hlt (by rw [hkk.out, g3]; rfl)
              clear hkk hoz hall
              go_wp2
              go_ret2
              exact ⟨_, by rw [H.out]; rfl, fun hh => by rw [H.out] at hh; (cases hh), hb0.trans (hbz.mono (by omega))⟩
        · have hkm : k = kr := by omega
          have H : Hid (rtB n fs s ids = true) := by unfold Hid; rw [HB.out]; exact allB_yes (by rw [← hkm]; exact hall.out) rfl
          rw [hkm] at hown
          clear hlt hall
          go_wp2
          go_ret2
          exact ⟨_, by rw [H.out]; rfl, fun _ => hown.out.base (by omega), hb0.trans (hb.mono (by omega))⟩
set_option maxHeartbeats 1000000 in
set_option maxRecDepth 100000 in
theorem visited_any (s : Int) (w : World) (h : NetIs w A n c A' m d xs fs) (hr : RtIs w R kr er ids) :
    Calls Try.prog 62 #[.agg #[.slice A n c, .slice A' m d], .agg #[.int .i64 s, .slice R kr er]] w fun e w' => ∃ v, e = .returned (.tuple #[v, .bool (rtB n fs s ids)]) ∧ Owns elInt w' w.heap.size 3 v (rtL n fs s ids) ∧ Below w.heap.size w w' := by
  obtain ⟨i0, hi, hz0, hz1, hz2⟩ := info_parts int_info
  have hb1 := bl_alloc (Below.refl w.heap.size w) (.cells #[.slice A n c, .slice A' m d] 35)
  have hb0 := bl_alloc hb1 (.cells #[.int .i64 s, .slice R kr er] 37)
  have hx0 : Blk ((w.alloc (.cells #[.slice A n c, .slice A' m d] 35)).alloc (.cells #[.int .i64 s, .slice R kr er] 37)) w.heap.size 35 #[.slice A n c, .slice A' m d] := (Blk.new _ _ _).alloc _
  have hy0 : Blk ((w.alloc (.cells #[.slice A n c, .slice A' m d] 35)).alloc (.cells #[.int .i64 s, .slice R kr er] 37)) (w.heap.size + 1) 37 #[.int .i64 s, .slice R kr er] := by
    have := Blk.new (w.alloc (.cells #[.slice A n c, .slice A' m d] 35)) 37 #[.int .i64 s, .slice R kr er]
    simpa using this
  have h0 := h.grow hb0
  have hr0 := hr.grow hb0
  have hlx := h.xlen
  have hlf := h.flen
  have hm := h.mle
  have hn := h.nle
  have hlr := hr.len
  have hkr := hr.le
  have hsz0 : ((w.alloc (.cells #[.slice A n c, .slice A' m d] 35)).alloc (.cells #[.int .i64 s, .slice R kr er] 37)).heap.size = w.heap.size + 2 := by simp
  cases g1 : inB 0 ((n : Int) - 1) s
  · have H : Hid (rtB n fs s ids = false) := by unfold Hid rtB; rw [g1]; rfl
    clear hlx hlf hlr
    go_enter Try.func62, Try.ntmps62
    go_wp2_with (go_at_call 107; refine (within_any _ _ _ _).mono ?_; rintro e w' ⟨rfl, rfl⟩; rw [g1])
    go_ret2
    exact ⟨_, by rw [H.out]; rfl, by rw [rtL_no H.out]; exact World.ownsRow_nil _ _ _ _, hb0⟩
  · by_cases hk0 : kr = 0
    · have H : Hid (rtB n fs s ids = false) := by unfold Hid rtB; rw [g1, hlr, hk0]; rfl
      have e0 : (kr == 0) = true := by simp [hk0]
      have e1 : ((kr : Int) == 0) = true := by simp [hk0]
      clear hlx hlf hlr hk0
      go_enter Try.func62, Try.ntmps62
      go_wp2_with (go_at_call 107; refine (within_any _ _ _ _).mono ?_; rintro e w' ⟨rfl, rfl⟩; rw [g1])
      go_ret2
      exact ⟨_, by rw [H.out]; rfl, by rw [rtL_no H.out]; exact World.ownsRow_nil _ _ _ _, hb0⟩
    · have e0 : (kr == 0) = false := by simp [hk0]
      have e1 : ((kr : Int) == 0) = false := by simp; omega
      have HB : Hid (rtB n fs s ids = allB (okW m fs s ids) kr) := by unfold Hid rtB; rw [g1, hlr, e0, hlf]; rfl
      clear hlx
      go_enter Try.func62, Try.ntmps62
      go_wp2_with fail
      refine (within_any _ _ _ _).mono ?_
      rintro e w' ⟨rfl, rfl⟩
      rw [g1]
      go_wp2_with fail
      go_region
      have hbe : Below ((w.alloc (.cells #[.slice A n c, .slice A' m d] 35)).alloc (.cells #[.int .i64 s, .slice R kr er] 37)).heap.size ((w.alloc (.cells #[.slice A n c, .slice A' m d] 35)).alloc (.cells #[.int .i64 s, .slice R kr er] 37)) ((((w.alloc (.cells #[.slice A n c, .slice A' m d] 35)).alloc (.cells #[.int .i64 s, .slice R kr er] 37)).alloc (.cells #[.int .i64 s] 3)).drew) := by
        repeat (first | exact Below.refl _ _ | apply Below.drew | apply bl_alloc)
      have hoe : Hid (Owns elInt ((((w.alloc (.cells #[.slice A n c, .slice A' m d] 35)).alloc (.cells #[.int .i64 s, .slice R kr er] 37)).alloc (.cells #[.int .i64 s] 3)).drew) (w.heap.size + 2) 3 (.slice (some ⟨w.heap.size + 2, 0, none⟩) 1 1) (outW fs s ids 0)) :=
        hid ((show Owns elInt (((w.alloc (.cells #[.slice A n c, .slice A' m d] 35)).alloc (.cells #[.int .i64 s, .slice R kr er] 37)).alloc (.cells #[.int .i64 s] 3)) (w.heap.size + 2) 3 (.slice (some ⟨w.heap.size + 2, 0, none⟩) 1 1) [s] from Owns.of_blk (n := 1) (cap := 1) (cur := #[.int .i64 s]) (by have := Blk.new ((w.alloc (.cells #[.slice A n c, .slice A' m d] 35)).alloc (.cells #[.int .i64 s, .slice R kr er] 37)) 3 #[.int .i64 s]; simpa using this) (Nat.le_refl _) rfl (Nat.le_refl _) rfl (by decide) (filled_one s)).below (Below.drew (Below.refl _ _)))
      have q9 : ((((w.alloc (.cells #[.slice A n c, .slice A' m d] 35)).alloc (.cells #[.int .i64 s, .slice R kr er] 37)).alloc (.cells #[.int .i64 s] 3)).drew).cell? ⟨w.heap.size + 1, 1, none⟩ = some (.slice R kr er) := by
        have := (hy0.below hbe (by omega)).cell 1
        simpa using this
      go_wp2_with fail
      generalize hw0 : ((w.alloc (.cells #[.slice A n c, .slice A' m d] 35)).alloc (.cells #[.int .i64 s, .slice R kr er] 37)) = w0 at *
      clear q9
      go_loopw [6, 7, 32] (fun v a i wr => ∃ (k : Nat) (cu : Int), k ≤ kr ∧ i = .int .i64 k ∧ a = .int .i64 cu ∧ Hid (atW fs s ids k = cu) ∧ Hid (Owns elInt wr (w.heap.size + 2) 3 v (outW fs s ids k)) ∧ Hid (allTo (okW m fs s ids) k) ∧ Below w0.heap.size w0 wr) (fun _ _ i _ => kr - (intOf i).toNat)
      case atStart => exact ⟨0, s, Nat.zero_le _, rfl, rfl, rfl, hoe, allTo_zero _, hbe⟩
      case round =>
        clear hbe hoe
        obtain ⟨k, cu, hk, rfl, rfl, hcu, hown, hall, hb⟩ := hrel
        by_cases hlt : k < kr
        · obtain ⟨b, o, rfl, _, hc⟩ := hr0.2.at_ hlt
          obtain ⟨i, hik⟩ := get_of (k := k) hlr hlt
          have hci := bl_cell hb (hc k i hik 0 _ rfl)
          simp only [elInt, Nat.mul_one, Nat.add_zero] at hci
          have p1 := (hx0.below hb (by omega)).cell 1
          simp at p1
          have hwz := hb.size
          clear hc
          cases g2 : inB 0 ((m : Int) - 1) i
          · have H : Hid (rtB n fs s ids = false) := by unfold Hid; rw [HB.out]; exact allB_no hlt (by unfold okW; rw [getD_of hik, g2]; rfl)
            clear hik hown hall
            go_wp2_with (go_at_call 107; refine (within_any _ _ _ _).mono ?_; rintro e w' ⟨rfl, rfl⟩; rw [g2])
            go_ret2
            exact ⟨_, by rw [H.out]; rfl, by rw [rtL_no H.out]; exact World.ownsRow_nil _ _ _ _, hb0.trans (hb.mono (by omega))⟩
          · obtain ⟨i0', i1'⟩ := inB_idx g2
            obtain ⟨f, hf⟩ := get_of (k := i.toNat) hlf (by omega)
            obtain ⟨bf, of, rfl, _, hcf⟩ := h0.fibs.at_ (k := i.toNat) (by omega)
            have f0 := bl_cell hb (hcf _ f hf 0 _ rfl)
            have f1 := bl_cell hb (hcf _ f hf 1 _ rfl)
            have f2 := bl_cell hb (hcf _ f hf 2 _ rfl)
            have f3 := bl_cell hb (hcf _ f hf 3 _ rfl)
            simp only [elFib, Nat.add_zero] at f0 f1 f2 f3
            have HNX' : Hid (atW fs s ids (k + 1) = otherF f cu) := by unfold Hid; rw [← hcu.out]; exact atW_succ hik hf
            have HC := hid (otherEnd_any f cu wr)
            generalize hnx : otherF f cu = nx at HC HNX'
            have HNX := HNX'
            have hkk : Hid (okW m fs s ids k = (!decide (nx < 0) && !hasB (outW fs s ids k) nx)) := by unfold Hid okW; rw [getD_of hik, g2, HNX.out]; rfl
            clear hik hf hcf hnx hcu HNX'
            go_wp2_with fail
            refine (within_any _ _ _ _).mono ?_
            rintro e w' ⟨rfl, rfl⟩
            rw [g2]
            go_wp2_with fail
            refine HC.out.mono ?_
            rintro e wy ⟨rfl, hby⟩
            have hbz := bl_then hb hby
            have hoz : Hid (Owns elInt _ _ _ _ _) := hown.out.below hby
            obtain ⟨Ao, co, rfl, _, _, hso⟩ := hoz.out.form
            rw [outW_len] at hso ⊢
            have hso := hid hso
            have hwys := hby.size
            clear HC hown f0 f1 f2 f3 p1 hci
            cases g3 : decide (nx < 0)
            · cases g4 : hasB (outW fs s ids k) nx
              · have HALL : Hid (allTo (okW m fs s ids) (k + 1)) := allTo_succ hall.out (by rw [hkk.out, g3, g4]; rfl)
                have hbG := bl_alloc hbz (.cells #[.int .i64 nx] 3)
                have hoG : Hid (Owns elInt _ _ _ _ _) := hoz.out.below (bl_alloc (Below.refl _ _) (.cells #[.int .i64 nx] 3))
                have hoG2 : Hid (∀ g, (Value.slice Ao (k + 1) co).ownBlock = some g → w0.heap.size ≤ g) := fun g hg => by have := (hoG.out.lies g (by rw [outW_len]; exact hg)).1; omega
                rw [outW_len] at hoG
                have hll := outW_len fs s ids k
                clear hkk hoz hall
                go_wp2_with fail
                refine (containsI_any nx _ hso.out (by simp only [maxLen]; omega)).mono ?_
                rintro e w' ⟨rfl, rfl⟩
                rw [g4]
                clear hso
                go_wp2_with (first
                  | (at_builtin; refine wpList_append_own _ rfl _ _ 26 rfl (w.heap.size + 2) 3 i0 (.int .i64 0) 1 8 Try.underlying26 hi hz0 hz1 hz2 rfl (by decide) _ (outW fs s ids k).length ((outW fs s ids k).flatMap elInt.cells) rfl hoG.out ⟨_, 0, none⟩ 1 1 [.int .i64 nx] rfl rfl (one_new _ _ _ (by simp)) (fun u hu => by simp at hu; subst hu; rfl) (by unfold maxLen; omega) (by omega) (by simp; omega) ?_)
                  | go_in)
                intro v' w1 hown' hgrow _
                have HO : Hid (Owns elInt w1 (w.heap.size + 2) 3 v' (outW fs s ids (k + 1))) := by unfold Hid; rw [outW_succ, HNX.out]; exact Owns.appended (by rw [hll]; exact hown')
                have hbN := bl_grown hbG hgrow (fun g hg => by have := (hoG2.out g hg); omega)
                clear hown' hgrow hoG hbG hoG2
                go_wp2
                go_roundw
                case rel => exact ⟨k + 1, nx, by omega, by go_num, rfl, HNX, HO, HALL, hbN⟩
                case measure => simp [intOf]; omega
              · have H : Hid (rtB n fs s ids = false) := by unfold Hid; rw [HB.out]; exact allB_no hlt (by rw [hkk.out, g3, g4]; rfl)
                clear hkk hoz hall
                go_wp2_with fail
                refine (containsI_any nx _ hso.out (by simp only [maxLen]; omega)).mono ?_
                rintro e w' ⟨rfl, rfl⟩
                rw [g4]
                go_wp2_with fail
                go_ret2
                exact ⟨_, by rw [H.out]; rfl, by rw [rtL_no H.out]; exact World.ownsRow_nil _ _ _ _, hb0.trans (hbz.mono (by omega))⟩
            · have H : Hid (rtB n fs s ids = false) := by unfold Hid; rw [HB.out]; exact allB_no hlt (by rw [hkk.out, g3]; rfl)
              clear hkk hoz hall
              go_wp2_with fail
              go_ret2
              exact ⟨_, by rw [H.out]; rfl, by rw [rtL_no H.out]; exact World.ownsRow_nil _ _ _ _, hb0.trans (hbz.mono (by omega))⟩
        · have hkm : k = kr := by omega
          have H : Hid (rtB n fs s ids = true) := by unfold Hid; rw [HB.out]; exact allB_yes (by rw [← hkm]; exact hall.out) rfl
          have HL : Hid (rtL n fs s ids = outW fs s ids kr) := (rtL_yes H.out).trans (by rw [hlr])
          rw [hkm] at hown
          clear hlt hall hcu
          go_wp2
          go_ret2
          exact ⟨_, by rw [H.out]; rfl, by rw [HL.out]; exact hown.out.base (by omega), hb0.trans (hb.mono (by omega))⟩
end Go.Proofs.Ytdnmkcalpfkfhaa
