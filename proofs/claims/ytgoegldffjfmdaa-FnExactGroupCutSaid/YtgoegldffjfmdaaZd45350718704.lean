/- Lemmas and walks that the claim rests on, laid together. Conditions: none. -/
import Derived.Test.YtgoegldffjfmdaaZ0d783c1cac86
import Derived.Deep.RegionHeld3
import Derived.Test.YtgoegldffjfmdaaZ44f4b0e7b5aa
import Derived.Test.YtgoegldffjfmdaaRows
/- separates, l6Splits: whether two nodes are parted, walked. Conditions: the fibers' ends are nodes; 2 nodes at least; at most 20 fibers. -/
namespace Go.Proofs.Ytgoegldffjfmdaa
open Go.RowKit
theorem sepP_eq {X Y : List Int} {s : Int} {a b : Nat} : sepP X Y s a b = ((!((a : Int) == s) && !((b : Int) == s)) && ((valL X a == valL X b) && !(valL Y a == valL Y b))) := rfl
section
variable {n c m d k c' : Nat} {A A' G : Option Addr} {xs : List ByteArray} {fs : List Fib} {l : List Int} {s : Int}
set_option maxHeartbeats 4000000 in
set_option maxRecDepth 100000 in
theorem separates_any (s : Int) (w : World) (h : NetIs w A n c A' m d xs fs) (hv : Sees elInt w w.heap.size G k l) (hkb : k ≤ 1048576) (he : endsB n fs) (hn0 : 0 < n) :
    Calls Try.prog 124 #[.agg #[.slice A n c, .slice A' m d], .slice G k c', .int .i64 s] w fun e w' => e = .returned (.bool (sepB n (compL (goneF []) fs n) (compL (goneF l) fs n) s)) ∧ Below w.heap.size w w' := by
  have hS := (Led.nil w).blk_ w.heap.size rfl 34 #[.slice A n c, .slice A' m d]
  obtain ⟨r, hr⟩ : ∃ r, sepB n (compL (goneF []) fs n) (compL (goneF l) fs n) s = r := ⟨_, rfl⟩
  rw [hr]
  have HRR := hid hr
  clear hr
  have HN := hid h
  have HV := hid hv
  have HE := hid he
  have hn := h.nle
  clear h he hv
  go_enter Try.func124, Try.ntmps124
  go_wp2_with fail
  generalize w.alloc (.cells #[.slice A n c, .slice A' m d] 34) = W0 at *
  have C0 : ∀ w', Cls W0 w' → w'.cell? ⟨w.heap.size, 0, none⟩ = some (.slice A n c) := fun _ h => h.cell (hS.cell 0 0 rfl rfl)
  have C1 : ∀ w', Cls W0 w' → w'.cell? ⟨w.heap.size, 1, none⟩ = some (.slice A' m d) := fun _ h => h.cell (hS.cell 0 1 rfl rfl)
  have HL := hid (fun w' (h : Cls W0 w') => hS.step h)
  go_region_held3 (fun w' => Cls W0 w') (first | exact Cls.drew _ | exact Cls.next (by assumption) (by assumption))
    (first
      | (go_at_call_of 113 (Value.slice none 0 0); refine (components_any (l := []) _ (HN.out.grow (HL.out _ (by assumption)).bl) (Sees.nil elInt _ 0 _) (by decide) HE.out hn0).mono ?_; rintro e w' ⟨v1, rfl, ho1, hb1⟩; obtain ⟨g1, c1, rfl⟩ := ho1.splitg compL_len hn0; have hL1 := (HL.out _ (by assumption)).owns hb1 ho1)
      | (go_at_call_of 113 (Value.slice G k c'); refine (components_any _ (HN.out.grow hL1.bl) (HV.out.grow hL1.bl) hkb HE.out hn0).mono ?_; rintro e w' ⟨v2, rfl, ho2, hb2⟩; obtain ⟨g2, c2, rfl⟩ := ho2.splitg compL_len hn0))
  have hL2 := hL1.owns hb2 ho2
  generalize w' = W2 at *
  have hX : Hid ((compL (goneF []) fs n).length = n) := compL_len
  have hY : Hid ((compL (goneF l) fs n).length = n) := compL_len
  generalize compL (goneF []) fs n = X at *
  generalize (compL (goneF l) fs n) = Y at *
  have HS := hid hL2
  clear HL C0 C1 hL1 hL2 hb1 hb2 ho1 ho2 hS
  have q0 := HS.out.cell 2 0 rfl rfl
  go_wp2_with fail
  clear q0
  obtain ⟨L, hL⟩ : ∃ L, Led w W2 L ∧ L[0]? = some (tOwns elInt _ 3 (.slice (some ⟨g2, 0, none⟩) n c2) Y) ∧ L[1]? = some (tOwns elInt _ 3 (.slice (some ⟨g1, 0, none⟩) n c1) X) := ⟨_, HS.out, rfl, rfl⟩
  have HS1 := hid hL.1
  have j0 := hid hL.2.1
  have j1 := hid hL.2.2
  clear hL HS
  go_loopw [19] (fun i wr => ∃ a : Nat, a ≤ n ∧ i = .int .i64 a ∧ Hid (allTo (fun a => allB (fun b => !sepP X Y s a b) a) a) ∧ Hid (Led w wr L)) (fun i _ => n - (intOf i).toNat)
  case atStart => exact ⟨0, Nat.zero_le _, rfl, allTo_zero _, HS1⟩
  case round =>
    clear HS1
    obtain ⟨a, ha, rfl, hall, HS⟩ := hrel
    by_cases hlt : a < n
    · go_wp2_with fail
      go_loopw [23] (fun i wr => ∃ b : Nat, b ≤ a ∧ i = .int .i64 b ∧ Hid (allTo (fun b => !sepP X Y s a b) b) ∧ Hid (Led w wr L)) (fun i _ => a - (intOf i).toNat)
      case atStart => exact ⟨0, Nat.zero_le _, rfl, allTo_zero _, HS⟩
      case round =>
        clear HS
        obtain ⟨b, hb, rfl, hin, HS⟩ := hrel
        by_cases hlt2 : b < a
        · have hbn : b < n := by omega
          have ia : (a : Int) < (n : Int) := by omega
          have ib : (b : Int) < (n : Int) := by omega
          have x0 : ∀ w', Cls wr w' → w'.cell? ⟨g1, a, none⟩ = some (.int .i64 (valL X a)) := fun _ h => h.cell (HS.out.int_at 1 j1.out (j := a) (by rw [hX.out]; omega))
          have x1 : ∀ w', Cls wr w' → w'.cell? ⟨g1, b, none⟩ = some (.int .i64 (valL X b)) := fun _ h => h.cell (HS.out.int_at 1 j1.out (j := b) (by rw [hX.out]; omega))
          have y0 : ∀ w', Cls wr w' → w'.cell? ⟨g2, a, none⟩ = some (.int .i64 (valL Y a)) := fun _ h => h.cell (HS.out.int_at 0 j0.out (j := a) (by rw [hY.out]; omega))
          have y1 : ∀ w', Cls wr w' → w'.cell? ⟨g2, b, none⟩ = some (.int .i64 (valL Y b)) := fun _ h => h.cell (HS.out.int_at 0 j0.out (j := b) (by rw [hY.out]; omega))
          cases ga : ((a : Int) == s)
          · have na : ((a : Int) != s) = true := by rw [bne, ga]; rfl
            cases gb : ((b : Int) == s)
            · have nb : ((b : Int) != s) = true := by rw [bne, gb]; rfl
              cases gx : (valL X a == valL X b)
              · have HP : Hid (sepP X Y s a b = false) := by unfold Hid; rw [sepP_eq, gx]; simp
                go_wp2_with fail
                refine region_cls (by kernel_rfl) (by kernel_rfl) ?_
                repeat (first
                  | ((with_reducible refine quiet_pos ?_ (fun K hK => ?_))
                     · rfl
                     apply Exists.intro
                     refine ⟨fun w' hw' => ?_, ?_⟩
                     · go_simp
                       with_reducible rfl
                     simp only [Act.put, List.setIfInBounds_toArray, List.set_cons_zero, List.set_cons_succ]
                     refine hK _ ?_; clear hK K)
                  | ((with_reducible refine quiet_neg ?_ (fun K hK => ?_))
                     · rfl
                     simp only [Act.put, List.setIfInBounds_toArray, List.set_cons_zero, List.set_cons_succ]
                     refine hK _ ?_; clear hK K))
                with_reducible refine wpQuiet_nil ?_
                intro wz hwz'
                have HS2 := hid (HS.out.step hwz')
                clear HS x0 x1 y0 y1 hwz'
                have HA : Hid (allTo (fun b => !sepP X Y s a b) (b + 1)) := allTo_succ hin.out (by rw [HP.out]; rfl)
                clear HP hin
                go_wp2
                exact ⟨⟨b + 1, by omega, by go_num, HA, HS2⟩, by simp [intOf]; omega⟩
              · cases gy : (valL Y a == valL Y b)
                · have ny : (valL Y a != valL Y b) = true := by rw [bne, gy]; rfl
                  have HP : Hid (sepP X Y s a b = true) := by unfold Hid; rw [sepP_eq, ga, gb, gx, gy]; rfl
                  go_wp2_with fail
                  refine region_cls (by kernel_rfl) (by kernel_rfl) ?_
                  repeat (first
                    | ((with_reducible refine quiet_pos ?_ (fun K hK => ?_))
                       · rfl
                       apply Exists.intro
                       refine ⟨fun w' hw' => ?_, ?_⟩
                       · go_simp
                         with_reducible rfl
                       simp only [Act.put, List.setIfInBounds_toArray, List.set_cons_zero, List.set_cons_succ]
                       refine hK _ ?_; clear hK K)
                    | ((with_reducible refine quiet_neg ?_ (fun K hK => ?_))
                       · rfl
                       simp only [Act.put, List.setIfInBounds_toArray, List.set_cons_zero, List.set_cons_succ]
                       refine hK _ ?_; clear hK K))
                  with_reducible refine wpQuiet_nil ?_
                  intro wz hwz'
                  have HS2 := hid (HS.out.step hwz')
                  clear HS x0 x1 y0 y1 hwz'
                  have HR : Hid (sepB n X Y s = true) := sepB_yes hlt hlt2 HP.out
                  go_wp2
                  go_ret
                  exact ⟨by rw [← HRR.out, HR.out]; rfl, HS2.out.bl⟩
                · have ny : (valL Y a != valL Y b) = false := by rw [bne, gy]; rfl
                  have HP : Hid (sepP X Y s a b = false) := by unfold Hid; rw [sepP_eq, gy]; simp
                  go_wp2_with fail
                  refine region_cls (by kernel_rfl) (by kernel_rfl) ?_
                  repeat (first
                    | ((with_reducible refine quiet_pos ?_ (fun K hK => ?_))
                       · rfl
                       apply Exists.intro
                       refine ⟨fun w' hw' => ?_, ?_⟩
                       · go_simp
                         with_reducible rfl
                       simp only [Act.put, List.setIfInBounds_toArray, List.set_cons_zero, List.set_cons_succ]
                       refine hK _ ?_; clear hK K)
                    | ((with_reducible refine quiet_neg ?_ (fun K hK => ?_))
                       · rfl
                       simp only [Act.put, List.setIfInBounds_toArray, List.set_cons_zero, List.set_cons_succ]
                       refine hK _ ?_; clear hK K))
                  with_reducible refine wpQuiet_nil ?_
                  intro wz hwz'
                  have HS2 := hid (HS.out.step hwz')
                  clear HS x0 x1 y0 y1 hwz'
                  have HA : Hid (allTo (fun b => !sepP X Y s a b) (b + 1)) := allTo_succ hin.out (by rw [HP.out]; rfl)
                  clear HP hin
                  go_wp2
                  exact ⟨⟨b + 1, by omega, by go_num, HA, HS2⟩, by simp [intOf]; omega⟩
            · have nb : ((b : Int) != s) = false := by rw [bne, gb]; rfl
              have HP : Hid (sepP X Y s a b = false) := by unfold Hid; rw [sepP_eq, gb]; simp
              go_wp2_with fail
              refine region_cls (by kernel_rfl) (by kernel_rfl) ?_
              repeat (first
                | ((with_reducible refine quiet_pos ?_ (fun K hK => ?_))
                   · rfl
                   apply Exists.intro
                   refine ⟨fun w' hw' => ?_, ?_⟩
                   · go_simp
                     with_reducible rfl
                   simp only [Act.put, List.setIfInBounds_toArray, List.set_cons_zero, List.set_cons_succ]
                   refine hK _ ?_; clear hK K)
                | ((with_reducible refine quiet_neg ?_ (fun K hK => ?_))
                   · rfl
                   simp only [Act.put, List.setIfInBounds_toArray, List.set_cons_zero, List.set_cons_succ]
                   refine hK _ ?_; clear hK K))
              with_reducible refine wpQuiet_nil ?_
              intro wz hwz'
              have HS2 := hid (HS.out.step hwz')
              clear HS x0 x1 y0 y1 hwz'
              have HA : Hid (allTo (fun b => !sepP X Y s a b) (b + 1)) := allTo_succ hin.out (by rw [HP.out]; rfl)
              clear HP hin
              go_wp2
              exact ⟨⟨b + 1, by omega, by go_num, HA, HS2⟩, by simp [intOf]; omega⟩
          · have na : ((a : Int) != s) = false := by rw [bne, ga]; rfl
            have HP : Hid (sepP X Y s a b = false) := by unfold Hid; rw [sepP_eq, ga]; simp
            go_wp2_with fail
            refine region_cls (by kernel_rfl) (by kernel_rfl) ?_
            repeat (first
              | ((with_reducible refine quiet_pos ?_ (fun K hK => ?_))
                 · rfl
                 apply Exists.intro
                 refine ⟨fun w' hw' => ?_, ?_⟩
                 · go_simp
                   with_reducible rfl
                 simp only [Act.put, List.setIfInBounds_toArray, List.set_cons_zero, List.set_cons_succ]
                 refine hK _ ?_; clear hK K)
              | ((with_reducible refine quiet_neg ?_ (fun K hK => ?_))
                 · rfl
                 simp only [Act.put, List.setIfInBounds_toArray, List.set_cons_zero, List.set_cons_succ]
                 refine hK _ ?_; clear hK K))
            with_reducible refine wpQuiet_nil ?_
            intro wz hwz'
            have HS2 := hid (HS.out.step hwz')
            clear HS x0 x1 y0 y1 hwz'
            have HA : Hid (allTo (fun b => !sepP X Y s a b) (b + 1)) := allTo_succ hin.out (by rw [HP.out]; rfl)
            clear HP hin
            go_wp2
            exact ⟨⟨b + 1, by omega, by go_num, HA, HS2⟩, by simp [intOf]; omega⟩
        · have hba : b = a := by omega
          have HA : Hid (allTo (fun a => allB (fun b => !sepP X Y s a b) a) (a + 1)) := allTo_succ hall.out (allB_yes hin.out hba)
          clear hba hin hall
          go_wp2
          refine ⟨?_, by simp [intOf]; omega⟩
          first
            | exact ⟨a + 1, by omega, by go_num, HA, HS⟩
            | ((repeat apply Exists.intro); exact ⟨⟨a + 1, by omega, by go_num, HA, HS⟩, rfl⟩)
    · have han : a = n := by omega
      have HR : Hid (sepB n X Y s = false) := by unfold Hid sepB; rw [allB_yes hall.out han]; rfl
      clear han hall
      go_wp2
      go_ret
      exact ⟨by rw [← HRR.out, HR.out]; rfl, HS.out.bl⟩
set_option maxHeartbeats 4000000 in
set_option maxRecDepth 100000 in
theorem l6Splits_any (M : Nat) (s : Int) (w : World) (h : NetIs w A n c A' m d xs fs) (hM : M < 2 ^ 20) (he : endsB n fs) (hn0 : 0 < n) (hm20 : m ≤ 20) :
    Calls Try.prog 126 #[.agg #[.slice A n c, .slice A' m d], .int .i64 (M : Int), .int .i64 s] w fun e w' => e = .returned (.bool (sepB n (compL (goneF []) fs n) (compL (fun i => M.testBit i) fs n) s)) ∧ Below w.heap.size w w' := by
  have hS := (Led.nil w).blk_ w.heap.size rfl 34 #[.slice A n c, .slice A' m d]
  obtain ⟨r, hr⟩ : ∃ r, sepB n (compL (goneF []) fs n) (compL (fun i => M.testBit i) fs n) s = r := ⟨_, rfl⟩
  rw [hr]
  have HRR := hid hr
  clear hr
  have HN := hid h
  have HE := hid he
  have hn := h.nle
  have HM := hid hM
  have HZ0 : Hid (compL (fun i => (0 : Nat).testBit i) fs n = compL (goneF []) fs n) := compL_congr fun j _ => by rw [Nat.zero_testBit]; exact (Bool.eq_false_iff.2 (fun h => by have h1 := hasB_iff.1 h; cases h1)).symm
  clear hM
  clear h he
  go_enter Try.func126, Try.ntmps126
  go_wp2_with fail
  generalize w.alloc (.cells #[.slice A n c, .slice A' m d] 34) = W0 at *
  have C0 : ∀ w', Cls W0 w' → w'.cell? ⟨w.heap.size, 0, none⟩ = some (.slice A n c) := fun _ h => h.cell (hS.cell 0 0 rfl rfl)
  have C1 : ∀ w', Cls W0 w' → w'.cell? ⟨w.heap.size, 1, none⟩ = some (.slice A' m d) := fun _ h => h.cell (hS.cell 0 1 rfl rfl)
  have HL := hid (fun w' (h : Cls W0 w') => hS.step h)
  go_region_held3 (fun w' => Cls W0 w') (first | exact Cls.drew _ | exact Cls.next (by assumption) (by assumption))
    (first
      | (go_at_call_of 189 (Value.int .i64 0); refine (labels_any 0 _ (HN.out.grow (HL.out _ (by assumption)).bl) (by decide) HE.out hn0 hm20).mono ?_; rintro e w' ⟨v1, rfl, ho1, hb1⟩; rw [HZ0.out] at ho1; obtain ⟨g1, c1, rfl⟩ := ho1.splitg compL_len hn0; have hL1 := (HL.out _ (by assumption)).owns hb1 ho1)
      | (go_at_call_of 189 (Value.int .i64 (M : Int)); refine (labels_any M _ (HN.out.grow hL1.bl) HM.out HE.out hn0 hm20).mono ?_; rintro e w' ⟨v2, rfl, ho2, hb2⟩; obtain ⟨g2, c2, rfl⟩ := ho2.splitg compL_len hn0))
  have hL2 := hL1.owns hb2 ho2
  generalize w' = W2 at *
  have hX : Hid ((compL (goneF []) fs n).length = n) := compL_len
  have hY : Hid ((compL (fun i => M.testBit i) fs n).length = n) := compL_len
  generalize compL (goneF []) fs n = X at *
  generalize (compL (fun i => M.testBit i) fs n) = Y at *
  have HS := hid hL2
  clear HL C0 C1 hL1 hL2 hb1 hb2 ho1 ho2 hS
  go_wp2_with fail
  obtain ⟨L, hL⟩ : ∃ L, Led w W2 L ∧ L[0]? = some (tOwns elInt _ 3 (.slice (some ⟨g2, 0, none⟩) n c2) Y) ∧ L[1]? = some (tOwns elInt _ 3 (.slice (some ⟨g1, 0, none⟩) n c1) X) := ⟨_, HS.out, rfl, rfl⟩
  have HS1 := hid hL.1
  have j0 := hid hL.2.1
  have j1 := hid hL.2.2
  clear hL HS
  go_loopw [9] (fun i wr => ∃ a : Nat, a ≤ n ∧ i = .int .i64 a ∧ Hid (allTo (fun a => allB (fun i => !sepP X Y s a (a + 1 + i)) (n - (a + 1))) a) ∧ Hid (Led w wr L)) (fun i _ => n - (intOf i).toNat)
  case atStart => exact ⟨0, Nat.zero_le _, rfl, allTo_zero _, HS1⟩
  case round =>
    clear HS1
    obtain ⟨a, ha, rfl, hall, HS⟩ := hrel
    by_cases hlt : a < n
    · go_wp2_with fail
      go_loopw [10] (fun i wr => ∃ j : Nat, j ≤ n - (a + 1) ∧ i = .int .i64 ((a + 1 + j : Nat) : Int) ∧ Hid (allTo (fun i => !sepP X Y s a (a + 1 + i)) j) ∧ Hid (Led w wr L)) (fun i _ => n - (intOf i).toNat)
      case atStart => exact ⟨0, Nat.zero_le _, by go_num, allTo_zero _, HS⟩
      case round =>
        clear HS
        obtain ⟨j, hj, rfl, hin, HS⟩ := hrel
        by_cases hlt2 : j < n - (a + 1)
        · obtain ⟨b, hbe⟩ : ∃ b, b = a + 1 + j := ⟨_, rfl⟩
          rw [← hbe]
          have HBE := hid hbe
          have hbn : b < n := by omega
          have hab : a < b := by omega
          clear hbe
          have ia : (a : Int) < (n : Int) := by omega
          have ib : (b : Int) < (n : Int) := by omega
          have x0 : ∀ w', Cls wr w' → w'.cell? ⟨g1, a, none⟩ = some (.int .i64 (valL X a)) := fun _ h => h.cell (HS.out.int_at 1 j1.out (j := a) (by rw [hX.out]; omega))
          have x1 : ∀ w', Cls wr w' → w'.cell? ⟨g1, b, none⟩ = some (.int .i64 (valL X b)) := fun _ h => h.cell (HS.out.int_at 1 j1.out (j := b) (by rw [hX.out]; omega))
          have y0 : ∀ w', Cls wr w' → w'.cell? ⟨g2, a, none⟩ = some (.int .i64 (valL Y a)) := fun _ h => h.cell (HS.out.int_at 0 j0.out (j := a) (by rw [hY.out]; omega))
          have y1 : ∀ w', Cls wr w' → w'.cell? ⟨g2, b, none⟩ = some (.int .i64 (valL Y b)) := fun _ h => h.cell (HS.out.int_at 0 j0.out (j := b) (by rw [hY.out]; omega))
          cases ga : ((a : Int) == s)
          · have na : ((a : Int) != s) = true := by rw [bne, ga]; rfl
            cases gb : ((b : Int) == s)
            · have nb : ((b : Int) != s) = true := by rw [bne, gb]; rfl
              cases gx : (valL X a == valL X b)
              · have HP : Hid (sepP X Y s a b = false) := by unfold Hid; rw [sepP_eq, gx]; simp
                go_wp2_with fail
                refine region_cls (by kernel_rfl) (by kernel_rfl) ?_
                repeat (first
                  | ((with_reducible refine quiet_pos ?_ (fun K hK => ?_))
                     · rfl
                     apply Exists.intro
                     refine ⟨fun w' hw' => ?_, ?_⟩
                     · go_simp
                       with_reducible rfl
                     simp only [Act.put, List.setIfInBounds_toArray, List.set_cons_zero, List.set_cons_succ]
                     refine hK _ ?_; clear hK K)
                  | ((with_reducible refine quiet_neg ?_ (fun K hK => ?_))
                     · rfl
                     simp only [Act.put, List.setIfInBounds_toArray, List.set_cons_zero, List.set_cons_succ]
                     refine hK _ ?_; clear hK K))
                with_reducible refine wpQuiet_nil ?_
                intro wz hwz'
                have HS2 := hid (HS.out.step hwz')
                clear HS x0 x1 y0 y1 hwz'
                have HA : Hid (allTo (fun i => !sepP X Y s a (a + 1 + i)) (j + 1)) := allTo_succ hin.out (by rw [← HBE.out, HP.out]; rfl)
                clear HP hin
                go_wp2
                have HB := HBE.out
                exact ⟨⟨j + 1, by omega, by go_num, HA, HS2⟩, by simp [intOf]; omega⟩
              · cases gy : (valL Y a == valL Y b)
                · have ny : (valL Y a != valL Y b) = true := by rw [bne, gy]; rfl
                  have HP : Hid (sepP X Y s a b = true) := by unfold Hid; rw [sepP_eq, ga, gb, gx, gy]; rfl
                  go_wp2_with fail
                  refine region_cls (by kernel_rfl) (by kernel_rfl) ?_
                  repeat (first
                    | ((with_reducible refine quiet_pos ?_ (fun K hK => ?_))
                       · rfl
                       apply Exists.intro
                       refine ⟨fun w' hw' => ?_, ?_⟩
                       · go_simp
                         with_reducible rfl
                       simp only [Act.put, List.setIfInBounds_toArray, List.set_cons_zero, List.set_cons_succ]
                       refine hK _ ?_; clear hK K)
                    | ((with_reducible refine quiet_neg ?_ (fun K hK => ?_))
                       · rfl
                       simp only [Act.put, List.setIfInBounds_toArray, List.set_cons_zero, List.set_cons_succ]
                       refine hK _ ?_; clear hK K))
                  with_reducible refine wpQuiet_nil ?_
                  intro wz hwz'
                  have HS2 := hid (HS.out.step hwz')
                  clear HS x0 x1 y0 y1 hwz'
                  have HR : Hid (sepB n X Y s = true) := by unfold Hid; rw [← splB_eq]; exact splB_yes hbn hab HP.out
                  go_wp2
                  go_ret
                  exact ⟨by rw [← HRR.out, HR.out]; rfl, HS2.out.bl⟩
                · have ny : (valL Y a != valL Y b) = false := by rw [bne, gy]; rfl
                  have HP : Hid (sepP X Y s a b = false) := by unfold Hid; rw [sepP_eq, gy]; simp
                  go_wp2_with fail
                  refine region_cls (by kernel_rfl) (by kernel_rfl) ?_
                  repeat (first
                    | ((with_reducible refine quiet_pos ?_ (fun K hK => ?_))
                       · rfl
                       apply Exists.intro
                       refine ⟨fun w' hw' => ?_, ?_⟩
                       · go_simp
                         with_reducible rfl
                       simp only [Act.put, List.setIfInBounds_toArray, List.set_cons_zero, List.set_cons_succ]
                       refine hK _ ?_; clear hK K)
                    | ((with_reducible refine quiet_neg ?_ (fun K hK => ?_))
                       · rfl
                       simp only [Act.put, List.setIfInBounds_toArray, List.set_cons_zero, List.set_cons_succ]
                       refine hK _ ?_; clear hK K))
                  with_reducible refine wpQuiet_nil ?_
                  intro wz hwz'
                  have HS2 := hid (HS.out.step hwz')
                  clear HS x0 x1 y0 y1 hwz'
                  have HA : Hid (allTo (fun i => !sepP X Y s a (a + 1 + i)) (j + 1)) := allTo_succ hin.out (by rw [← HBE.out, HP.out]; rfl)
                  clear HP hin
                  go_wp2
                  have HB := HBE.out
                  exact ⟨⟨j + 1, by omega, by go_num, HA, HS2⟩, by simp [intOf]; omega⟩
            · have nb : ((b : Int) != s) = false := by rw [bne, gb]; rfl
              have HP : Hid (sepP X Y s a b = false) := by unfold Hid; rw [sepP_eq, gb]; simp
              go_wp2_with fail
              refine region_cls (by kernel_rfl) (by kernel_rfl) ?_
              repeat (first
                | ((with_reducible refine quiet_pos ?_ (fun K hK => ?_))
                   · rfl
                   apply Exists.intro
                   refine ⟨fun w' hw' => ?_, ?_⟩
                   · go_simp
                     with_reducible rfl
                   simp only [Act.put, List.setIfInBounds_toArray, List.set_cons_zero, List.set_cons_succ]
                   refine hK _ ?_; clear hK K)
                | ((with_reducible refine quiet_neg ?_ (fun K hK => ?_))
                   · rfl
                   simp only [Act.put, List.setIfInBounds_toArray, List.set_cons_zero, List.set_cons_succ]
                   refine hK _ ?_; clear hK K))
              with_reducible refine wpQuiet_nil ?_
              intro wz hwz'
              have HS2 := hid (HS.out.step hwz')
              clear HS x0 x1 y0 y1 hwz'
              have HA : Hid (allTo (fun i => !sepP X Y s a (a + 1 + i)) (j + 1)) := allTo_succ hin.out (by rw [← HBE.out, HP.out]; rfl)
              clear HP hin
              go_wp2
              have HB := HBE.out
              exact ⟨⟨j + 1, by omega, by go_num, HA, HS2⟩, by simp [intOf]; omega⟩
          · have na : ((a : Int) != s) = false := by rw [bne, ga]; rfl
            have HP : Hid (sepP X Y s a b = false) := by unfold Hid; rw [sepP_eq, ga]; simp
            go_wp2_with fail
            refine region_cls (by kernel_rfl) (by kernel_rfl) ?_
            repeat (first
              | ((with_reducible refine quiet_pos ?_ (fun K hK => ?_))
                 · rfl
                 apply Exists.intro
                 refine ⟨fun w' hw' => ?_, ?_⟩
                 · go_simp
                   with_reducible rfl
                 simp only [Act.put, List.setIfInBounds_toArray, List.set_cons_zero, List.set_cons_succ]
                 refine hK _ ?_; clear hK K)
              | ((with_reducible refine quiet_neg ?_ (fun K hK => ?_))
                 · rfl
                 simp only [Act.put, List.setIfInBounds_toArray, List.set_cons_zero, List.set_cons_succ]
                 refine hK _ ?_; clear hK K))
            with_reducible refine wpQuiet_nil ?_
            intro wz hwz'
            have HS2 := hid (HS.out.step hwz')
            clear HS x0 x1 y0 y1 hwz'
            have HA : Hid (allTo (fun i => !sepP X Y s a (a + 1 + i)) (j + 1)) := allTo_succ hin.out (by rw [← HBE.out, HP.out]; rfl)
            clear HP hin
            go_wp2
            have HB := HBE.out
            exact ⟨⟨j + 1, by omega, by go_num, HA, HS2⟩, by simp [intOf]; omega⟩
        · have hja : j = n - (a + 1) := by omega
          have HA : Hid (allTo (fun a => allB (fun i => !sepP X Y s a (a + 1 + i)) (n - (a + 1))) (a + 1)) := allTo_succ hall.out (allB_yes hin.out hja)
          have inb : ¬ (((a + 1 + j : Nat) : Int) < (n : Int)) := by omega
          clear hin hall
          go_wp2
          refine ⟨?_, by simp [intOf]; omega⟩
          first
            | exact ⟨a + 1, by omega, by go_num, HA, HS⟩
            | ((repeat apply Exists.intro); exact ⟨⟨a + 1, by omega, by go_num, HA, HS⟩, rfl⟩)
    · have han : a = n := by omega
      have HR : Hid (sepB n X Y s = false) := by unfold Hid; rw [← splB_eq]; unfold splB; rw [allB_yes hall.out han]; rfl
      clear han hall
      go_wp2
      go_ret
      exact ⟨by rw [← HRR.out, HR.out]; rfl, HS.out.bl⟩
end
end Go.Proofs.Ytgoegldffjfmdaa
/- CutNodes of both sides, walked. Conditions: none. -/
namespace Go.Proofs.Ytgoegldffjfmdaa
open Go.RowKit
theorem calls_bool {P : Program} {f : FuncId} {args : Array Value} {w : World} {b b' : Bool} (h : Calls P f args w fun e w' => e = .returned (.bool b) ∧ Below w.heap.size w w') (e : b = b') : Calls P f args w fun e w' => e = .returned (.bool b') ∧ Below w.heap.size w w' := by subst e; exact h
/-- What walks of these chapters ask of a network. -/
theorem good_parts {n c m d : Nat} {A A' : Option Addr} {xs : List ByteArray} {fs : List Fib} {w : World} (h : NetIs w A n c A' m d xs fs) (g : goodB xs fs = true) : endsB n fs ∧ 0 < n ∧ n ≤ 8 ∧ m ≤ 14 := by
  have he := goodB_ends g
  rw [h.xlen] at he
  have h1 := goodB_bd g
  have h2 := h.xlen
  have h3 := h.flen
  exact ⟨he, by omega, by omega, by omega⟩
theorem idsTo_range {p : Nat → Bool} {k : Nat} : ∀ x ∈ idsTo p k, 0 ≤ x ∧ x < k := fun x hx => by
  unfold idsTo at hx
  obtain ⟨j, hj, rfl⟩ := List.mem_map.1 hx
  have := (List.mem_filter.1 hj).1
  simp at this; omega
theorem maskN_comp {n : Nat} {fs : List Fib} {l : List Int} (h : ∀ x ∈ l, 0 ≤ x) : compL (fun i => (maskN l).testBit i) fs n = compL (goneF l) fs n := compL_congr fun i _ => maskN_bit h i
section
variable {n c m d : Nat} {A A' : Option Addr} {xs : List ByteArray} {fs : List Fib}
set_option maxHeartbeats 2000000 in
set_option maxRecDepth 100000 in
theorem implCutNodes (w : World) (h : NetIs w A n c A' m d xs fs) :
    Calls Try.prog 49 #[.agg #[.slice A n c, .slice A' m d]] w fun e w' => ∃ v, e = .returned (.tuple #[v, .bool (goodB xs fs)]) ∧ Owns elInt w' w.heap.size 3 v (cnL xs fs) ∧ Below w.heap.size w w' := by
  have hS := (Led.nil w).blk_ w.heap.size rfl 34 #[.slice A n c, .slice A' m d]
  cases g : goodB xs fs
  · have H : Hid (cnL xs fs = []) := by unfold Hid cnL; rw [g]; rfl
    go_enter Try.func49, Try.ntmps49
    go_wp2_with fail
    refine (validN _ (h.grow hS.bl)).mono ?_
    rintro e w1 ⟨rfl, hb⟩
    rw [g]
    go_wp2_with fail
    go_ret2
    exact ⟨_, rfl, by rw [H.out]; exact World.ownsRow_nil _ _ _ _, bl_then hS.bl hb⟩
  · have H : Hid (cnL xs fs = idsTo (cnF fs n) n) := by unfold Hid cnL; rw [g, h.xlen]; rfl
    obtain ⟨he, hn0, hn8, hm14⟩ := good_parts h g
    have HE := hid he
    have HLF := hid h.flen
    obtain ⟨i0, hi, hz0, hz1, hz2⟩ := info_parts int_info
    go_enter Try.func49, Try.ntmps49
    go_wp2_with fail
    refine (validN _ (h.grow hS.bl)).mono ?_
    rintro e w1 ⟨rfl, hb⟩
    rw [g]
    replace hS := (hS.step hb).empty elInt 3 w1.heap.size rfl w.heap.size (hS.step hb).bl.size
    rw [← idsTo_zero (cnF fs n)] at hS
    have HS := hid hS
    have q1 := HS.out.cell 1 0 rfl rfl
    have HF := hid h
    clear hS hb h he
    go_wp2_with fail
    clear q1
    go_loopw [4, 13] (fun v i wr => ∃ k : Nat, k ≤ n ∧ i = .int .i64 k ∧ Hid (Led w wr [tOwns elInt w.heap.size 3 v (idsTo (cnF fs n) k), tBlk w.heap.size 34 #[.slice A n c, .slice A' m d]])) (fun _ i _ => n - (intOf i).toNat)
    case atStart => exact ⟨0, Nat.zero_le _, rfl, HS⟩
    case round =>
      clear HS
      obtain ⟨k, hk, rfl, HS⟩ := hrel
      by_cases hlt : k < n
      · have hll := idsTo_len (cnF fs n) k
        have C0 : ∀ w', Cls wr w' → w'.cell? ⟨w.heap.size, 0, none⟩ = some (.slice A n c) := fun _ h => h.cell (HS.out.cell 1 0 rfl rfl)
        have C1 : ∀ w', Cls wr w' → w'.cell? ⟨w.heap.size, 1, none⟩ = some (.slice A' m d) := fun _ h => h.cell (HS.out.cell 1 1 rfl rfl)
        have HL := hid (fun w' (h : Cls wr w') => HS.out.step h)
        obtain ⟨r, hr⟩ : ∃ r, cnF fs n k = r := ⟨_, rfl⟩
        have HP : Hid (sepB n (compL (goneF []) fs n) (compL (goneF (idsTo (touchesF fs (k : Int)) m)) fs n) (k : Int) = r) := by rw [← hr]; unfold cnF; rw [HLF.out]; rfl
        have HR := hid hr
        have hil := idsTo_len (touchesF fs (k : Int)) m
        clear hr
        go_wp2_with fail
        go_region_held3 (fun w' => Cls wr w') (first | exact Cls.refl _ | exact Cls.drew _ | exact Cls.next (by assumption) (by assumption))
          (first
            | (go_at_call 125; refine (fibersAt_any (k : Int) _ (HF.out.grow (HL.out _ (by assumption)).bl)).mono ?_; rintro e w' ⟨v1, rfl, ho1, hb1⟩; obtain ⟨A1, c1, rfl, _⟩ := ho1.form; have hL1 := (HL.out _ (by assumption)).owns hb1 ho1)
            | (go_at_call 124; refine (calls_bool (separates_any (k : Int) _ (HF.out.grow hL1.bl) (hL1.seesI 0 rfl) (by omega) HE.out hn0) HP.out).mono ?_; rintro e w' ⟨rfl, hb2⟩))
        have hL2 := hL1.step hb2
        clear HL C0 C1 hL1 hb1 hb2 ho1 HS
        generalize w' = W2 at *
        cases r
        · have HN : Hid (idsTo (cnF fs n) (k + 1) = idsTo (cnF fs n) k) := idsTo_no HR.out
          have hS6 := hid (hL2.drop 1)
          clear hL2 HP
          go_wp2
          exact ⟨⟨k + 1, by omega, by go_num, by rw [HN.out]; exact hS6⟩, by simp [intOf]; omega⟩
        · have HN : Hid (idsTo (cnF fs n) (k + 1) = idsTo (cnF fs n) k ++ [(k : Int)]) := idsTo_yes HR.out
          obtain ⟨A3, c3, rfl, _⟩ := hL2.form 1 rfl
          have HS2 := hid (hL2.blk_ W2.heap.size rfl 3 #[.int .i64 k])
          clear hL2 HP
          go_wp2_with (first
            | (at_builtin; refine wpList_append_led rfl _ _ 27 rfl HS2.out 2 rfl Try.underlying27 hi hz0 hz1 (by rw [hz2]; decide) rfl rfl rfl (show Sees elInt _ _ _ 1 [(k : Int)] from sees_new elInt _ _ _ _ rfl) (by omega) HS2.out.bl.size ?_)
            | go_in)
          intro A2 c2 w7 hS5
          have hS6 := hid (hS5.drop 2)
          clear HS2 hS5
          go_wp2
          go_roundw
          case rel => exact ⟨k + 1, by omega, by go_num, by rw [HN.out]; exact hS6⟩
          case measure => simp [intOf]; omega
      · have hkm : k = n := by omega
        subst hkm
        clear hlt
        go_wp2
        go_ret2
        exact ⟨_, rfl, by rw [H.out]; exact HS.out.own 0 rfl, HS.out.bl⟩
set_option maxHeartbeats 2000000 in
set_option maxRecDepth 100000 in
theorem specCutNodes (w : World) (h : NetIs w A n c A' m d xs fs) :
    Calls Try.prog 50 #[.agg #[.slice A n c, .slice A' m d]] w fun e w' => ∃ v, e = .returned (.tuple #[v, .bool (goodB xs fs)]) ∧ Owns elInt w' w.heap.size 3 v (cnL xs fs) ∧ Below w.heap.size w w' := by
  have hS := ((Led.nil w).blk_ w.heap.size rfl 34 #[.slice A n c, .slice A' m d]).empty elInt 3 (w.heap.size + 1) (by simp) w.heap.size (by omega)
  cases g : goodB xs fs
  · have H : Hid (cnL xs fs = []) := by unfold Hid cnL; rw [g]; rfl
    go_enter Try.func50, Try.ntmps50
    go_wp2_with fail
    refine (goodN _ (h.grow hS.bl)).mono ?_
    rintro e w1 ⟨rfl, hb⟩
    rw [g]
    replace hS := hS.step hb
    go_wp2_with fail
    go_ret2
    exact ⟨_, rfl, by rw [H.out]; exact hS.own 0 rfl, hS.bl⟩
  · have H : Hid (cnL xs fs = idsTo (cnF fs n) n) := by unfold Hid cnL; rw [g, h.xlen]; rfl
    obtain ⟨he, hn0, hn8, hm14⟩ := good_parts h g
    have HE := hid he
    have HLF := hid h.flen
    have HLX := hid h.xlen
    have HG := hid g
    obtain ⟨i0, hi, hz0, hz1, hz2⟩ := info_parts int_info
    go_enter Try.func50, Try.ntmps50
    go_wp2_with fail
    refine (goodN _ (h.grow hS.bl)).mono ?_
    rintro e w1 ⟨rfl, hb⟩
    rw [g]
    replace hS := hS.step hb
    have HS : Hid (Led w w1 [tOwns elInt w.heap.size 3 (.slice (some ⟨w.heap.size + 1, 0, none⟩) 0 0) (idsTo (cnF fs n) 0), tBlk w.heap.size 34 #[.slice A n c, .slice A' m d]]) := hS
    have HF := hid h
    clear hS hb h he
    go_wp2_with fail
    go_loopw [4, 5] (fun v i wr => ∃ k : Nat, k ≤ n ∧ i = .int .i64 k ∧ Hid (Led w wr [tOwns elInt w.heap.size 3 v (idsTo (cnF fs n) k), tBlk w.heap.size 34 #[.slice A n c, .slice A' m d]])) (fun _ i _ => n - (intOf i).toNat)
    case atStart => exact ⟨0, Nat.zero_le _, rfl, HS⟩
    case round =>
      clear HS
      obtain ⟨k, hk, rfl, HS⟩ := hrel
      have q0 := HS.out.cell 1 0 rfl rfl
      by_cases hlt : k < n
      · have hll := idsTo_len (cnF fs n) k
        have q1 := HS.out.cell 1 1 rfl rfl
        obtain ⟨r, hr⟩ : ∃ r, cnF fs n k = r := ⟨_, rfl⟩
        have hfa : Hid (faB xs fs (k : Int) = true) := by unfold Hid faB; rw [HG.out]; unfold inB; rw [HLX.out]; simp; omega
        have hfi : Hid (faI xs fs (k : Int) = idsTo (touchesF fs (k : Int)) m) := by unfold Hid faI; rw [hfa.out, HLF.out]; rfl
        have hmem : ∀ x ∈ idsTo (touchesF fs (k : Int)) m, 0 ≤ x ∧ x < 20 := fun x hx => by have := idsTo_range x hx; omega
        have HP : Hid (sepB n (compL (goneF []) fs n) (compL (fun i => (maskN (idsTo (touchesF fs (k : Int)) m)).testBit i) fs n) (k : Int) = r) := by
          rw [← hr, maskN_comp (fun x hx => (hmem x hx).1)]; unfold cnF; rw [HLF.out]; rfl
        have HR := hid hr
        have hil := idsTo_len (touchesF fs (k : Int)) m
        have HMM := hid hmem
        have HMB : Hid (maskN (idsTo (touchesF fs (k : Int)) m) < 2 ^ 20) := maskTo_lt hmem _ (Nat.le_refl _)
        clear hr hmem
        go_wp2_with fail
        refine (specFibersAt (k : Int) _ (HF.out.grow HS.out.bl)).mono ?_
        rintro e w3 ⟨v3, rfl, ho3, hb3⟩
        rw [hfi.out] at ho3
        obtain ⟨A3, c3, rfl, _⟩ := ho3.form
        have hS1 := HS.out.owns hb3 ho3
        clear ho3 hb3 q0 q1 HS
        generalize hII : idsTo (touchesF fs (k : Int)) m = I at *
        have C0 : ∀ w', Cls w3 w' → w'.cell? ⟨w.heap.size, 0, none⟩ = some (.slice A n c) := fun _ h => h.cell (hS1.cell 2 0 rfl rfl)
        have C1 : ∀ w', Cls w3 w' → w'.cell? ⟨w.heap.size, 1, none⟩ = some (.slice A' m d) := fun _ h => h.cell (hS1.cell 2 1 rfl rfl)
        have HL := hid (fun w' (h : Cls w3 w') => hS1.step h)
        clear hII
        go_wp2_with fail
        go_region_held3 (fun w' => Cls w3 w') (first | exact Cls.refl _ | exact Cls.drew _ | assumption | exact Cls.next (by assumption) (by assumption))
          (first
            | (go_at_call 108; refine (mask_any _ ((HL.out _ (by assumption)).sees 0 rfl rfl) HMM.out (by omega)).mono ?_; rintro e w' ⟨rfl, rfl⟩)
            | (go_at_call 126; have hcl := ‹Cls w3 _›; refine (calls_bool (l6Splits_any (maskN I) (k : Int) _ (HF.out.grow (HL.out _ (by assumption)).bl) HMB.out HE.out hn0 (by omega)) HP.out).mono ?_; rintro e w' ⟨rfl, hb2⟩))
        have hL2 := (HL.out _ hcl).step hb2
        clear HL C0 C1 hS1 hb2 hcl
        generalize w' = W2 at *
        cases r
        · have HN : Hid (idsTo (cnF fs n) (k + 1) = idsTo (cnF fs n) k) := idsTo_no HR.out
          have hS6 := hid (hL2.drop 1)
          clear hL2 HP
          go_wp2
          exact ⟨⟨k + 1, by omega, by go_num, by rw [HN.out]; exact hS6⟩, by simp [intOf]; omega⟩
        · have HN : Hid (idsTo (cnF fs n) (k + 1) = idsTo (cnF fs n) k ++ [(k : Int)]) := idsTo_yes HR.out
          obtain ⟨A5, c5, rfl, _⟩ := hL2.form 1 rfl
          have HS2 := hid (hL2.blk_ W2.heap.size rfl 3 #[.int .i64 k])
          clear hL2 HP
          go_wp2_with (first
            | (at_builtin; refine wpList_append_led rfl _ _ 27 rfl HS2.out 2 rfl Try.underlying27 hi hz0 hz1 (by rw [hz2]; decide) rfl rfl rfl (show Sees elInt _ _ _ 1 [(k : Int)] from sees_new elInt _ _ _ _ rfl) (by omega) HS2.out.bl.size ?_)
            | go_in)
          intro A2 c2 w7 hS5
          have hS6 := hid (hS5.drop 2)
          clear HS2 hS5
          go_wp2
          go_roundw
          case rel => exact ⟨k + 1, by omega, by go_num, by rw [HN.out]; exact hS6⟩
          case measure => simp [intOf]; omega
      · have hkm : k = n := by omega
        subst hkm
        clear hlt
        go_wp2
        go_ret2
        exact ⟨_, rfl, by rw [H.out]; exact HS.out.own 0 rfl, HS.out.bl⟩
end
end Go.Proofs.Ytgoegldffjfmdaa
/- fewest, MinimumCut, DisjointCount of the program, walked. Conditions: as each states. -/
namespace Go.Proofs.Ytgoegldffjfmdaa
open Go.RowKit
section
variable {n : Nat} {p : List Int → Bool} {H : FuncId} {hcap : Array Value}
set_option maxHeartbeats 1000000 in
set_option maxRecDepth 100000 in
/-- The visiting closure of fewest. -/
theorem fewest1_any (hcall : ∀ args wr, (callFunc H args).run Try.prog wr = .ok (.enter H args) wr) {L : List Int} {A : Option Addr} {c gb gh : Nat} {v0 : Value} (w : World) (hg : Blk w gb 27 #[v0]) (hh : Blk w gh 123 #[.func (.func H) #[] hcap]) (hne : gb ≠ gh)
    (hs : Sees elInt w w.heap.size A L.length L) (hA : ∀ b o, A = some ⟨b, o, none⟩ → b ≠ gb) (hl : L.length ≤ 1000)
    (hH : ∀ w', Touch (fun b => b = gb) w w' → Sees elInt w' w'.heap.size A L.length L → Calls Try.prog H (#[.slice A L.length c] ++ hcap) w' fun e w2 => e = .returned (.bool (p L)) ∧ Below w'.heap.size w' w2) :
    Calls Try.prog 181 #[.slice A L.length c, .pointer (some ⟨gb, 0, none⟩), .pointer (some ⟨gh, 0, none⟩)] w fun e w' => e = .returned (.bool (p L)) ∧ Touch (fun b => b = gb) w w' ∧ ∃ v, Blk w' gb 27 #[v] ∧ Owns elInt w' w.heap.size 3 v L := by
  have HS := hid hs
  have HH := hid hH
  have HA := hid hA
  have glt := hg.lt
  have HGH := hid hh
  clear hs hH hA
  go_enter Try.func181, Try.ntmps181
  go_wp2_with fail
  refine (cloneI_any _ HS.out (by omega)).mono ?_
  rintro e w1 ⟨v, rfl, ho, hb⟩
  obtain ⟨A1, c1, hv1, _⟩ := ho.form
  subst hv1
  have hg1 := hg.below hb hg.lt
  have c0 := hg1.cell 0
  simp at c0
  have f0 := hg1.frozen 0
  have ht1 : Touch (fun b => b = gb) w (w1.setCell ⟨gb, 0, none⟩ (.slice A1 L.length c1)) := (Touch.of_below hb).trans (Touch.set (S := fun b => b = gb) w1 (p := ⟨gb, 0, none⟩) rfl (.slice A1 L.length c1))
  have hg2 := hg1.set 0 (.slice A1 L.length c1)
  have e2 : (#[v0] : Array Value).setIfInBounds 0 (.slice A1 L.length c1) = #[.slice A1 L.length c1] := rfl
  rw [e2] at hg2
  have hh2 := HGH.out.touch ht1 (fun e => hne e.symm)
  have d1 := hh2.cell 0
  simp at d1
  have ho2 : Owns elInt (w1.setCell ⟨gb, 0, none⟩ (.slice A1 L.length c1)) w.heap.size 3 (.slice A1 L.length c1) L := ho.far glt _
  have HG2 := hid hg2
  have HO2 := hid ho2
  have HT1 := hid ht1
  clear ho hg1 hg2 ho2 ht1 hh2 e2
  go_wp2_with fail
  refine (HH.out _ HT1.out (HS.out.apart HT1.out HA.out)).mono ?_
  rintro e w3 ⟨rfl, hb3⟩
  have HB3 := hid hb3
  clear hb3 c0 f0 d1
  go_wp2_with fail
  go_ret
  exact ⟨rfl, HT1.out.then_ HB3.out, _, HG2.out.below HB3.out HG2.out.lt, HO2.out.below HB3.out⟩
set_option maxHeartbeats 2000000 in
set_option maxRecDepth 100000 in
theorem fewest_any (hcall : ∀ args wr, (callFunc H args).run Try.prog wr = .ok (.enter H args) wr) (hn : n ≤ 1000) (w : World)
    (hH : ∀ (w' : World) (L : List Int) (A : Option Addr) (c : Nat), Cls w w' → Sees elInt w' w'.heap.size A L.length L → lowL n L → L.length ≤ n → Calls Try.prog H (#[.slice A L.length c] ++ hcap) w' fun e w2 => e = .returned (.bool (p L)) ∧ Below w'.heap.size w' w2) :
    Calls Try.prog 111 #[.int .i64 n, .func (.func H) #[] hcap] w fun e w' => ∃ v, e = .returned (.tuple #[v, .bool (fewL p n).isSome]) ∧ Owns elInt w' w.heap.size 3 v ((fewL p n).getD []) ∧ Below w.heap.size w w' := by
  obtain ⟨f, hf⟩ : ∃ f : Nat → Option (List Int), f = fun c => chooseL p n c 0 [] := ⟨_, rfl⟩
  have HF : Hid (fewL p n = firstO f 0 (n + 1)) := by rw [hf]; rfl
  have HFK : Hid (∀ k, f k = chooseL p n k 0 []) := fun k => by rw [hf]
  have HH := hid hH
  have iw : IntKind.i64.wrap ((n : Int) + 1) = ((n + 1 : Nat) : Int) := by rw [IntWalk.i64_in _ (by omega)]; omega
  have hS0 := ((Led.nil w).blk_ w.heap.size rfl 123 #[.func (.func H) #[] hcap]).empty elInt 3 (w.heap.size + 1) (by simp) w.heap.size (by omega)
  have hS := hS0.blk_ (w.heap.size + 1 + 1) (by simp) 27 #[.slice (some ⟨w.heap.size + 1, 0, none⟩) 0 0]
  clear hf hH hS0
  go_enter Try.func111, Try.ntmps111
  go_wp2_with fail
  generalize ((w.alloc (.cells #[.func (.func H) #[] hcap] 123)).alloc (.cells #[] 3)).alloc (.cells #[.slice (some ⟨w.heap.size + 1, 0, none⟩) 0 0] 27) = W1 at *
  obtain ⟨gb, hgb⟩ : ∃ gb, w.heap.size + 1 + 1 = gb := ⟨_, rfl⟩
  rw [hgb] at hS ⊢
  have hgg : gb ≠ w.heap.size := by omega
  have hg0 : Blk W1 gb 27 #[.slice (some ⟨w.heap.size + 1, 0, none⟩) 0 0] := hS.get 0 rfl
  have hh0 : Blk W1 w.heap.size 123 #[.func (.func H) #[] hcap] := hS.get 2 rfl
  have hbl := hS.bl
  have hle : w.heap.size ≤ gb := by omega
  have hW1 := hbl.size
  have hlt1 := hg0.lt
  have hcls : ∀ w', Touch (fun b => b = gb) W1 w' → Below w.heap.size w w' := fun w' ht => hbl.trans (ht.below (fun k hk => by subst hk; exact hle) hW1)
  have V : Visit n p gb (fun w' => Touch (fun b => b = gb) W1 w' ∧ ∃ v, Blk w' gb 27 #[v]) (fun L w' => ∃ v, Blk w' gb 27 #[v] ∧ Owns elInt w' W1.heap.size 3 v L) 181 #[.pointer (some ⟨gb, 0, none⟩), .pointer (some ⟨w.heap.size, 0, none⟩)] := by
    refine ⟨fun _ _ => by rfl, fun w' w2 h hb => ⟨h.1.then_ hb, ?_⟩, fun w' h => ?_, fun w' L A c hI hs hA hL hln hlc => ?_⟩
    · obtain ⟨v, hv⟩ := h.2
      exact ⟨v, hv.below hb hv.lt⟩
    · obtain ⟨v, hv⟩ := h.2
      exact hv.lt
    · obtain ⟨ht, v, hv⟩ := hI
      have h1 := fewest1_any hcall (c := c) (p := p) w' hv (hh0.touch ht (fun e => hgg e.symm)) hgg hs hA (by omega) (fun w2 ht2 hs2 => HH.out w2 L A c (hcls w2 (ht.trans ht2)) hs2 hL hln)
      refine h1.mono ?_
      rintro e w3 ⟨rfl, ht3, v3, hg3, ho3⟩
      exact ⟨rfl, ⟨ht.trans ht3, v3, hg3⟩, ⟨v3, hg3, ho3.base ht.size⟩, ht3⟩
  have HI0 : Hid (Touch (fun b => b = gb) W1 W1 ∧ ∃ v, Blk W1 gb 27 #[v]) := ⟨Touch.refl _ _, _, hg0⟩
  have HCLS := hid hcls
  clear hS hg0 hh0 hbl hle hgb hcls HH
  go_loopw [12] (fun i wr => ∃ k : Nat, k ≤ n + 1 ∧ i = .int .i64 k ∧ Hid (Touch (fun b => b = gb) W1 wr ∧ ∃ v, Blk wr gb 27 #[v]) ∧ Hid (firstO f 0 (n + 1) = firstO f k (n + 1 - k))) (fun i _ => n + 1 - (intOf i).toNat)
  case atStart => exact ⟨0, Nat.zero_le _, rfl, HI0, rfl⟩
  case round =>
    clear HI0
    obtain ⟨k, hk, rfl, HI, HE⟩ := hrel
    by_cases hlt : k < n + 1
    · have ik : (k : Int) < (n : Int) + 1 := by omega
      have HC := hid (choices_any V hn k 0 [] none 0 wr (by simp; omega) (by decide) HI.out (Sees.nil elInt _ _ _) (fun b o e => by cases e) (fun x hx => by cases hx) (Nat.le_refl _))
      go_wp2_with fail
      refine HC.out.mono ?_
      rintro e w4 ⟨rfl, hI4, ht4, hO4⟩
      have HI4 := hid hI4
      have HO4 := hid hO4
      clear hI4 ht4 hO4 HC HI
      cases gx : chooseL p n k 0 [] with
      | none =>
        have HE2 : Hid (firstO f 0 (n + 1) = firstO f (k + 1) (n + 1 - (k + 1))) := by
          unfold Hid
          rw [HE.out, show n + 1 - k = (n + 1 - (k + 1)) + 1 by omega]
          exact firstO_none (by rw [HFK.out, gx])
        clear gx HO4 HE
        simp only [Option.isSome_none]
        go_wp2
        refine ⟨?_, by simp [intOf]; omega⟩
        first
          | exact ⟨k + 1, by omega, by go_num, HI4, HE2⟩
          | ((repeat apply Exists.intro); exact ⟨⟨k + 1, by omega, by go_num, HI4, HE2⟩, rfl⟩)
      | some R =>
        have HE2 : Hid (fewL p n = some R) := by
          unfold Hid
          rw [HF.out, HE.out, show n + 1 - k = (n + 1 - (k + 1)) + 1 by omega]
          exact firstO_some (by rw [HFK.out, gx])
        obtain ⟨v, hv, ho⟩ := HO4.out R gx
        have c0 := hv.cell 0
        simp at c0
        have HO5 := hid ho
        clear gx HO4 HE hv ho
        simp only [Option.isSome_some]
        go_wp2
        go_ret2
        exact ⟨_, by rw [HE2.out]; rfl, by rw [HE2.out]; exact HO5.out.base hW1, HCLS.out _ HI4.out.1⟩
    · have hk0 : n + 1 - k = 0 := by omega
      have HE2 : Hid (fewL p n = none) := by unfold Hid; rw [HF.out, HE.out, hk0]; rfl
      have ik : ¬ ((k : Int) < (n : Int) + 1) := by omega
      clear hk0 HE
      go_wp2
      go_ret2
      exact ⟨_, by rw [HE2.out]; rfl, by rw [HE2.out]; exact World.ownsRow_nil _ _ _ _, HCLS.out _ HI.out.1⟩
end
end Go.Proofs.Ytgoegldffjfmdaa
/- MinimumCut, DisjointCount of the program, walked. Conditions: none. -/
namespace Go.Proofs.Ytgoegldffjfmdaa
open Go.RowKit
theorem nodesB_two (n : Nat) (x y : Int) : nodesB n [x, y] = (inB 0 ((n : Int) - 1) x && inB 0 ((n : Int) - 1) y) := by simp [nodesB]
section
variable {n c m d : Nat} {A A' : Option Addr} {xs : List ByteArray} {fs : List Fib}
set_option maxHeartbeats 2000000 in
set_option maxRecDepth 100000 in
theorem minCut1_any {B k cc gN gF gT f t : Nat} {G : Option Addr} {l : List Int} (w : World) (h : NetIs w A n c A' m d xs fs) (hN : Blk w gN 34 #[.slice A n c, .slice A' m d]) (hF : Blk w gF 3 #[.int .i64 (f : Int)]) (hT : Blk w gT 3 #[.int .i64 (t : Int)])
    (hs : Sees elInt w B G k l) (hk : k ≤ 1048576) (he : endsB n fs) (hf : f < n) (ht : t < n) :
    Calls Try.prog 132 #[.slice G k cc, .pointer (some ⟨gN, 0, none⟩), .pointer (some ⟨gF, 0, none⟩), .pointer (some ⟨gT, 0, none⟩)] w fun e w' => e = .returned (.bool (cutP fs n f t l)) ∧ Below w.heap.size w w' := by
  have q0 := hN.cell 0
  have q1 := hN.cell 1
  simp at q0 q1
  obtain ⟨y, hy⟩ : ∃ y, y = compL (goneF l) fs n := ⟨_, rfl⟩
  have HP : Hid (cutP fs n f t l = !(valL y f == valL y t)) := by rw [hy]; rfl
  rw [HP.out]
  have HF := hid hF
  have HT := hid hT
  have hlc : Hid (y.length = n) := by rw [hy]; exact compL_len
  have HY := hid hy
  clear hy
  have iF : (f : Int) < (n : Int) := by omega
  have iT : (t : Int) < (n : Int) := by omega
  go_enter Try.func132, Try.ntmps132
  go_wp2_with fail
  refine (components_any _ h hs hk he (by omega)).mono ?_
  rintro e w1 ⟨v, rfl, ho, hb⟩
  obtain ⟨g, cV, rfl⟩ := ho.splitg compL_len (show 0 < n by omega)
  have hS := (Led.nil w).owns hb ho
  have hf1 := HF.out.below hb HF.out.lt
  have ht1 := HT.out.below hb HT.out.lt
  have c0 := hf1.cell 0
  have c1 := ht1.cell 0
  simp at c0 c1
  rw [← HY.out] at hS
  have F0 : ∀ w', Cls w1 w' → w'.cell? ⟨gF, 0, none⟩ = some (.int .i64 (f : Int)) := fun _ h => h.cell c0
  have T0 : ∀ w', Cls w1 w' → w'.cell? ⟨gT, 0, none⟩ = some (.int .i64 (t : Int)) := fun _ h => h.cell c1
  have V0 : ∀ w', Cls w1 w' → w'.cell? ⟨g, f, none⟩ = some (.int .i64 (valL y f)) := fun _ h => h.cell (hS.int_at 0 rfl (j := f) (by rw [hlc.out]; omega))
  have V1 : ∀ w', Cls w1 w' → w'.cell? ⟨g, t, none⟩ = some (.int .i64 (valL y t)) := fun _ h => h.cell (hS.int_at 0 rfl (j := t) (by rw [hlc.out]; omega))
  clear ho hb c0 c1
  go_wp2_with fail
  refine region_cls (by kernel_rfl) (by kernel_rfl) ?_
  repeat (first
    | ((with_reducible refine quiet_pos ?_ (fun K hK => ?_))
       · rfl
       apply Exists.intro
       refine ⟨fun w' hw' => ?_, ?_⟩
       · go_simp
         with_reducible rfl
       simp only [Act.put, List.setIfInBounds_toArray, List.set_cons_zero, List.set_cons_succ]
       refine hK _ ?_; clear hK K)
    | ((with_reducible refine quiet_neg ?_ (fun K hK => ?_))
       · rfl
       simp only [Act.put, List.setIfInBounds_toArray, List.set_cons_zero, List.set_cons_succ]
       refine hK _ ?_; clear hK K))
  with_reducible refine wpQuiet_nil ?_
  intro wz hwz'
  have HZ := hid (hS.step hwz').bl
  clear hS F0 T0 V0 V1 hwz' q0 q1
  go_wp2
  go_ret
  exact ⟨rfl, HZ.out⟩
set_option maxHeartbeats 2000000 in
set_option maxRecDepth 100000 in
theorem implMinimumCut (f t : Int) (w : World) (h : NetIs w A n c A' m d xs fs) :
    Calls Try.prog 54 #[.agg #[.slice A n c, .slice A' m d], .int .i64 f, .int .i64 t] w fun e w' => ∃ v, e = .returned (.tuple #[v, .bool (mcB xs fs f t)]) ∧ Owns elInt w' w.heap.size 3 v (mcL xs fs f t) ∧ Below w.heap.size w w' := by
  have hS := ((((Led.nil w).blk_ w.heap.size rfl 34 #[.slice A n c, .slice A' m d]).blk_ (w.heap.size + 1) (by simp) 3 #[.int .i64 f]).blk_ (w.heap.size + 1 + 1) (by simp) 3 #[.int .i64 t]).blk_ (w.heap.size + 1 + 1 + 1) (by simp) 3 #[.int .i64 f, .int .i64 t]
  have hs2 : Sees elInt ((((w.alloc (.cells #[.slice A n c, .slice A' m d] 34)).alloc (.cells #[.int .i64 f] 3)).alloc (.cells #[.int .i64 t] 3)).alloc (.cells #[.int .i64 f, .int .i64 t] 3)) (w.heap.size + 1 + 1 + 1 + 1) (some ⟨w.heap.size + 1 + 1 + 1, 0, none⟩) 2 [f, t] := by
    refine ⟨rfl, .inr ⟨_, _, rfl, Nat.lt_succ_self _, fun k x hx j u hu => ?_⟩⟩
    have hj : j = 0 := by have := (List.getElem?_eq_some_iff.1 hu).1; simp [elInt] at this; omega
    subst hj
    have hu' : Value.int .i64 x = u := by simpa [elInt] using hu
    subst hu'
    rcases k with _ | _ | k
    · simp at hx; subst hx; exact hS.cell 0 0 rfl rfl
    · simp at hx; subst hx; exact hS.cell 0 1 rfl rfl
    · simp at hx
  have HB : Hid (mcB xs fs f t = ((goodB xs fs && nodesB n [f, t]) && !(f == t))) := by unfold Hid mcB; rw [nodesB_two, h.xlen, Bool.and_assoc (goodB xs fs)]
  cases g : (goodB xs fs && nodesB n [f, t])
  · have HF : Hid (mcB xs fs f t = false) := by unfold Hid; rw [HB.out, g]; rfl
    have H : Hid (mcL xs fs f t = []) := by unfold Hid mcL; rw [HF.out]; rfl
    rw [HF.out]
    go_enter Try.func54, Try.ntmps54
    go_wp2_with fail
    refine (calls_bool (isNode_any _ (h.grow hS.bl) hs2 (by decide)) g).mono ?_
    rintro e w1 ⟨rfl, hb⟩
    go_wp2_with fail
    go_ret2
    exact ⟨_, rfl, by rw [H.out]; exact World.ownsRow_nil _ _ _ _, bl_then hS.bl hb⟩
  · cases g2 : (f == t)
    · have HF : Hid (mcB xs fs f t = true) := by unfold Hid; rw [HB.out, g, g2]; rfl
      obtain ⟨hg, hf, ht, hne⟩ := mcB_parts HF.out
      obtain ⟨he, hn0, hn8, hm14⟩ := good_parts h hg
      rw [h.xlen] at hf ht
      obtain ⟨f', rfl⟩ : ∃ f' : Nat, f = (f' : Int) := ⟨f.toNat, by omega⟩
      obtain ⟨t', rfl⟩ : ∃ t' : Nat, t = (t' : Int) := ⟨t.toNat, by omega⟩
      have hlf := h.flen
      have H : Hid (mcL xs fs (f' : Int) (t' : Int) = cutL fs n f' t') := by unfold Hid mcL; rw [HF.out, h.xlen]; rfl
      have HW := hid (few_cut (fs := fs) (n := n) (f := f') (t := t') (by omega) (by omega) (by omega))
      rw [hlf] at HW
      rw [HF.out]
      have HN := hid h
      have HE := hid he
      have g3 : ((f' : Int) == (t' : Int)) = false := g2
      clear h he hlf
      go_enter Try.func54, Try.ntmps54
      go_wp2_with fail
      refine (calls_bool (isNode_any _ (HN.out.grow hS.bl) hs2 (by decide)) g).mono ?_
      rintro e w1 ⟨rfl, hb⟩
      replace hS := hS.step hb
      have q0 := hS.cell 2 0 rfl rfl
      have q1 := hS.cell 1 0 rfl rfl
      have q2 := hS.cell 3 1 rfl rfl
      clear hb hs2
      have hBN : Blk w1 w.heap.size 34 #[.slice A n c, .slice A' m d] := hS.get 3 rfl
      have hBF : Blk w1 (w.heap.size + 1) 3 #[.int .i64 (f' : Int)] := hS.get 2 rfl
      have hBT : Blk w1 (w.heap.size + 1 + 1) 3 #[.int .i64 (t' : Int)] := hS.get 1 rfl
      have HFW := hid (fewest_any (n := m) (p := cutP fs n f' t') (H := 132) (hcap := #[.pointer (some ⟨w.heap.size, 0, none⟩), .pointer (some ⟨w.heap.size + 1, 0, none⟩), .pointer (some ⟨w.heap.size + 1 + 1, 0, none⟩)]) (fun _ _ => by rfl) (by omega) w1
        (fun w' L G cc hcl hs hL hLn => minCut1_any w' ((HN.out.grow hS.bl).grow hcl) (hBN.below hcl hBN.lt) (hBF.below hcl hBF.lt) (hBT.below hcl hBT.lt) hs (by omega) HE.out (by omega) (by omega)))
      rw [HW.out] at HFW
      clear hBN hBF hBT
      go_wp2_with fail
      refine HFW.out.mono ?_
      rintro e w2 ⟨v, rfl, ho, hb2⟩
      have HO := hid (ho.base (base' := w.heap.size) hS.bl.size)
      have HZ := hid (bl_then hS.bl hb2)
      clear ho hb2 q0 q1 q2 hS
      go_wp2_with fail
      go_ret2
      exact ⟨_, rfl, by rw [H.out]; exact HO.out, HZ.out⟩
    · have HF : Hid (mcB xs fs f t = false) := by unfold Hid; rw [HB.out, g2]; simp
      have H : Hid (mcL xs fs f t = []) := by unfold Hid mcL; rw [HF.out]; rfl
      rw [HF.out]
      go_enter Try.func54, Try.ntmps54
      go_wp2_with fail
      refine (calls_bool (isNode_any _ (h.grow hS.bl) hs2 (by decide)) g).mono ?_
      rintro e w1 ⟨rfl, hb⟩
      replace hS := hS.step hb
      have q0 := hS.cell 2 0 rfl rfl
      have q1 := hS.cell 1 0 rfl rfl
      clear hb hs2
      go_wp2_with fail
      go_ret2
      exact ⟨_, rfl, by rw [H.out]; exact World.ownsRow_nil _ _ _ _, hS.bl⟩
set_option maxHeartbeats 1000000 in
set_option maxRecDepth 100000 in
theorem implDisjointCount (f t : Int) (w : World) (h : NetIs w A n c A' m d xs fs) :
    Calls Try.prog 56 #[.agg #[.slice A n c, .slice A' m d], .int .i64 f, .int .i64 t] w fun e w' => e = .returned (.tuple #[.int .i64 ((mcL xs fs f t).length : Nat), .bool (mcB xs fs f t)]) ∧ Below w.heap.size w w' := by
  have hS := (Led.nil w).blk_ w.heap.size rfl 34 #[.slice A n c, .slice A' m d]
  go_enter Try.func56, Try.ntmps56
  go_wp2_with fail
  refine (implMinimumCut f t _ (h.grow hS.bl)).mono ?_
  rintro e w1 ⟨v, rfl, ho, hb⟩
  obtain ⟨A1, c1, rfl, _⟩ := ho.form
  have HZ := hid (bl_then hS.bl hb)
  clear ho hb hS
  go_wp2_with fail
  go_ret2
  exact ⟨rfl, HZ.out⟩
end
end Go.Proofs.Ytgoegldffjfmdaa
/- spec.l2Groups: the reference's risk groups, walked. Conditions: none. -/
namespace Go.Proofs.Ytgoegldffjfmdaa
open Go.RowKit
variable {n c m d : Nat} {A A' : Option Addr} {xs : List ByteArray} {fs : List Fib}
theorem groupL_row {t k : Nat} (h : (riskF fs k == ((t : Int) + 1)) = true) : groupL fs k = rkRow fs t := by
  have e : riskF fs k = (t : Int) + 1 := by simpa using h
  unfold groupL rkRow
  rw [e, if_neg (by simp; omega)]
theorem idsTo_ne {p : Nat → Bool} {k m : Nat} (hk : k < m) (h : p k = true) : idsTo p m ≠ [] := by
  intro e
  unfold idsTo at e
  have : (List.range m).filter p = [] := List.map_eq_nil_iff.1 e
  have h2 := List.filter_eq_nil_iff.1 this k (by simpa using hk)
  exact h2 h
set_option maxHeartbeats 2000000 in
set_option maxRecDepth 100000 in
theorem l2Groups_any (w : World) (h : NetIs w A n c A' m d xs fs) :
    Calls Try.prog 107 #[.agg #[.slice A n c, .slice A' m d]] w fun e w' => ∃ s ss, e = .returned (slV s) ∧ OwnsSS w' w.heap.size (slV s) ss (groupsL fs) ∧ Below w.heap.size w w' := by
  obtain ⟨j0, hj, hy0, hy1, hy2⟩ := info_parts sl_info
  have hb0 := bl_alloc (Below.refl w.heap.size w) (.cells #[.slice A n c, .slice A' m d] 34)
  have hx0 : Blk (w.alloc (.cells #[.slice A n c, .slice A' m d] 34)) w.heap.size 34 #[.slice A n c, .slice A' m d] := Blk.new _ _ _
  have h0 := h.grow hb0
  have hlf := h.flen
  have hm := h.mle
  have hsz0 : (w.alloc (.cells #[.slice A n c, .slice A' m d] 34)).heap.size = w.heap.size + 1 := by simp
  have hbe : Below (w.alloc (.cells #[.slice A n c, .slice A' m d] 34)).heap.size (w.alloc (.cells #[.slice A n c, .slice A' m d] 34)) ((w.alloc (.cells #[.slice A n c, .slice A' m d] 34)).alloc (.cells #[] 27)) := bl_alloc (Below.refl _ _) _
  have hoe : Hid (OwnsSS ((w.alloc (.cells #[.slice A n c, .slice A' m d] 34)).alloc (.cells #[] 27)) (w.heap.size + 1) (.slice (some ⟨w.heap.size + 1, 0, none⟩) 0 0) [] (rkTo fs 0)) :=
    ⟨Owns.of_blk (E := elSl) (n := 0) (cap := 0) (cur := #[]) (by have := Blk.new (w.alloc (.cells #[.slice A n c, .slice A' m d] 34)) 27 #[]; simpa using this) (Nat.le_refl _) rfl (Nat.le_refl _) rfl (by decide) (Filled.zero _ _ _), rfl, fun i s r h1 => by simp at h1, fun i j s t g _ h1 => by simp at h1⟩
  go_enter Try.func107, Try.ntmps107
  go_wp2_with fail
  generalize hw0 : w.alloc (.cells #[.slice A n c, .slice A' m d] 34) = w0 at *
  go_loopw [3, 4] (fun v i wr => ∃ (t : Nat) (ss : List Sl), t ≤ 9 ∧ i = .int .i64 ((t : Int) + 1) ∧ Hid (OwnsSS wr (w.heap.size + 1) v ss (rkTo fs t)) ∧ Below w0.heap.size w0 wr) (fun _ i _ => 10 - (intOf i).toNat)
  case atStart => exact ⟨0, [], Nat.zero_le _, rfl, hoe, hbe⟩
  case round =>
    clear hbe hoe
    obtain ⟨t, ss, ht, rfl, hss, hb⟩ := hrel
    have hwz := hb.size
    by_cases htl : t < 9
    · obtain ⟨wo, hwo⟩ : ∃ wo, wo = wr := ⟨_, rfl⟩
      subst hwo
      have e9 : decide ((t : Int) + 1 ≤ 9) = true := decide_eq_true (by omega)
      have hsl : ss.length ≤ 9 := by have := hss.out.2.1; have := rkTo_len fs t; omega
      go_wp2_with fail
      go_loopw [3, 5] (fun v i wr => ∃ k : Nat, k ≤ m ∧ i = .int .i64 k ∧ v = u3 ∧ Hid (idsTo (fun j => riskF fs j == ((t : Int) + 1)) k = []) ∧ wr = wo) (fun _ i _ => m - (intOf i).toNat)
      case atStart => exact ⟨0, Nat.zero_le _, rfl, rfl, idsTo_zero _, rfl⟩
      case round =>
        obtain ⟨k, hk, rfl, rfl, hno, rfl⟩ := hrel
        have q1 := (hx0.below hb hx0.lt).cell 1
        have q0 := (hx0.below hb hx0.lt).cell 0
        simp at q0 q1
        by_cases hlt : k < m
        · obtain ⟨b, o, rfl, _, hc⟩ := h0.fibs.at_ hlt
          obtain ⟨f, hfk⟩ := get_of (k := k) hlf hlt
          have f3 := bl_cell hb (hc k f hfk 3 _ rfl)
          simp only [elFib] at f3
          have hp : Hid ((riskF fs k == ((t : Int) + 1)) = (f.risk == ((t : Int) + 1))) := by unfold Hid; rw [riskF_of hfk]
          clear hc hfk
          cases g3 : (f.risk == ((t : Int) + 1))
          · have HN : Hid (idsTo (fun j => riskF fs j == ((t : Int) + 1)) (k + 1) = []) := by unfold Hid; rw [idsTo_no (hp.out.trans g3)]; exact hno.out
            clear hp hno
            go_wp2
            refine ⟨?_, by simp [intOf]; omega⟩
            first | exact ⟨k + 1, by omega, by go_num, rfl, HN, trivial⟩ | exact ⟨k + 1, by omega, by go_num, HN, rfl⟩ | exact ⟨k + 1, by omega, by go_num, rfl, HN, rfl⟩ | ((repeat apply Exists.intro); exact ⟨⟨k + 1, by omega, by go_num, rfl, HN, rfl⟩, rfl⟩)
          · have HR : Hid (groupL fs k = rkRow fs t) := groupL_row (hp.out.trans g3)
            have HT : Hid (rkTo fs (t + 1) = rkTo fs t ++ [rkRow fs t]) := rkTo_yes (by unfold rkRow; rw [hlf]; exact idsTo_ne hlt (hp.out.trans g3))
            have HC := hid (l2Group_any k wr (h0.grow hb) hlt)
            clear hp hno
            go_wp2_with fail
            refine HC.out.mono ?_
            rintro e w2 ⟨s2, rfl, ho2, hb2⟩
            have ho2 := hid ho2
            obtain ⟨Ag, Lg, cg⟩ := s2
            have hbG := bl_alloc (bl_then hb hb2) (.cells #[.slice Ag Lg cg] 27)
            have hq2 := bl_alloc hb2 (.cells #[.slice Ag Lg cg] 27)
            have hsG := hid (hss.out.below hq2)
            have hr2 : Hid (Owns elInt _ _ _ (slV ⟨Ag, Lg, cg⟩) _) := ho2.out.below (bl_alloc (Below.refl _ _) (.cells #[.slice Ag Lg cg] 27))
            have z2 := hb2.size
            unfold slV
            clear HC ho2 hb2 q0 q1 f3
            go_wp2_with (first
              | (at_builtin; refine wpList_append_own _ rfl _ _ 74 rfl (w.heap.size + 1) 27 j0 (.slice none 0 0) 1 24 Try.underlying74 hj hy0 hy1 hy2 rfl (by decide) _ ss.length (ss.flatMap elSl.cells) rfl hsG.out.1 ⟨_, 0, none⟩ 1 1 [.slice Ag Lg cg] rfl rfl (one_new _ _ _ (by simp)) (fun u hu => by simp at hu; subst hu; rfl) (by unfold maxLen; omega) (by omega) (by simp; omega) ?_)
              | go_in)
            intro v' w1 hown' hgrow _
            have HP : Hid (OwnsSS w1 (w.heap.size + 1) v' (ss ++ [⟨Ag, Lg, cg⟩]) (rkTo fs (t + 1))) := by
              unfold Hid; rw [HT.out]; exact hss.out.push (s0 := ⟨Ag, Lg, cg⟩) hq2 (by omega) (by have := hr2.out; rw [HR.out] at this; exact this) (Owns.appended (E := elSl) hown') hgrow
            have hbN := bl_grown hbG hgrow (fun g hg => by have := (hsG.out.1.lies g hg).1; omega)
            clear hown' hgrow hsG hbG hr2 hq2 hss
            go_wp2
            refine ⟨?_, by simp [intOf]; omega⟩
            first | exact ⟨t + 1, _, by omega, by go_num, HP, hbN⟩ | ((repeat apply Exists.intro); exact ⟨⟨t + 1, _, by omega, by go_num, HP, hbN⟩, rfl⟩)
        · have hkm : k = m := by omega
          have HT : Hid (rkTo fs (t + 1) = rkTo fs t) := rkTo_no (by unfold rkRow; rw [hlf, ← hkm]; exact hno.out)
          have HS := hss
          rw [← HT.out] at HS
          clear hno hlt hss
          go_wp2
          refine ⟨?_, by simp [intOf]; omega⟩
          first | exact ⟨t + 1, ss, by omega, by go_num, HS, hb⟩ | ((repeat apply Exists.intro); exact ⟨⟨t + 1, ss, by omega, by go_num, HS, hb⟩, rfl⟩)
    · have ht9 : t = 9 := by omega
      subst ht9
      have hs0 := hss
      rw [show rkTo fs 9 = rkTo fs 9 ++ zrTo fs 0 from by rw [zrTo_zero, List.append_nil]] at hs0
      clear hss
      go_wp2_with fail
      have hbs := hb
      obtain ⟨wo, hwo⟩ : ∃ wo, wo = wr := ⟨_, rfl⟩
      subst hwo
      go_loopw [3, 6] (fun v i wr => ∃ (k : Nat) (ss : List Sl), k ≤ m ∧ i = .int .i64 k ∧ Hid (OwnsSS wr (w.heap.size + 1) v ss (rkTo fs 9 ++ zrTo fs k)) ∧ Below w0.heap.size w0 wr) (fun _ i _ => m - (intOf i).toNat)
      case atStart => exact ⟨0, ss, Nat.zero_le _, rfl, hs0, hbs⟩
      case round =>
        clear hs0 hbs hb hwz
        obtain ⟨k, ss, hk, rfl, hss, hb⟩ := hrel
        have hwz := hb.size
        have q1 := (hx0.below hb hx0.lt).cell 1
        simp at q1
        by_cases hlt : k < m
        · obtain ⟨b, o, rfl, _, hc⟩ := h0.fibs.at_ hlt
          obtain ⟨f, hfk⟩ := get_of (k := k) hlf hlt
          have f3 := bl_cell hb (hc k f hfk 3 _ rfl)
          simp only [elFib] at f3
          have hp : Hid ((riskF fs k == 0) = (f.risk == 0)) := by unfold Hid; rw [riskF_of hfk]
          clear hc hfk
          cases g3 : (f.risk == 0)
          · have HN : Hid (zrTo fs (k + 1) = zrTo fs k) := zrTo_no (hp.out.trans g3)
            have HO := hss
            rw [← HN.out] at HO
            clear hp hss
            go_wp2
            refine ⟨?_, by simp [intOf]; omega⟩
            first | exact ⟨k + 1, ss, by omega, by go_num, HO, hb⟩ | ((repeat apply Exists.intro); exact ⟨⟨k + 1, ss, by omega, by go_num, HO, hb⟩, rfl⟩)
          · have HN : Hid (rkTo fs 9 ++ zrTo fs (k + 1) = (rkTo fs 9 ++ zrTo fs k) ++ [[(k : Int)]]) := by unfold Hid; rw [zrTo_yes (hp.out.trans g3), List.append_assoc]
            have hq1 := bl_alloc (Below.refl wr.heap.size wr) (.cells #[.int .i64 k] 3)
            have hq2 := bl_alloc hq1 (.cells #[.slice (some ⟨wr.heap.size, 0, none⟩) 1 1] 27)
            have hbG := bl_then hb hq2
            have hsG := hid (hss.out.below hq2)
            have hr2 : Hid (Owns elInt ((wr.alloc (.cells #[.int .i64 k] 3)).alloc (.cells #[.slice (some ⟨wr.heap.size, 0, none⟩) 1 1] 27)) wr.heap.size 3 (slV ⟨some ⟨wr.heap.size, 0, none⟩, 1, 1⟩) [(k : Int)]) :=
              (show Owns elInt (wr.alloc (.cells #[.int .i64 k] 3)) wr.heap.size 3 (.slice (some ⟨wr.heap.size, 0, none⟩) 1 1) [(k : Int)] from Owns.of_blk (n := 1) (cap := 1) (cur := #[.int .i64 k]) (Blk.new wr 3 #[.int .i64 k]) (Nat.le_refl _) rfl (Nat.le_refl _) rfl (by decide) (filled_int1 _)).below (bl_alloc (Below.refl _ _) _)
            have hsl : ss.length ≤ 9 + k := by have := hsG.out.2.1; have := rkTo_len fs 9; have := zrTo_len fs k; simp at *; omega
            clear hp hq1
            go_wp2_with (first
              | (at_builtin; refine wpList_append_own _ rfl _ _ 74 rfl (w.heap.size + 1) 27 j0 (.slice none 0 0) 1 24 Try.underlying74 hj hy0 hy1 hy2 rfl (by decide) _ ss.length (ss.flatMap elSl.cells) rfl hsG.out.1 ⟨_, 0, none⟩ 1 1 [.slice (some ⟨wr.heap.size, 0, none⟩) 1 1] rfl rfl (one_new _ _ _ (by simp)) (fun u hu => by simp at hu; subst hu; rfl) (by unfold maxLen; omega) (by omega) (by simp; omega) ?_)
              | go_in)
            intro v' w1 hown' hgrow _
            have HP : Hid (OwnsSS w1 (w.heap.size + 1) v' (ss ++ [⟨some ⟨wr.heap.size, 0, none⟩, 1, 1⟩]) (rkTo fs 9 ++ zrTo fs (k + 1))) := by
              unfold Hid; rw [HN.out]; exact hss.out.push (s0 := ⟨some ⟨wr.heap.size, 0, none⟩, 1, 1⟩) hq2 (by omega) hr2.out (Owns.appended (E := elSl) hown') hgrow
            have hbN := bl_grown hbG hgrow (fun g hg => by have := (hsG.out.1.lies g hg).1; omega)
            clear hown' hgrow hsG hbG hr2 hq2 hss
            go_wp2
            refine ⟨?_, by simp [intOf]; omega⟩
            first | exact ⟨k + 1, _, by omega, by go_num, HP, hbN⟩ | ((repeat apply Exists.intro); exact ⟨⟨k + 1, _, by omega, by go_num, HP, hbN⟩, rfl⟩)
        · have hkm : k = m := by omega
          rw [hkm] at hss
          have HG : Hid (groupsL fs = rkTo fs 9 ++ zrTo fs m) := by unfold Hid groupsL; rw [hlf]
          obtain ⟨Ao, co, rfl, _, _, _⟩ := hss.out.1.form
          clear hlt
          go_wp2
          go_ret
          exact ⟨⟨Ao, _, co⟩, ss, rfl, by rw [HG.out]; exact hss.out.base_ (by omega), hb0.trans (hb.mono (by omega))⟩
end Go.Proofs.Ytgoegldffjfmdaa
