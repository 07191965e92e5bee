/- Lemmas and walks that the claim rests on, laid together. Conditions: none. -/
import Derived.Test.YtjklphlgmlomjaaZ96d1c1fa19ba
import Derived.Deep.RegionHeld3
import Derived.Test.YtjklphlgmlomjaaZa438ef1d3530
/- separates, l6Splits: whether two nodes are parted, walked. Conditions: the fibers' ends are nodes; 2 nodes at least; at most 20 fibers. -/
namespace Go.Proofs.Ytjklphlgmlomjaa
open Go.RowKit
theorem sepP_eq {X Y : List Int} {s : Int} {a b : Nat} : sepP X Y s a b = ((!((a : Int) == s) && !((b : Int) == s)) && ((valL X a == valL X b) && !(valL Y a == valL Y b))) := rfl
section
variable {n c m d k c' : Nat} {A A' G : Option Addr} {xs : List ByteArray} {fs : List Fib} {l : List Int} {s : Int}
set_option maxHeartbeats 4000000 in
set_option maxRecDepth 100000 in
theorem separates_any (s : Int) (w : World) (h : NetIs w A n c A' m d xs fs) (hv : Sees elInt w w.heap.size G k l) (hkb : k ≤ 1048576) (he : endsB n fs) (hn0 : 0 < n) :
    Calls Try.prog 83 #[.agg #[.slice A n c, .slice A' m d], .slice G k c', .int .i64 s] w fun e w' => e = .returned (.bool (sepB n (compL (goneF []) fs n) (compL (goneF l) fs n) s)) ∧ Below w.heap.size w w' := by
  have hS := (Led.nil w).blk_ w.heap.size rfl 35 #[.slice A n c, .slice A' m d]
  obtain ⟨r, hr⟩ : ∃ r, sepB n (compL (goneF []) fs n) (compL (goneF l) fs n) s = r := ⟨_, rfl⟩
  rw [hr]
  have HRR := hid hr
  clear hr
  have HN := hid h
  have HV := hid hv
  have HE := hid he
  have hn := h.nle
  clear h he hv
  go_enter Try.func83, Try.ntmps83
  go_wp2_with fail
  generalize w.alloc (.cells #[.slice A n c, .slice A' m d] 35) = W0 at *
  have C0 : ∀ w', Cls W0 w' → w'.cell? ⟨w.heap.size, 0, none⟩ = some (.slice A n c) := fun _ h => h.cell (hS.cell 0 0 rfl rfl)
  have C1 : ∀ w', Cls W0 w' → w'.cell? ⟨w.heap.size, 1, none⟩ = some (.slice A' m d) := fun _ h => h.cell (hS.cell 0 1 rfl rfl)
  have HL := hid (fun w' (h : Cls W0 w') => hS.step h)
  go_region_held3 (fun w' => Cls W0 w') (first | exact Cls.drew _ | exact Cls.next (by assumption) (by assumption))
    (first
      | (go_at_call_of 79 (Value.slice none 0 0); refine (components_any (l := []) _ (HN.out.grow (HL.out _ (by assumption)).bl) (Sees.nil elInt _ 0 _) (by decide) HE.out hn0).mono ?_; rintro e w' ⟨v1, rfl, ho1, hb1⟩; obtain ⟨g1, c1, rfl⟩ := ho1.splitg compL_len hn0; have hL1 := (HL.out _ (by assumption)).owns hb1 ho1)
      | (go_at_call_of 79 (Value.slice G k c'); refine (components_any _ (HN.out.grow hL1.bl) (HV.out.grow hL1.bl) hkb HE.out hn0).mono ?_; rintro e w' ⟨v2, rfl, ho2, hb2⟩; obtain ⟨g2, c2, rfl⟩ := ho2.splitg compL_len hn0))
  have hL2 := hL1.owns hb2 ho2
  generalize w' = W2 at *
  have hX : Hid ((compL (goneF []) fs n).length = n) := compL_len
  have hY : Hid ((compL (goneF l) fs n).length = n) := compL_len
  generalize compL (goneF []) fs n = X at *
  generalize (compL (goneF l) fs n) = Y at *
  have HS := hid hL2
  clear HL C0 C1 hL1 hL2 hb1 hb2 ho1 ho2 hS
  have q0 := HS.out.cell 2 0 rfl rfl
  go_wp2_with fail
  clear q0
  obtain ⟨L, hL⟩ : ∃ L, Led w W2 L ∧ L[0]? = some (tOwns elInt _ 3 (.slice (some ⟨g2, 0, none⟩) n c2) Y) ∧ L[1]? = some (tOwns elInt _ 3 (.slice (some ⟨g1, 0, none⟩) n c1) X) := ⟨_, HS.out, rfl, rfl⟩
  have HS1 := hid hL.1
  have j0 := hid hL.2.1
  have j1 := hid hL.2.2
  clear hL HS
  go_loopw [19] (fun i wr => ∃ a : Nat, a ≤ n ∧ i = .int .i64 a ∧ Hid (allTo (fun a => allB (fun b => !sepP X Y s a b) a) a) ∧ Hid (Led w wr L)) (fun i _ => n - (intOf i).toNat)
  case atStart => exact ⟨0, Nat.zero_le _, rfl, allTo_zero _, HS1⟩
  case round =>
    clear HS1
    obtain ⟨a, ha, rfl, hall, HS⟩ := hrel
    by_cases hlt : a < n
    · go_wp2_with fail
      go_loopw [23] (fun i wr => ∃ b : Nat, b ≤ a ∧ i = .int .i64 b ∧ Hid (allTo (fun b => !sepP X Y s a b) b) ∧ Hid (Led w wr L)) (fun i _ => a - (intOf i).toNat)
      case atStart => exact ⟨0, Nat.zero_le _, rfl, allTo_zero _, HS⟩
      case round =>
        clear HS
        obtain ⟨b, hb, rfl, hin, HS⟩ := hrel
        by_cases hlt2 : b < a
        · have hbn : b < n := by omega
          have ia : (a : Int) < (n : Int) := by omega
          have ib : (b : Int) < (n : Int) := by omega
          have x0 : ∀ w', Cls wr w' → w'.cell? ⟨g1, a, none⟩ = some (.int .i64 (valL X a)) := fun _ h => h.cell (HS.out.int_at 1 j1.out (j := a) (by rw [hX.out]; omega))
          have x1 : ∀ w', Cls wr w' → w'.cell? ⟨g1, b, none⟩ = some (.int .i64 (valL X b)) := fun _ h => h.cell (HS.out.int_at 1 j1.out (j := b) (by rw [hX.out]; omega))
          have y0 : ∀ w', Cls wr w' → w'.cell? ⟨g2, a, none⟩ = some (.int .i64 (valL Y a)) := fun _ h => h.cell (HS.out.int_at 0 j0.out (j := a) (by rw [hY.out]; omega))
          have y1 : ∀ w', Cls wr w' → w'.cell? ⟨g2, b, none⟩ = some (.int .i64 (valL Y b)) := fun _ h => h.cell (HS.out.int_at 0 j0.out (j := b) (by rw [hY.out]; omega))
          cases ga : ((a : Int) == s)
          · have na : ((a : Int) != s) = true := by rw [bne, ga]; rfl
            cases gb : ((b : Int) == s)
            · have nb : ((b : Int) != s) = true := by rw [bne, gb]; rfl
              cases gx : (valL X a == valL X b)
              · have HP : Hid (sepP X Y s a b = false) := by unfold Hid; rw [sepP_eq, gx]; simp
                go_wp2_with fail
                refine region_cls (by kernel_rfl) (by kernel_rfl) ?_
                repeat (first
                  | ((with_reducible refine quiet_pos ?_ (fun K hK => ?_))
                     · rfl
                     apply Exists.intro
                     refine ⟨fun w' hw' => ?_, ?_⟩
                     · go_simp
                       with_reducible rfl
                     simp only [Act.put, List.setIfInBounds_toArray, List.set_cons_zero, List.set_cons_succ]
                     refine hK _ ?_; clear hK K)
                  | ((with_reducible refine quiet_neg ?_ (fun K hK => ?_))
                     · rfl
                     simp only [Act.put, List.setIfInBounds_toArray, List.set_cons_zero, List.set_cons_succ]
                     refine hK _ ?_; clear hK K))
                with_reducible refine wpQuiet_nil ?_
                intro wz hwz'
                have HS2 := hid (HS.out.step hwz')
                clear HS x0 x1 y0 y1 hwz'
                have HA : Hid (allTo (fun b => !sepP X Y s a b) (b + 1)) := allTo_succ hin.out (by rw [HP.out]; rfl)
                clear HP hin
                go_wp2
                exact ⟨⟨b + 1, by omega, by go_num, HA, HS2⟩, by simp [intOf]; omega⟩
              · cases gy : (valL Y a == valL Y b)
                · have ny : (valL Y a != valL Y b) = true := by rw [bne, gy]; rfl
                  have HP : Hid (sepP X Y s a b = true) := by unfold Hid; rw [sepP_eq, ga, gb, gx, gy]; rfl
                  go_wp2_with fail
                  refine region_cls (by kernel_rfl) (by kernel_rfl) ?_
                  repeat (first
                    | ((with_reducible refine quiet_pos ?_ (fun K hK => ?_))
                       · rfl
                       apply Exists.intro
                       refine ⟨fun w' hw' => ?_, ?_⟩
                       · go_simp
                         with_reducible rfl
                       simp only [Act.put, List.setIfInBounds_toArray, List.set_cons_zero, List.set_cons_succ]
                       refine hK _ ?_; clear hK K)
                    | ((with_reducible refine quiet_neg ?_ (fun K hK => ?_))
                       · rfl
                       simp only [Act.put, List.setIfInBounds_toArray, List.set_cons_zero, List.set_cons_succ]
                       refine hK _ ?_; clear hK K))
                  with_reducible refine wpQuiet_nil ?_
                  intro wz hwz'
                  have HS2 := hid (HS.out.step hwz')
                  clear HS x0 x1 y0 y1 hwz'
                  have HR : Hid (sepB n X Y s = true) := sepB_yes hlt hlt2 HP.out
                  go_wp2
                  go_ret
                  exact ⟨by rw [← HRR.out, HR.out]; rfl, HS2.out.bl⟩
                · have ny : (valL Y a != valL Y b) = false := by rw [bne, gy]; rfl
                  have HP : Hid (sepP X Y s a b = false) := by unfold Hid; rw [sepP_eq, gy]; simp
                  go_wp2_with fail
                  refine region_cls (by kernel_rfl) (by kernel_rfl) ?_
                  repeat (first
                    | ((with_reducible refine quiet_pos ?_ (fun K hK => ?_))
                       · rfl
                       apply Exists.intro
                       refine ⟨fun w' hw' => ?_, ?_⟩
                       · go_simp
                         with_reducible rfl
                       simp only [Act.put, List.setIfInBounds_toArray, List.set_cons_zero, List.set_cons_succ]
                       refine hK _ ?_; clear hK K)
                    | ((with_reducible refine quiet_neg ?_ (fun K hK => ?_))
                       · rfl
                       simp only [Act.put, List.setIfInBounds_toArray, List.set_cons_zero, List.set_cons_succ]
                       refine hK _ ?_; clear hK K))
                  with_reducible refine wpQuiet_nil ?_
                  intro wz hwz'
                  have HS2 := hid (HS.out.step hwz')
                  clear HS x0 x1 y0 y1 hwz'
                  have HA : Hid (allTo (fun b => !sepP X Y s a b) (b + 1)) := allTo_succ hin.out (by rw [HP.out]; rfl)
                  clear HP hin
                  go_wp2
                  exact ⟨⟨b + 1, by omega, by go_num, HA, HS2⟩, by simp [intOf]; omega⟩
            · have nb : ((b : Int) != s) = false := by rw [bne, gb]; rfl
              have HP : Hid (sepP X Y s a b = false) := by unfold Hid; rw [sepP_eq, gb]; simp
              go_wp2_with fail
              refine region_cls (by kernel_rfl) (by kernel_rfl) ?_
              repeat (first
                | ((with_reducible refine quiet_pos ?_ (fun K hK => ?_))
                   · rfl
                   apply Exists.intro
                   refine ⟨fun w' hw' => ?_, ?_⟩
                   · go_simp
                     with_reducible rfl
                   simp only [Act.put, List.setIfInBounds_toArray, List.set_cons_zero, List.set_cons_succ]
                   refine hK _ ?_; clear hK K)
                | ((with_reducible refine quiet_neg ?_ (fun K hK => ?_))
                   · rfl
                   simp only [Act.put, List.setIfInBounds_toArray, List.set_cons_zero, List.set_cons_succ]
                   refine hK _ ?_; clear hK K))
              with_reducible refine wpQuiet_nil ?_
              intro wz hwz'
              have HS2 := hid (HS.out.step hwz')
              clear HS x0 x1 y0 y1 hwz'
              have HA : Hid (allTo (fun b => !sepP X Y s a b) (b + 1)) := allTo_succ hin.out (by rw [HP.out]; rfl)
              clear HP hin
              go_wp2
              exact ⟨⟨b + 1, by omega, by go_num, HA, HS2⟩, by simp [intOf]; omega⟩
          · have na : ((a : Int) != s) = false := by rw [bne, ga]; rfl
            have HP : Hid (sepP X Y s a b = false) := by unfold Hid; rw [sepP_eq, ga]; simp
            go_wp2_with fail
            refine region_cls (by kernel_rfl) (by kernel_rfl) ?_
            repeat (first
              | ((with_reducible refine quiet_pos ?_ (fun K hK => ?_))
                 · rfl
                 apply Exists.intro
                 refine ⟨fun w' hw' => ?_, ?_⟩
                 · go_simp
                   with_reducible rfl
                 simp only [Act.put, List.setIfInBounds_toArray, List.set_cons_zero, List.set_cons_succ]
                 refine hK _ ?_; clear hK K)
              | ((with_reducible refine quiet_neg ?_ (fun K hK => ?_))
                 · rfl
                 simp only [Act.put, List.setIfInBounds_toArray, List.set_cons_zero, List.set_cons_succ]
                 refine hK _ ?_; clear hK K))
            with_reducible refine wpQuiet_nil ?_
            intro wz hwz'
            have HS2 := hid (HS.out.step hwz')
            clear HS x0 x1 y0 y1 hwz'
            have HA : Hid (allTo (fun b => !sepP X Y s a b) (b + 1)) := allTo_succ hin.out (by rw [HP.out]; rfl)
            clear HP hin
            go_wp2
            exact ⟨⟨b + 1, by omega, by go_num, HA, HS2⟩, by simp [intOf]; omega⟩
        · have hba : b = a := by omega
          have HA : Hid (allTo (fun a => allB (fun b => !sepP X Y s a b) a) (a + 1)) := allTo_succ hall.out (allB_yes hin.out hba)
          clear hba hin hall
          go_wp2
          refine ⟨?_, by simp [intOf]; omega⟩
          first
            | exact ⟨a + 1, by omega, by go_num, HA, HS⟩
            | ((repeat apply Exists.intro); exact ⟨⟨a + 1, by omega, by go_num, HA, HS⟩, rfl⟩)
    · have han : a = n := by omega
      have HR : Hid (sepB n X Y s = false) := by unfold Hid sepB; rw [allB_yes hall.out han]; rfl
      clear han hall
      go_wp2
      go_ret
      exact ⟨by rw [← HRR.out, HR.out]; rfl, HS.out.bl⟩
set_option maxHeartbeats 4000000 in
set_option maxRecDepth 100000 in
theorem l6Splits_any (M : Nat) (s : Int) (w : World) (h : NetIs w A n c A' m d xs fs) (hM : M < 2 ^ 20) (he : endsB n fs) (hn0 : 0 < n) (hm20 : m ≤ 20) :
    Calls Try.prog 81 #[.agg #[.slice A n c, .slice A' m d], .int .i64 (M : Int), .int .i64 s] w fun e w' => e = .returned (.bool (sepB n (compL (goneF []) fs n) (compL (fun i => M.testBit i) fs n) s)) ∧ Below w.heap.size w w' := by
  have hS := (Led.nil w).blk_ w.heap.size rfl 35 #[.slice A n c, .slice A' m d]
  obtain ⟨r, hr⟩ : ∃ r, sepB n (compL (goneF []) fs n) (compL (fun i => M.testBit i) fs n) s = r := ⟨_, rfl⟩
  rw [hr]
  have HRR := hid hr
  clear hr
  have HN := hid h
  have HE := hid he
  have hn := h.nle
  have HM := hid hM
  have HZ0 : Hid (compL (fun i => (0 : Nat).testBit i) fs n = compL (goneF []) fs n) := compL_congr fun j _ => by rw [Nat.zero_testBit]; exact (Bool.eq_false_iff.2 (fun h => by have h1 := hasB_iff.1 h; cases h1)).symm
  clear hM
  clear h he
  go_enter Try.func81, Try.ntmps81
  go_wp2_with fail
  generalize w.alloc (.cells #[.slice A n c, .slice A' m d] 35) = W0 at *
  have C0 : ∀ w', Cls W0 w' → w'.cell? ⟨w.heap.size, 0, none⟩ = some (.slice A n c) := fun _ h => h.cell (hS.cell 0 0 rfl rfl)
  have C1 : ∀ w', Cls W0 w' → w'.cell? ⟨w.heap.size, 1, none⟩ = some (.slice A' m d) := fun _ h => h.cell (hS.cell 0 1 rfl rfl)
  have HL := hid (fun w' (h : Cls W0 w') => hS.step h)
  go_region_held3 (fun w' => Cls W0 w') (first | exact Cls.drew _ | exact Cls.next (by assumption) (by assumption))
    (first
      | (go_at_call_of 77 (Value.int .i64 0); refine (labels_any 0 _ (HN.out.grow (HL.out _ (by assumption)).bl) (by decide) HE.out hn0 hm20).mono ?_; rintro e w' ⟨v1, rfl, ho1, hb1⟩; rw [HZ0.out] at ho1; obtain ⟨g1, c1, rfl⟩ := ho1.splitg compL_len hn0; have hL1 := (HL.out _ (by assumption)).owns hb1 ho1)
      | (go_at_call_of 77 (Value.int .i64 (M : Int)); refine (labels_any M _ (HN.out.grow hL1.bl) HM.out HE.out hn0 hm20).mono ?_; rintro e w' ⟨v2, rfl, ho2, hb2⟩; obtain ⟨g2, c2, rfl⟩ := ho2.splitg compL_len hn0))
  have hL2 := hL1.owns hb2 ho2
  generalize w' = W2 at *
  have hX : Hid ((compL (goneF []) fs n).length = n) := compL_len
  have hY : Hid ((compL (fun i => M.testBit i) fs n).length = n) := compL_len
  generalize compL (goneF []) fs n = X at *
  generalize (compL (fun i => M.testBit i) fs n) = Y at *
  have HS := hid hL2
  clear HL C0 C1 hL1 hL2 hb1 hb2 ho1 ho2 hS
  go_wp2_with fail
  obtain ⟨L, hL⟩ : ∃ L, Led w W2 L ∧ L[0]? = some (tOwns elInt _ 3 (.slice (some ⟨g2, 0, none⟩) n c2) Y) ∧ L[1]? = some (tOwns elInt _ 3 (.slice (some ⟨g1, 0, none⟩) n c1) X) := ⟨_, HS.out, rfl, rfl⟩
  have HS1 := hid hL.1
  have j0 := hid hL.2.1
  have j1 := hid hL.2.2
  clear hL HS
  go_loopw [9] (fun i wr => ∃ a : Nat, a ≤ n ∧ i = .int .i64 a ∧ Hid (allTo (fun a => allB (fun i => !sepP X Y s a (a + 1 + i)) (n - (a + 1))) a) ∧ Hid (Led w wr L)) (fun i _ => n - (intOf i).toNat)
  case atStart => exact ⟨0, Nat.zero_le _, rfl, allTo_zero _, HS1⟩
  case round =>
    clear HS1
    obtain ⟨a, ha, rfl, hall, HS⟩ := hrel
    by_cases hlt : a < n
    · go_wp2_with fail
      go_loopw [10] (fun i wr => ∃ j : Nat, j ≤ n - (a + 1) ∧ i = .int .i64 ((a + 1 + j : Nat) : Int) ∧ Hid (allTo (fun i => !sepP X Y s a (a + 1 + i)) j) ∧ Hid (Led w wr L)) (fun i _ => n - (intOf i).toNat)
      case atStart => exact ⟨0, Nat.zero_le _, by go_num, allTo_zero _, HS⟩
      case round =>
        clear HS
        obtain ⟨j, hj, rfl, hin, HS⟩ := hrel
        by_cases hlt2 : j < n - (a + 1)
        · obtain ⟨b, hbe⟩ : ∃ b, b = a + 1 + j := ⟨_, rfl⟩
          rw [← hbe]
          have HBE := hid hbe
          have hbn : b < n := by omega
          have hab : a < b := by omega
          clear hbe
          have ia : (a : Int) < (n : Int) := by omega
          have ib : (b : Int) < (n : Int) := by omega
          have x0 : ∀ w', Cls wr w' → w'.cell? ⟨g1, a, none⟩ = some (.int .i64 (valL X a)) := fun _ h => h.cell (HS.out.int_at 1 j1.out (j := a) (by rw [hX.out]; omega))
          have x1 : ∀ w', Cls wr w' → w'.cell? ⟨g1, b, none⟩ = some (.int .i64 (valL X b)) := fun _ h => h.cell (HS.out.int_at 1 j1.out (j := b) (by rw [hX.out]; omega))
          have y0 : ∀ w', Cls wr w' → w'.cell? ⟨g2, a, none⟩ = some (.int .i64 (valL Y a)) := fun _ h => h.cell (HS.out.int_at 0 j0.out (j := a) (by rw [hY.out]; omega))
          have y1 : ∀ w', Cls wr w' → w'.cell? ⟨g2, b, none⟩ = some (.int .i64 (valL Y b)) := fun _ h => h.cell (HS.out.int_at 0 j0.out (j := b) (by rw [hY.out]; omega))
          cases ga : ((a : Int) == s)
          · have na : ((a : Int) != s) = true := by rw [bne, ga]; rfl
            cases gb : ((b : Int) == s)
            · have nb : ((b : Int) != s) = true := by rw [bne, gb]; rfl
              cases gx : (valL X a == valL X b)
              · have HP : Hid (sepP X Y s a b = false) := by unfold Hid; rw [sepP_eq, gx]; simp
                go_wp2_with fail
                refine region_cls (by kernel_rfl) (by kernel_rfl) ?_
                repeat (first
                  | ((with_reducible refine quiet_pos ?_ (fun K hK => ?_))
                     · rfl
                     apply Exists.intro
                     refine ⟨fun w' hw' => ?_, ?_⟩
                     · go_simp
                       with_reducible rfl
                     simp only [Act.put, List.setIfInBounds_toArray, List.set_cons_zero, List.set_cons_succ]
                     refine hK _ ?_; clear hK K)
                  | ((with_reducible refine quiet_neg ?_ (fun K hK => ?_))
                     · rfl
                     simp only [Act.put, List.setIfInBounds_toArray, List.set_cons_zero, List.set_cons_succ]
                     refine hK _ ?_; clear hK K))
                with_reducible refine wpQuiet_nil ?_
                intro wz hwz'
                have HS2 := hid (HS.out.step hwz')
                clear HS x0 x1 y0 y1 hwz'
                have HA : Hid (allTo (fun i => !sepP X Y s a (a + 1 + i)) (j + 1)) := allTo_succ hin.out (by rw [← HBE.out, HP.out]; rfl)
                clear HP hin
                go_wp2
                have HB := HBE.out
                exact ⟨⟨j + 1, by omega, by go_num, HA, HS2⟩, by simp [intOf]; omega⟩
              · cases gy : (valL Y a == valL Y b)
                · have ny : (valL Y a != valL Y b) = true := by rw [bne, gy]; rfl
                  have HP : Hid (sepP X Y s a b = true) := by unfold Hid; rw [sepP_eq, ga, gb, gx, gy]; rfl
                  go_wp2_with fail
                  refine region_cls (by kernel_rfl) (by kernel_rfl) ?_
                  repeat (first
                    | ((with_reducible refine quiet_pos ?_ (fun K hK => ?_))
                       · rfl
                       apply Exists.intro
                       refine ⟨fun w' hw' => ?_, ?_⟩
                       · go_simp
                         with_reducible rfl
                       simp only [Act.put, List.setIfInBounds_toArray, List.set_cons_zero, List.set_cons_succ]
                       refine hK _ ?_; clear hK K)
                    | ((with_reducible refine quiet_neg ?_ (fun K hK => ?_))
                       · rfl
                       simp only [Act.put, List.setIfInBounds_toArray, List.set_cons_zero, List.set_cons_succ]
                       refine hK _ ?_; clear hK K))
                  with_reducible refine wpQuiet_nil ?_
                  intro wz hwz'
                  have HS2 := hid (HS.out.step hwz')
                  clear HS x0 x1 y0 y1 hwz'
                  have HR : Hid (sepB n X Y s = true) := by unfold Hid; rw [← splB_eq]; exact splB_yes hbn hab HP.out
                  go_wp2
                  go_ret
                  exact ⟨by rw [← HRR.out, HR.out]; rfl, HS2.out.bl⟩
                · have ny : (valL Y a != valL Y b) = false := by rw [bne, gy]; rfl
                  have HP : Hid (sepP X Y s a b = false) := by unfold Hid; rw [sepP_eq, gy]; simp
                  go_wp2_with fail
                  refine region_cls (by kernel_rfl) (by kernel_rfl) ?_
                  repeat (first
                    | ((with_reducible refine quiet_pos ?_ (fun K hK => ?_))
                       · rfl
                       apply Exists.intro
                       refine ⟨fun w' hw' => ?_, ?_⟩
                       · go_simp
                         with_reducible rfl
                       simp only [Act.put, List.setIfInBounds_toArray, List.set_cons_zero, List.set_cons_succ]
                       refine hK _ ?_; clear hK K)
                    | ((with_reducible refine quiet_neg ?_ (fun K hK => ?_))
                       · rfl
                       simp only [Act.put, List.setIfInBounds_toArray, List.set_cons_zero, List.set_cons_succ]
                       refine hK _ ?_; clear hK K))
                  with_reducible refine wpQuiet_nil ?_
                  intro wz hwz'
                  have HS2 := hid (HS.out.step hwz')
                  clear HS x0 x1 y0 y1 hwz'
                  have HA : Hid (allTo (fun i => !sepP X Y s a (a + 1 + i)) (j + 1)) := allTo_succ hin.out (by rw [← HBE.out, HP.out]; rfl)
                  clear HP hin
                  go_wp2
                  have HB := HBE.out
                  exact ⟨⟨j + 1, by omega, by go_num, HA, HS2⟩, by simp [intOf]; omega⟩
            · have nb : ((b : Int) != s) = false := by rw [bne, gb]; rfl
              have HP : Hid (sepP X Y s a b = false) := by unfold Hid; rw [sepP_eq, gb]; simp
              go_wp2_with fail
              refine region_cls (by kernel_rfl) (by kernel_rfl) ?_
              repeat (first
                | ((with_reducible refine quiet_pos ?_ (fun K hK => ?_))
                   · rfl
                   apply Exists.intro
                   refine ⟨fun w' hw' => ?_, ?_⟩
                   · go_simp
                     with_reducible rfl
                   simp only [Act.put, List.setIfInBounds_toArray, List.set_cons_zero, List.set_cons_succ]
                   refine hK _ ?_; clear hK K)
                | ((with_reducible refine quiet_neg ?_ (fun K hK => ?_))
                   · rfl
                   simp only [Act.put, List.setIfInBounds_toArray, List.set_cons_zero, List.set_cons_succ]
                   refine hK _ ?_; clear hK K))
              with_reducible refine wpQuiet_nil ?_
              intro wz hwz'
              have HS2 := hid (HS.out.step hwz')
              clear HS x0 x1 y0 y1 hwz'
              have HA : Hid (allTo (fun i => !sepP X Y s a (a + 1 + i)) (j + 1)) := allTo_succ hin.out (by rw [← HBE.out, HP.out]; rfl)
              clear HP hin
              go_wp2
              have HB := HBE.out
              exact ⟨⟨j + 1, by omega, by go_num, HA, HS2⟩, by simp [intOf]; omega⟩
          · have na : ((a : Int) != s) = false := by rw [bne, ga]; rfl
            have HP : Hid (sepP X Y s a b = false) := by unfold Hid; rw [sepP_eq, ga]; simp
            go_wp2_with fail
            refine region_cls (by kernel_rfl) (by kernel_rfl) ?_
            repeat (first
              | ((with_reducible refine quiet_pos ?_ (fun K hK => ?_))
                 · rfl
                 apply Exists.intro
                 refine ⟨fun w' hw' => ?_, ?_⟩
                 · go_simp
                   with_reducible rfl
                 simp only [Act.put, List.setIfInBounds_toArray, List.set_cons_zero, List.set_cons_succ]
                 refine hK _ ?_; clear hK K)
              | ((with_reducible refine quiet_neg ?_ (fun K hK => ?_))
                 · rfl
                 simp only [Act.put, List.setIfInBounds_toArray, List.set_cons_zero, List.set_cons_succ]
                 refine hK _ ?_; clear hK K))
            with_reducible refine wpQuiet_nil ?_
            intro wz hwz'
            have HS2 := hid (HS.out.step hwz')
            clear HS x0 x1 y0 y1 hwz'
            have HA : Hid (allTo (fun i => !sepP X Y s a (a + 1 + i)) (j + 1)) := allTo_succ hin.out (by rw [← HBE.out, HP.out]; rfl)
            clear HP hin
            go_wp2
            have HB := HBE.out
            exact ⟨⟨j + 1, by omega, by go_num, HA, HS2⟩, by simp [intOf]; omega⟩
        · have hja : j = n - (a + 1) := by omega
          have HA : Hid (allTo (fun a => allB (fun i => !sepP X Y s a (a + 1 + i)) (n - (a + 1))) (a + 1)) := allTo_succ hall.out (allB_yes hin.out hja)
          have inb : ¬ (((a + 1 + j : Nat) : Int) < (n : Int)) := by omega
          clear hin hall
          go_wp2
          refine ⟨?_, by simp [intOf]; omega⟩
          first
            | exact ⟨a + 1, by omega, by go_num, HA, HS⟩
            | ((repeat apply Exists.intro); exact ⟨⟨a + 1, by omega, by go_num, HA, HS⟩, rfl⟩)
    · have han : a = n := by omega
      have HR : Hid (sepB n X Y s = false) := by unfold Hid; rw [← splB_eq]; unfold splB; rw [allB_yes hall.out han]; rfl
      clear han hall
      go_wp2
      go_ret
      exact ⟨by rw [← HRR.out, HR.out]; rfl, HS.out.bl⟩
end
end Go.Proofs.Ytjklphlgmlomjaa
/- CutNodes of both sides, walked. Conditions: none. -/
namespace Go.Proofs.Ytjklphlgmlomjaa
open Go.RowKit
theorem calls_bool {P : Program} {f : FuncId} {args : Array Value} {w : World} {b b' : Bool} (h : Calls P f args w fun e w' => e = .returned (.bool b) ∧ Below w.heap.size w w') (e : b = b') : Calls P f args w fun e w' => e = .returned (.bool b') ∧ Below w.heap.size w w' := by subst e; exact h
/-- What walks of these chapters ask of a network. -/
theorem good_parts {n c m d : Nat} {A A' : Option Addr} {xs : List ByteArray} {fs : List Fib} {w : World} (h : NetIs w A n c A' m d xs fs) (g : goodB xs fs = true) : endsB n fs ∧ 0 < n ∧ n ≤ 8 ∧ m ≤ 14 := by
  have he := goodB_ends g
  rw [h.xlen] at he
  have h1 := goodB_bd g
  have h2 := h.xlen
  have h3 := h.flen
  exact ⟨he, by omega, by omega, by omega⟩
theorem idsTo_range {p : Nat → Bool} {k : Nat} : ∀ x ∈ idsTo p k, 0 ≤ x ∧ x < k := fun x hx => by
  unfold idsTo at hx
  obtain ⟨j, hj, rfl⟩ := List.mem_map.1 hx
  have := (List.mem_filter.1 hj).1
  simp at this; omega
theorem maskN_comp {n : Nat} {fs : List Fib} {l : List Int} (h : ∀ x ∈ l, 0 ≤ x) : compL (fun i => (maskN l).testBit i) fs n = compL (goneF l) fs n := compL_congr fun i _ => maskN_bit h i
section
variable {n c m d : Nat} {A A' : Option Addr} {xs : List ByteArray} {fs : List Fib}
set_option maxHeartbeats 2000000 in
set_option maxRecDepth 100000 in
theorem implCutNodes (w : World) (h : NetIs w A n c A' m d xs fs) :
    Calls Try.prog 36 #[.agg #[.slice A n c, .slice A' m d]] w fun e w' => ∃ v, e = .returned (.tuple #[v, .bool (goodB xs fs)]) ∧ Owns elInt w' w.heap.size 3 v (cnL xs fs) ∧ Below w.heap.size w w' := by
  have hS := (Led.nil w).blk_ w.heap.size rfl 35 #[.slice A n c, .slice A' m d]
  cases g : goodB xs fs
  · have H : Hid (cnL xs fs = []) := by unfold Hid cnL; rw [g]; rfl
    go_enter Try.func36, Try.ntmps36
    go_wp2_with fail
    refine (validN _ (h.grow hS.bl)).mono ?_
    rintro e w1 ⟨rfl, hb⟩
    rw [g]
    go_wp2_with fail
    go_ret2
    exact ⟨_, rfl, by rw [H.out]; exact World.ownsRow_nil _ _ _ _, bl_then hS.bl hb⟩
  · have H : Hid (cnL xs fs = idsTo (cnF fs n) n) := by unfold Hid cnL; rw [g, h.xlen]; rfl
    obtain ⟨he, hn0, hn8, hm14⟩ := good_parts h g
    have HE := hid he
    have HLF := hid h.flen
    obtain ⟨i0, hi, hz0, hz1, hz2⟩ := info_parts int_info
    go_enter Try.func36, Try.ntmps36
    go_wp2_with fail
    refine (validN _ (h.grow hS.bl)).mono ?_
    rintro e w1 ⟨rfl, hb⟩
    rw [g]
    replace hS := (hS.step hb).empty elInt 3 w1.heap.size rfl w.heap.size (hS.step hb).bl.size
    rw [← idsTo_zero (cnF fs n)] at hS
    have HS := hid hS
    have q1 := HS.out.cell 1 0 rfl rfl
    have HF := hid h
    clear hS hb h he
    go_wp2_with fail
    clear q1
    go_loopw [4, 13] (fun v i wr => ∃ k : Nat, k ≤ n ∧ i = .int .i64 k ∧ Hid (Led w wr [tOwns elInt w.heap.size 3 v (idsTo (cnF fs n) k), tBlk w.heap.size 35 #[.slice A n c, .slice A' m d]])) (fun _ i _ => n - (intOf i).toNat)
    case atStart => exact ⟨0, Nat.zero_le _, rfl, HS⟩
    case round =>
      clear HS
      obtain ⟨k, hk, rfl, HS⟩ := hrel
      by_cases hlt : k < n
      · have hll := idsTo_len (cnF fs n) k
        have C0 : ∀ w', Cls wr w' → w'.cell? ⟨w.heap.size, 0, none⟩ = some (.slice A n c) := fun _ h => h.cell (HS.out.cell 1 0 rfl rfl)
        have C1 : ∀ w', Cls wr w' → w'.cell? ⟨w.heap.size, 1, none⟩ = some (.slice A' m d) := fun _ h => h.cell (HS.out.cell 1 1 rfl rfl)
        have HL := hid (fun w' (h : Cls wr w') => HS.out.step h)
        obtain ⟨r, hr⟩ : ∃ r, cnF fs n k = r := ⟨_, rfl⟩
        have HP : Hid (sepB n (compL (goneF []) fs n) (compL (goneF (idsTo (touchesF fs (k : Int)) m)) fs n) (k : Int) = r) := by rw [← hr]; unfold cnF; rw [HLF.out]; rfl
        have HR := hid hr
        have hil := idsTo_len (touchesF fs (k : Int)) m
        clear hr
        go_wp2_with fail
        go_region_held3 (fun w' => Cls wr w') (first | exact Cls.refl _ | exact Cls.drew _ | exact Cls.next (by assumption) (by assumption))
          (first
            | (go_at_call 84; refine (fibersAt_any (k : Int) _ (HF.out.grow (HL.out _ (by assumption)).bl)).mono ?_; rintro e w' ⟨v1, rfl, ho1, hb1⟩; obtain ⟨A1, c1, rfl, _⟩ := ho1.form; have hL1 := (HL.out _ (by assumption)).owns hb1 ho1)
            | (go_at_call 83; refine (calls_bool (separates_any (k : Int) _ (HF.out.grow hL1.bl) (hL1.seesI 0 rfl) (by omega) HE.out hn0) HP.out).mono ?_; rintro e w' ⟨rfl, hb2⟩))
        have hL2 := hL1.step hb2
        clear HL C0 C1 hL1 hb1 hb2 ho1 HS
        generalize w' = W2 at *
        cases r
        · have HN : Hid (idsTo (cnF fs n) (k + 1) = idsTo (cnF fs n) k) := idsTo_no HR.out
          have hS6 := hid (hL2.drop 1)
          clear hL2 HP
          go_wp2
          exact ⟨⟨k + 1, by omega, by go_num, by rw [HN.out]; exact hS6⟩, by simp [intOf]; omega⟩
        · have HN : Hid (idsTo (cnF fs n) (k + 1) = idsTo (cnF fs n) k ++ [(k : Int)]) := idsTo_yes HR.out
          obtain ⟨A3, c3, rfl, _⟩ := hL2.form 1 rfl
          have HS2 := hid (hL2.blk_ W2.heap.size rfl 3 #[.int .i64 k])
          clear hL2 HP
          go_wp2_with (first
            | (at_builtin; refine wpList_append_led rfl _ _ 26 rfl HS2.out 2 rfl Try.underlying26 hi hz0 hz1 (by rw [hz2]; decide) rfl rfl rfl (show Sees elInt _ _ _ 1 [(k : Int)] from sees_new elInt _ _ _ _ rfl) (by omega) HS2.out.bl.size ?_)
            | go_in)
          intro A2 c2 w7 hS5
          have hS6 := hid (hS5.drop 2)
          clear HS2 hS5
          go_wp2
          go_roundw
          case rel => exact ⟨k + 1, by omega, by go_num, by rw [HN.out]; exact hS6⟩
          case measure => simp [intOf]; omega
      · have hkm : k = n := by omega
        subst hkm
        clear hlt
        go_wp2
        go_ret2
        exact ⟨_, rfl, by rw [H.out]; exact HS.out.own 0 rfl, HS.out.bl⟩
set_option maxHeartbeats 2000000 in
set_option maxRecDepth 100000 in
theorem specCutNodes (w : World) (h : NetIs w A n c A' m d xs fs) :
    Calls Try.prog 35 #[.agg #[.slice A n c, .slice A' m d]] w fun e w' => ∃ v, e = .returned (.tuple #[v, .bool (goodB xs fs)]) ∧ Owns elInt w' w.heap.size 3 v (cnL xs fs) ∧ Below w.heap.size w w' := by
  have hS := ((Led.nil w).blk_ w.heap.size rfl 35 #[.slice A n c, .slice A' m d]).empty elInt 3 (w.heap.size + 1) (by simp) w.heap.size (by omega)
  cases g : goodB xs fs
  · have H : Hid (cnL xs fs = []) := by unfold Hid cnL; rw [g]; rfl
    go_enter Try.func35, Try.ntmps35
    go_wp2_with fail
    refine (goodN _ (h.grow hS.bl)).mono ?_
    rintro e w1 ⟨rfl, hb⟩
    rw [g]
    replace hS := hS.step hb
    go_wp2_with fail
    go_ret2
    exact ⟨_, rfl, by rw [H.out]; exact hS.own 0 rfl, hS.bl⟩
  · have H : Hid (cnL xs fs = idsTo (cnF fs n) n) := by unfold Hid cnL; rw [g, h.xlen]; rfl
    obtain ⟨he, hn0, hn8, hm14⟩ := good_parts h g
    have HE := hid he
    have HLF := hid h.flen
    have HLX := hid h.xlen
    have HG := hid g
    obtain ⟨i0, hi, hz0, hz1, hz2⟩ := info_parts int_info
    go_enter Try.func35, Try.ntmps35
    go_wp2_with fail
    refine (goodN _ (h.grow hS.bl)).mono ?_
    rintro e w1 ⟨rfl, hb⟩
    rw [g]
    replace hS := hS.step hb
    have HS : Hid (Led w w1 [tOwns elInt w.heap.size 3 (.slice (some ⟨w.heap.size + 1, 0, none⟩) 0 0) (idsTo (cnF fs n) 0), tBlk w.heap.size 35 #[.slice A n c, .slice A' m d]]) := hS
    have HF := hid h
    clear hS hb h he
    go_wp2_with fail
    go_loopw [4, 5] (fun v i wr => ∃ k : Nat, k ≤ n ∧ i = .int .i64 k ∧ Hid (Led w wr [tOwns elInt w.heap.size 3 v (idsTo (cnF fs n) k), tBlk w.heap.size 35 #[.slice A n c, .slice A' m d]])) (fun _ i _ => n - (intOf i).toNat)
    case atStart => exact ⟨0, Nat.zero_le _, rfl, HS⟩
    case round =>
      clear HS
      obtain ⟨k, hk, rfl, HS⟩ := hrel
      have q0 := HS.out.cell 1 0 rfl rfl
      by_cases hlt : k < n
      · have hll := idsTo_len (cnF fs n) k
        have q1 := HS.out.cell 1 1 rfl rfl
        obtain ⟨r, hr⟩ : ∃ r, cnF fs n k = r := ⟨_, rfl⟩
        have hfa : Hid (faB xs fs (k : Int) = true) := by unfold Hid faB; rw [HG.out]; unfold inB; rw [HLX.out]; simp; omega
        have hfi : Hid (faI xs fs (k : Int) = idsTo (touchesF fs (k : Int)) m) := by unfold Hid faI; rw [hfa.out, HLF.out]; rfl
        have hmem : ∀ x ∈ idsTo (touchesF fs (k : Int)) m, 0 ≤ x ∧ x < 20 := fun x hx => by have := idsTo_range x hx; omega
        have HP : Hid (sepB n (compL (goneF []) fs n) (compL (fun i => (maskN (idsTo (touchesF fs (k : Int)) m)).testBit i) fs n) (k : Int) = r) := by
          rw [← hr, maskN_comp (fun x hx => (hmem x hx).1)]; unfold cnF; rw [HLF.out]; rfl
        have HR := hid hr
        have hil := idsTo_len (touchesF fs (k : Int)) m
        have HMM := hid hmem
        have HMB : Hid (maskN (idsTo (touchesF fs (k : Int)) m) < 2 ^ 20) := maskTo_lt hmem _ (Nat.le_refl _)
        clear hr hmem
        go_wp2_with fail
        refine (specFibersAt (k : Int) _ (HF.out.grow HS.out.bl)).mono ?_
        rintro e w3 ⟨v3, rfl, ho3, hb3⟩
        rw [hfi.out] at ho3
        obtain ⟨A3, c3, rfl, _⟩ := ho3.form
        have hS1 := HS.out.owns hb3 ho3
        clear ho3 hb3 q0 q1 HS
        generalize hII : idsTo (touchesF fs (k : Int)) m = I at *
        have C0 : ∀ w', Cls w3 w' → w'.cell? ⟨w.heap.size, 0, none⟩ = some (.slice A n c) := fun _ h => h.cell (hS1.cell 2 0 rfl rfl)
        have C1 : ∀ w', Cls w3 w' → w'.cell? ⟨w.heap.size, 1, none⟩ = some (.slice A' m d) := fun _ h => h.cell (hS1.cell 2 1 rfl rfl)
        have HL := hid (fun w' (h : Cls w3 w') => hS1.step h)
        clear hII
        go_wp2_with fail
        go_region_held3 (fun w' => Cls w3 w') (first | exact Cls.refl _ | exact Cls.drew _ | assumption | exact Cls.next (by assumption) (by assumption))
          (first
            | (go_at_call 82; refine (mask_any _ ((HL.out _ (by assumption)).sees 0 rfl rfl) HMM.out (by omega)).mono ?_; rintro e w' ⟨rfl, rfl⟩)
            | (go_at_call 81; have hcl := ‹Cls w3 _›; refine (calls_bool (l6Splits_any (maskN I) (k : Int) _ (HF.out.grow (HL.out _ (by assumption)).bl) HMB.out HE.out hn0 (by omega)) HP.out).mono ?_; rintro e w' ⟨rfl, hb2⟩))
        have hL2 := (HL.out _ hcl).step hb2
        clear HL C0 C1 hS1 hb2 hcl
        generalize w' = W2 at *
        cases r
        · have HN : Hid (idsTo (cnF fs n) (k + 1) = idsTo (cnF fs n) k) := idsTo_no HR.out
          have hS6 := hid (hL2.drop 1)
          clear hL2 HP
          go_wp2
          exact ⟨⟨k + 1, by omega, by go_num, by rw [HN.out]; exact hS6⟩, by simp [intOf]; omega⟩
        · have HN : Hid (idsTo (cnF fs n) (k + 1) = idsTo (cnF fs n) k ++ [(k : Int)]) := idsTo_yes HR.out
          obtain ⟨A5, c5, rfl, _⟩ := hL2.form 1 rfl
          have HS2 := hid (hL2.blk_ W2.heap.size rfl 3 #[.int .i64 k])
          clear hL2 HP
          go_wp2_with (first
            | (at_builtin; refine wpList_append_led rfl _ _ 26 rfl HS2.out 2 rfl Try.underlying26 hi hz0 hz1 (by rw [hz2]; decide) rfl rfl rfl (show Sees elInt _ _ _ 1 [(k : Int)] from sees_new elInt _ _ _ _ rfl) (by omega) HS2.out.bl.size ?_)
            | go_in)
          intro A2 c2 w7 hS5
          have hS6 := hid (hS5.drop 2)
          clear HS2 hS5
          go_wp2
          go_roundw
          case rel => exact ⟨k + 1, by omega, by go_num, by rw [HN.out]; exact hS6⟩
          case measure => simp [intOf]; omega
      · have hkm : k = n := by omega
        subst hkm
        clear hlt
        go_wp2
        go_ret2
        exact ⟨_, rfl, by rw [H.out]; exact HS.out.own 0 rfl, HS.out.bl⟩
end
end Go.Proofs.Ytjklphlgmlomjaa
/- Distances, Diameter of both sides, walked. Conditions: none. -/
namespace Go.Proofs.Ytjklphlgmlomjaa
open Go.RowKit
theorem results_tmp4 {fn : Func} {t u v x : Tmp} (h : fn.results = #[.tmp t, .tmp u, .tmp v, .tmp x]) (tmps : Array Value) (P : Program) (w : World) :
    (results fn tmps).run P w = .ok (.tuple #[tmps.getD t undef, tmps.getD u undef, tmps.getD v undef, tmps.getD x undef]) w := by
  simp [results, h]
section
variable {n c m d : Nat} {A A' : Option Addr} {xs : List ByteArray} {fs : List Fib}
def diL (xs : List ByteArray) (fs : List Fib) (v : Int) : List Int := if faB xs fs v then dsF fs xs.length v.toNat else []
theorem diL_len {v : Int} : (diL xs fs v).length ≤ 8 := by
  unfold diL
  cases g : faB xs fs v
  · simp
  · unfold faB at g
    rw [Bool.and_eq_true] at g
    have := (goodB_bd g.1).2.1
    unfold dsF
    simp [distL_len]; omega
set_option maxHeartbeats 1000000 in
set_option maxRecDepth 100000 in
theorem implDistances (x : Int) (w : World) (h : NetIs w A n c A' m d xs fs) :
    Calls Try.prog 40 #[.agg #[.slice A n c, .slice A' m d], .int .i64 x] w fun e w' => ∃ v, e = .returned (.tuple #[v, .bool (faB xs fs x)]) ∧ Owns elInt w' w.heap.size 3 v (diL xs fs x) ∧ Below w.heap.size w w' := by
  have hS := ((Led.nil w).blk_ w.heap.size rfl 35 #[.slice A n c, .slice A' m d]).blk_ (w.heap.size + 1) (by simp) 3 #[.int .i64 x]
  have hsx := sees_new elInt (w.alloc (.cells #[.slice A n c, .slice A' m d] 35)) x 3 (w.heap.size + 1) (by simp)
  have HK : Hid (faB xs fs x = (goodB xs fs && nodesB n [x])) := by unfold Hid faB; rw [nodesB_one, h.xlen]
  cases g : faB xs fs x
  · have H : Hid (diL xs fs x = []) := by unfold Hid diL; rw [g]; rfl
    rw [HK.out] at g
    go_enter Try.func40, Try.ntmps40
    go_wp2_with fail
    refine (calls_bool (isNode_any _ (h.grow hS.bl) hsx (by decide)) g).mono ?_
    rintro e w1 ⟨rfl, hb⟩
    go_wp2_with fail
    go_ret2
    exact ⟨_, rfl, by rw [H.out]; exact World.ownsRow_nil _ _ _ _, bl_then hS.bl hb⟩
  · have H : Hid (diL xs fs x = distL (goneF []) fs n x.toNat) := by unfold Hid diL; rw [g, h.xlen]; rfl
    have g' := g
    unfold faB at g'
    rw [Bool.and_eq_true, h.xlen] at g'
    obtain ⟨he, hn0, hn8, hm14⟩ := good_parts h g'.1
    have hx := inB_idx g'.2
    obtain ⟨s, rfl⟩ : ∃ s : Nat, x = (s : Int) := ⟨x.toNat, by omega⟩
    have HL5 := hid (goodB_lens5 g'.1)
    rw [HK.out] at g
    clear g'
    go_enter Try.func40, Try.ntmps40
    go_wp2_with fail
    refine (calls_bool (isNode_any _ (h.grow hS.bl) hsx (by decide)) g).mono ?_
    rintro e w1 ⟨rfl, hb⟩
    replace hS := hS.step hb
    have q0 := hS.cell 1 0 rfl rfl
    have q1 := hS.cell 1 1 rfl rfl
    clear hb
    go_wp2_with fail
    refine (lengthsFrom_any s _ (h.grow hS.bl) he HL5.out (by omega) hn8 hm14).mono ?_
    rintro e w2 ⟨v, rfl, ho, hb2⟩
    have HO := hid (ho.base (base' := w.heap.size) hS.bl.size)
    clear ho
    go_wp2_with fail
    go_ret2
    exact ⟨_, rfl, by rw [H.out]; exact HO.out, bl_then hS.bl hb2⟩
set_option maxHeartbeats 1000000 in
set_option maxRecDepth 100000 in
theorem specDistances (x : Int) (w : World) (h : NetIs w A n c A' m d xs fs) :
    Calls Try.prog 39 #[.agg #[.slice A n c, .slice A' m d], .int .i64 x] w fun e w' => ∃ v, e = .returned (.tuple #[v, .bool (faB xs fs x)]) ∧ Owns elInt w' w.heap.size 3 v (diL xs fs x) ∧ Below w.heap.size w w' := by
  have hS := (Led.nil w).blk_ w.heap.size rfl 35 #[.slice A n c, .slice A' m d]
  have hn := h.nle
  have HK : Hid (faB xs fs x = (goodB xs fs && inB 0 ((n : Int) - 1) x)) := by unfold Hid faB; rw [h.xlen]
  have iw : IntKind.i64.wrap ((n : Int) - 1) = (n : Int) - 1 := IntWalk.i64_in _ (by omega)
  cases g : goodB xs fs
  · have HF : Hid (faB xs fs x = false) := by unfold Hid; rw [HK.out, g]; rfl
    have H : Hid (diL xs fs x = []) := by unfold Hid diL; rw [HF.out]; rfl
    rw [HF.out]
    go_enter Try.func39, Try.ntmps39
    go_wp2_with fail
    refine (goodN _ (h.grow hS.bl)).mono ?_
    rintro e w1 ⟨rfl, hb⟩
    rw [g]
    have hS1 := (hS.step hb).empty elInt 3 w1.heap.size rfl w.heap.size (hS.step hb).bl.size
    go_wp2_with fail
    go_ret2
    exact ⟨_, rfl, by rw [H.out]; exact hS1.own 0 rfl, hS1.bl⟩
  · cases g2 : inB 0 ((n : Int) - 1) x
    · have HF : Hid (faB xs fs x = false) := by unfold Hid; rw [HK.out, g, g2]; rfl
      have H : Hid (diL xs fs x = []) := by unfold Hid diL; rw [HF.out]; rfl
      rw [HF.out]
      go_enter Try.func39, Try.ntmps39
      go_wp2_with fail
      refine (goodN _ (h.grow hS.bl)).mono ?_
      rintro e w1 ⟨rfl, hb⟩
      rw [g]
      replace hS := hS.step hb
      have q0 := hS.cell 0 0 rfl rfl
      have hS1 := hS.empty elInt 3 w1.heap.size rfl w.heap.size hS.bl.size
      clear hb
      go_wp2_with fail
      refine (l1In_any _ _ _ _).mono ?_
      rintro e w3 ⟨rfl, rfl⟩
      rw [g2]
      go_wp2_with fail
      go_ret2
      exact ⟨_, rfl, by rw [H.out]; exact hS1.own 0 rfl, hS1.bl⟩
    · have HF : Hid (faB xs fs x = true) := by unfold Hid; rw [HK.out, g, g2]; rfl
      have H : Hid (diL xs fs x = distL (goneF []) fs n x.toNat) := by unfold Hid diL; rw [HF.out, h.xlen]; rfl
      rw [HF.out]
      obtain ⟨he, hn0, hn8, hm14⟩ := good_parts h g
      have hx := inB_idx g2
      obtain ⟨s, rfl⟩ : ∃ s : Nat, x = (s : Int) := ⟨x.toNat, by omega⟩
      have HL5 := hid (goodB_lens5 g)
      go_enter Try.func39, Try.ntmps39
      go_wp2_with fail
      refine (goodN _ (h.grow hS.bl)).mono ?_
      rintro e w1 ⟨rfl, hb⟩
      rw [g]
      replace hS := hS.step hb
      have q0 := hS.cell 0 0 rfl rfl
      have q1 := hS.cell 0 1 rfl rfl
      have hS1 := hS.empty elInt 3 w1.heap.size rfl w.heap.size hS.bl.size
      clear hb
      go_wp2_with fail
      refine (l1In_any _ _ _ _).mono ?_
      rintro e w3 ⟨rfl, rfl⟩
      rw [g2]
      go_wp2_with fail
      refine (l5Distances_any (l := []) s _ (h.grow hS1.bl) (Sees.nil elInt _ 0 _) (by decide) he HL5.out (by omega) hn8 hm14).mono ?_
      rintro e w2 ⟨v, rfl, ho, hb2⟩
      have HO := hid (ho.base (base' := w.heap.size) hS1.bl.size)
      clear ho
      go_wp2_with fail
      go_ret2
      exact ⟨_, rfl, by rw [H.out]; exact HO.out, bl_then hS1.bl hb2⟩
set_option maxHeartbeats 4000000 in
set_option maxRecDepth 100000 in
theorem implDiameter (w : World) (h : NetIs w A n c A' m d xs fs) :
    Calls Try.prog 42 #[.agg #[.slice A n c, .slice A' m d]] w fun e w' => e = .returned (.tuple #[.int .i64 (diaV xs fs).x, .int .i64 (diaV xs fs).y, .int .i64 (diaV xs fs).m, .bool (diaB xs fs)]) ∧ Below w.heap.size w w' := by
  have hS := (Led.nil w).blk_ w.heap.size rfl 35 #[.slice A n c, .slice A' m d]
  cases g : goodB xs fs
  · have HB : Hid (diaB xs fs = false) := by unfold Hid diaB; rw [g]; rfl
    have H : Hid (diaV xs fs = ⟨0, 0, 0⟩) := by unfold Hid diaV; rw [HB.out]; rfl
    rw [HB.out, H.out]
    go_enter Try.func42, Try.ntmps42
    go_wp2_with fail
    refine (validN _ (h.grow hS.bl)).mono ?_
    rintro e w1 ⟨rfl, hb⟩
    rw [g]
    go_wp2_with fail
    (try simp only [Exit.inBlock, Exit.then]); refine bodyPost_ret (results_tmp4 rfl _ _ _) rfl ?_
    exact ⟨rfl, bl_then hS.bl hb⟩
  · have HB : Hid (diaB xs fs = allD (dsF fs n) n) := by unfold Hid diaB; rw [g, h.xlen]; rfl
    have HV : Hid (diaV xs fs = if allD (dsF fs n) n then diaTo (dsF fs n) n ⟨0, 0, 0⟩ n else ⟨0, 0, 0⟩) := by unfold Hid diaV; rw [HB.out, h.xlen]
    obtain ⟨he, hn0, hn8, hm14⟩ := good_parts h g
    have hn2 : 2 ≤ n := by have := (goodB_bd g).1; have := h.xlen; omega
    have HL5 := hid (goodB_lens5 g)
    have HE := hid he
    go_enter Try.func42, Try.ntmps42
    go_wp2_with fail
    refine (validN _ (h.grow hS.bl)).mono ?_
    rintro e w1 ⟨rfl, hb⟩
    rw [g]
    have HS := hid (hS.step hb)
    have HF := hid h
    clear hS hb h he
    have q0 := HS.out.cell 0 0 rfl rfl
    go_wp2_with fail
    clear q0
    go_loopw [6, 7, 8, 18] (fun sx sy sm i wr => ∃ (a : Nat) (st : Dia), a ≤ n ∧ i = .int .i64 a ∧ sx = .int .i64 st.x ∧ sy = .int .i64 st.y ∧ sm = .int .i64 st.m ∧ Hid (st = diaTo (dsF fs n) n ⟨0, 0, 0⟩ a) ∧ Hid (allTo (fun a => allB (fun b => decide (0 ≤ valL (dsF fs n a) b)) n) a) ∧ Hid (Led w wr [tBlk w.heap.size 35 #[.slice A n c, .slice A' m d]])) (fun _ _ _ i _ => n - (intOf i).toNat)
    case atStart => exact ⟨0, ⟨0, 0, 0⟩, Nat.zero_le _, rfl, rfl, rfl, rfl, rfl, allTo_zero _, HS⟩
    case round =>
      clear HS
      obtain ⟨a, st, ha, rfl, rfl, rfl, rfl, hst, hall, HS⟩ := hrel
      have q0 := HS.out.cell 0 0 rfl rfl
      by_cases hlt : a < n
      · have q1 := HS.out.cell 0 1 rfl rfl
        have HF2 := hid (HF.out.grow HS.out.bl)
        go_wp2_with fail
        refine (lengthsFrom_any a _ HF2.out HE.out HL5.out hlt hn8 hm14).mono ?_
        rintro e w2 ⟨v, rfl, ho, hb2⟩
        obtain ⟨g2, c2, rfl⟩ := ho.splitg distL_len (show 0 < n by omega)
        have hdl : Hid ((dsF fs n a).length = n) := distL_len
        have ho : Owns elInt w2 _ 3 (.slice (some ⟨g2, 0, none⟩) n c2) (dsF fs n a) := ho
        have hS2 := HS.out.owns hb2 ho
        obtain ⟨LL, hLL⟩ : ∃ LL, LL = [tBlk w.heap.size 35 #[.slice A n c, .slice A' m d]] := ⟨_, rfl⟩
        rw [← hLL] at hS2
        have HLL := hid hLL
        obtain ⟨bb, hbb⟩ : ∃ bb, Led w w2 (tOwns elInt bb 3 (.slice (some ⟨g2, 0, none⟩) n c2) (dsF fs n a) :: LL) := ⟨_, hS2⟩
        have HS2 := hid hbb
        clear hS2 hbb ho hb2 q0 q1 HS HF2 hLL
        go_wp2_with fail
        go_loopw [6, 7, 8, 25] (fun sx sy sm i wr => ∃ (b : Nat) (st2 : Dia), b ≤ n ∧ i = .int .i64 b ∧ sx = .int .i64 st2.x ∧ sy = .int .i64 st2.y ∧ sm = .int .i64 st2.m ∧ Hid (st2 = diaRow (dsF fs n a) a st b) ∧ Hid (allTo (fun b => decide (0 ≤ valL (dsF fs n a) b)) b) ∧ Hid (Led w wr (tOwns elInt bb 3 (.slice (some ⟨g2, 0, none⟩) n c2) (dsF fs n a) :: LL))) (fun _ _ _ i _ => n - (intOf i).toNat)
        case atStart => exact ⟨0, st, Nat.zero_le _, rfl, rfl, rfl, rfl, rfl, allTo_zero _, HS2⟩
        case round =>
          clear HS2
          obtain ⟨b, st2, hb, rfl, rfl, rfl, rfl, hst2, hin, HS⟩ := hrel
          by_cases hlt2 : b < n
          · have v0 := HS.out.int_at 0 rfl (j := b) (by rw [hdl.out]; exact hlt2)
            have ib : (b : Int) < (n : Int) := by omega
            obtain ⟨dd, hdd⟩ : ∃ dd, valL (dsF fs n a) b = dd := ⟨_, rfl⟩
            rw [hdd] at v0
            have HDD := hid hdd
            clear hdd
            by_cases hneg : dd < 0
            · have gn := decide_eq_true hneg
              have HA : Hid (allD (dsF fs n) n = false) := allD_no hlt hlt2 (by rw [HDD.out]; exact hneg)
              have HB2 : Hid (diaB xs fs = false) := by rw [← HA.out]; exact HB.out
              have HV2 : Hid (diaV xs fs = ⟨0, 0, 0⟩) := by unfold Hid; rw [HV.out, HA.out]; rfl
              clear HV HB HA
              go_wp2
              (try simp only [Exit.inBlock, Exit.then]); refine bodyPost_ret (results_tmp4 rfl _ _ _) rfl ?_
              exact ⟨by rw [HV2.out, HB2.out]; rfl, HS.out.bl⟩
            · have gn := decide_eq_false hneg
              have HI : Hid (allTo (fun b => decide (0 ≤ valL (dsF fs n a) b)) (b + 1)) := allTo_succ hin.out (by simp only [HDD.out]; exact decide_eq_true (by omega))
              have HN : Hid (diaRow (dsF fs n a) a st (b + 1) = diaStep a b dd st2) := by show diaStep a b (valL (dsF fs n a) b) (diaRow (dsF fs n a) a st b) = _; rw [HDD.out, ← hst2.out]
              clear hin hst2
              by_cases h1 : a < b
              · have h1d : decide ((a : Int) < (b : Int)) = true := decide_eq_true (by omega)
                by_cases h2 : st2.m < dd
                · have h2d : decide (st2.m < dd) = true := decide_eq_true h2
                  have HR : Hid (diaRow (dsF fs n a) a st (b + 1) = ⟨a, b, dd⟩) := by unfold Hid; rw [HN.out]; exact if_pos ⟨h1, h2⟩
                  go_wp2
                  refine ⟨?_, by simp [intOf]; omega⟩
                  first
                    | exact ⟨b + 1, ⟨a, b, dd⟩, by omega, by go_num, rfl, rfl, rfl, HR.out.symm, HI, HS⟩
                    | ((repeat apply Exists.intro); exact ⟨⟨b + 1, ⟨a, b, dd⟩, by omega, by go_num, rfl, rfl, rfl, HR.out.symm, HI, HS⟩, rfl⟩)
                · have h2d : decide (st2.m < dd) = false := decide_eq_false h2
                  have HR : Hid (diaRow (dsF fs n a) a st (b + 1) = st2) := by unfold Hid; rw [HN.out]; exact if_neg (fun h => h2 h.2)
                  go_wp2
                  refine ⟨?_, by simp [intOf]; omega⟩
                  first
                    | exact ⟨b + 1, st2, by omega, by go_num, rfl, rfl, rfl, HR.out.symm, HI, HS⟩
                    | ((repeat apply Exists.intro); exact ⟨⟨b + 1, st2, by omega, by go_num, rfl, rfl, rfl, HR.out.symm, HI, HS⟩, rfl⟩)
              · have h1d : decide ((a : Int) < (b : Int)) = false := decide_eq_false (by omega)
                have HR : Hid (diaRow (dsF fs n a) a st (b + 1) = st2) := by unfold Hid; rw [HN.out]; exact if_neg (fun h => h1 h.1)
                go_wp2
                refine ⟨?_, by simp [intOf]; omega⟩
                first
                  | exact ⟨b + 1, st2, by omega, by go_num, rfl, rfl, rfl, HR.out.symm, HI, HS⟩
                  | ((repeat apply Exists.intro); exact ⟨⟨b + 1, st2, by omega, by go_num, rfl, rfl, rfl, HR.out.symm, HI, HS⟩, rfl⟩)
          · have hbn : b = n := by omega
            have HR : Hid (diaTo (dsF fs n) n ⟨0, 0, 0⟩ (a + 1) = st2) := by
              show diaRow (dsF fs n a) a (diaTo (dsF fs n) n ⟨0, 0, 0⟩ a) n = _
              rw [← hst.out, hst2.out, hbn]
            have HI : Hid (allTo (fun a => allB (fun b => decide (0 ≤ valL (dsF fs n a) b)) n) (a + 1)) := allTo_succ hall.out (allB_yes hin.out hbn)
            have HS3 : Hid (Led w wr [tBlk w.heap.size 35 #[.slice A n c, .slice A' m d]]) := by have h1 := HS.out.drop 1; rw [HLL.out] at h1; exact h1
            clear hbn hst hst2 hall hin HS
            go_wp2
            refine ⟨?_, by simp [intOf]; omega⟩
            first
              | exact ⟨a + 1, st2, by omega, by go_num, rfl, rfl, rfl, HR.out.symm, HI, HS3⟩
              | ((repeat apply Exists.intro); exact ⟨⟨a + 1, st2, by omega, by go_num, rfl, rfl, rfl, HR.out.symm, HI, HS3⟩, rfl⟩)
      · have han : a = n := by omega
        have HA : Hid (allD (dsF fs n) n = true) := allB_yes hall.out han
        have HB2 : Hid (diaB xs fs = true) := by rw [← HA.out]; exact HB.out
        have HV2 : Hid (diaV xs fs = st) := by unfold Hid; rw [HV.out, HA.out, hst.out, han]; rfl
        clear HV HB HA hst hall han
        go_wp2
        (try simp only [Exit.inBlock, Exit.then]); refine bodyPost_ret (results_tmp4 rfl _ _ _) rfl ?_
        exact ⟨by rw [HV2.out, HB2.out]; rfl, HS.out.bl⟩
set_option maxHeartbeats 4000000 in
set_option maxRecDepth 100000 in
theorem specDiameter (w : World) (h : NetIs w A n c A' m d xs fs) :
    Calls Try.prog 41 #[.agg #[.slice A n c, .slice A' m d]] w fun e w' => e = .returned (.tuple #[.int .i64 (diaV xs fs).x, .int .i64 (diaV xs fs).y, .int .i64 (diaV xs fs).m, .bool (diaB xs fs)]) ∧ Below w.heap.size w w' := by
  have hS := (Led.nil w).blk_ w.heap.size rfl 35 #[.slice A n c, .slice A' m d]
  cases g : goodB xs fs
  · have HB : Hid (diaB xs fs = false) := by unfold Hid diaB; rw [g]; rfl
    have H : Hid (diaV xs fs = ⟨0, 0, 0⟩) := by unfold Hid diaV; rw [HB.out]; rfl
    rw [HB.out, H.out]
    go_enter Try.func41, Try.ntmps41
    go_wp2_with fail
    refine (goodN _ (h.grow hS.bl)).mono ?_
    rintro e w1 ⟨rfl, hb⟩
    rw [g]
    go_wp2_with fail
    (try simp only [Exit.inBlock, Exit.then]); refine bodyPost_ret (results_tmp4 rfl _ _ _) rfl ?_
    exact ⟨rfl, bl_then hS.bl hb⟩
  · have HB : Hid (diaB xs fs = allD (dsF fs n) n) := by unfold Hid diaB; rw [g, h.xlen]; rfl
    have HV : Hid (diaV xs fs = if allD (dsF fs n) n then diaTo (dsF fs n) n ⟨0, 0, 0⟩ n else ⟨0, 0, 0⟩) := by unfold Hid diaV; rw [HB.out, h.xlen]
    obtain ⟨he, hn0, hn8, hm14⟩ := good_parts h g
    have hn2 : 2 ≤ n := by have := (goodB_bd g).1; have := h.xlen; omega
    have HL5 := hid (goodB_lens5 g)
    have HE := hid he
    go_enter Try.func41, Try.ntmps41
    go_wp2_with fail
    refine (goodN _ (h.grow hS.bl)).mono ?_
    rintro e w1 ⟨rfl, hb⟩
    rw [g]
    have HS := hid (hS.step hb)
    have HF := hid h
    clear hS hb h he
    go_wp2_with fail
    go_loopw [6, 7, 8, 9] (fun sx sy sm i wr => ∃ (a : Nat) (st : Dia), a ≤ n ∧ i = .int .i64 a ∧ sx = .int .i64 st.x ∧ sy = .int .i64 st.y ∧ sm = .int .i64 st.m ∧ Hid (st = diaTo (dsF fs n) n ⟨0, 0, -1⟩ a) ∧ Hid (allTo (fun a => allB (fun b => decide (0 ≤ valL (dsF fs n a) b)) n) a) ∧ Hid (Led w wr [tBlk w.heap.size 35 #[.slice A n c, .slice A' m d]])) (fun _ _ _ i _ => n - (intOf i).toNat)
    case atStart => exact ⟨0, ⟨0, 0, -1⟩, Nat.zero_le _, rfl, rfl, rfl, rfl, rfl, allTo_zero _, HS⟩
    case round =>
      clear HS
      obtain ⟨a, st, ha, rfl, rfl, rfl, rfl, hst, hall, HS⟩ := hrel
      have q0 := HS.out.cell 0 0 rfl rfl
      by_cases hlt : a < n
      · have q1 := HS.out.cell 0 1 rfl rfl
        have HF2 := hid (HF.out.grow HS.out.bl)
        have hSE := HS.out.empty elInt 3 wr.heap.size rfl w.heap.size HS.out.bl.size
        go_wp2_with fail
        refine (l5Distances_any (l := []) a _ (HF.out.grow hSE.bl) (Sees.nil elInt _ 0 _) (by decide) HE.out HL5.out hlt hn8 hm14).mono ?_
        rintro e w2 ⟨v, rfl, ho, hb2⟩
        obtain ⟨g2, c2, rfl⟩ := ho.splitg distL_len (show 0 < n by omega)
        have hdl : Hid ((dsF fs n a).length = n) := distL_len
        have ho : Owns elInt w2 _ 3 (.slice (some ⟨g2, 0, none⟩) n c2) (dsF fs n a) := ho
        have hS2 := hSE.owns hb2 ho
        obtain ⟨LL, hLL⟩ : ∃ LL, LL = [tOwns elInt w.heap.size 3 (.slice (some ⟨wr.heap.size, 0, none⟩) 0 0) [], tBlk w.heap.size 35 #[.slice A n c, .slice A' m d]] := ⟨_, rfl⟩
        rw [← hLL] at hS2
        have HLL := hid hLL
        obtain ⟨bb, hbb⟩ : ∃ bb, Led w w2 (tOwns elInt bb 3 (.slice (some ⟨g2, 0, none⟩) n c2) (dsF fs n a) :: LL) := ⟨_, hS2⟩
        have HS2 := hid hbb
        clear hS2 hbb ho hb2 q0 q1 HS HF2 hLL hSE
        go_wp2_with fail
        go_loopw [6, 7, 8, 11] (fun sx sy sm i wr => ∃ (b : Nat) (st2 : Dia), b ≤ n ∧ i = .int .i64 b ∧ sx = .int .i64 st2.x ∧ sy = .int .i64 st2.y ∧ sm = .int .i64 st2.m ∧ Hid (st2 = diaRow (dsF fs n a) a st b) ∧ Hid (allTo (fun b => decide (0 ≤ valL (dsF fs n a) b)) b) ∧ Hid (Led w wr (tOwns elInt bb 3 (.slice (some ⟨g2, 0, none⟩) n c2) (dsF fs n a) :: LL))) (fun _ _ _ i _ => n - (intOf i).toNat)
        case atStart => exact ⟨0, st, Nat.zero_le _, rfl, rfl, rfl, rfl, rfl, allTo_zero _, HS2⟩
        case round =>
          clear HS2
          obtain ⟨b, st2, hb, rfl, rfl, rfl, rfl, hst2, hin, HS⟩ := hrel
          by_cases hlt2 : b < n
          · have v0 := HS.out.int_at 0 rfl (j := b) (by rw [hdl.out]; exact hlt2)
            have ib : (b : Int) < (n : Int) := by omega
            obtain ⟨dd, hdd⟩ : ∃ dd, valL (dsF fs n a) b = dd := ⟨_, rfl⟩
            rw [hdd] at v0
            have HDD := hid hdd
            clear hdd
            by_cases hneg : dd < 0
            · have gn := decide_eq_true hneg
              have HA : Hid (allD (dsF fs n) n = false) := allD_no hlt hlt2 (by rw [HDD.out]; exact hneg)
              have HB2 : Hid (diaB xs fs = false) := by rw [← HA.out]; exact HB.out
              have HV2 : Hid (diaV xs fs = ⟨0, 0, 0⟩) := by unfold Hid; rw [HV.out, HA.out]; rfl
              clear HV HB HA
              go_wp2
              (try simp only [Exit.inBlock, Exit.then]); refine bodyPost_ret (results_tmp4 rfl _ _ _) rfl ?_
              exact ⟨by rw [HV2.out, HB2.out]; rfl, HS.out.bl⟩
            · have gn := decide_eq_false hneg
              have HI : Hid (allTo (fun b => decide (0 ≤ valL (dsF fs n a) b)) (b + 1)) := allTo_succ hin.out (by simp only [HDD.out]; exact decide_eq_true (by omega))
              have HN : Hid (diaRow (dsF fs n a) a st (b + 1) = diaStep a b dd st2) := by show diaStep a b (valL (dsF fs n a) b) (diaRow (dsF fs n a) a st b) = _; rw [HDD.out, ← hst2.out]
              clear hin hst2
              by_cases h1 : a < b
              · have h1d : decide ((a : Int) < (b : Int)) = true := decide_eq_true (by omega)
                by_cases h2 : st2.m < dd
                · have h2d : decide (st2.m < dd) = true := decide_eq_true h2
                  have HR : Hid (diaRow (dsF fs n a) a st (b + 1) = ⟨a, b, dd⟩) := by unfold Hid; rw [HN.out]; exact if_pos ⟨h1, h2⟩
                  go_wp2
                  refine ⟨?_, by simp [intOf]; omega⟩
                  first
                    | exact ⟨b + 1, ⟨a, b, dd⟩, by omega, by go_num, rfl, rfl, rfl, HR.out.symm, HI, HS⟩
                    | ((repeat apply Exists.intro); exact ⟨⟨b + 1, ⟨a, b, dd⟩, by omega, by go_num, rfl, rfl, rfl, HR.out.symm, HI, HS⟩, rfl⟩)
                · have h2d : decide (st2.m < dd) = false := decide_eq_false h2
                  have HR : Hid (diaRow (dsF fs n a) a st (b + 1) = st2) := by unfold Hid; rw [HN.out]; exact if_neg (fun h => h2 h.2)
                  go_wp2
                  refine ⟨?_, by simp [intOf]; omega⟩
                  first
                    | exact ⟨b + 1, st2, by omega, by go_num, rfl, rfl, rfl, HR.out.symm, HI, HS⟩
                    | ((repeat apply Exists.intro); exact ⟨⟨b + 1, st2, by omega, by go_num, rfl, rfl, rfl, HR.out.symm, HI, HS⟩, rfl⟩)
              · have h1d : decide ((a : Int) < (b : Int)) = false := decide_eq_false (by omega)
                have HR : Hid (diaRow (dsF fs n a) a st (b + 1) = st2) := by unfold Hid; rw [HN.out]; exact if_neg (fun h => h1 h.1)
                go_wp2
                refine ⟨?_, by simp [intOf]; omega⟩
                first
                  | exact ⟨b + 1, st2, by omega, by go_num, rfl, rfl, rfl, HR.out.symm, HI, HS⟩
                  | ((repeat apply Exists.intro); exact ⟨⟨b + 1, st2, by omega, by go_num, rfl, rfl, rfl, HR.out.symm, HI, HS⟩, rfl⟩)
          · have hbn : b = n := by omega
            have HR : Hid (diaTo (dsF fs n) n ⟨0, 0, -1⟩ (a + 1) = st2) := by
              show diaRow (dsF fs n a) a (diaTo (dsF fs n) n ⟨0, 0, -1⟩ a) n = _
              rw [← hst.out, hst2.out, hbn]
            have HI : Hid (allTo (fun a => allB (fun b => decide (0 ≤ valL (dsF fs n a) b)) n) (a + 1)) := allTo_succ hall.out (allB_yes hin.out hbn)
            have HS3 : Hid (Led w wr [tBlk w.heap.size 35 #[.slice A n c, .slice A' m d]]) := by have h1 := HS.out.drop 2; rw [HLL.out] at h1; exact h1
            clear hbn hst hst2 hall hin HS
            go_wp2
            refine ⟨?_, by simp [intOf]; omega⟩
            first
              | exact ⟨a + 1, st2, by omega, by go_num, rfl, rfl, rfl, HR.out.symm, HI, HS3⟩
              | ((repeat apply Exists.intro); exact ⟨⟨a + 1, st2, by omega, by go_num, rfl, rfl, rfl, HR.out.symm, HI, HS3⟩, rfl⟩)
      · have han : a = n := by omega
        have HA : Hid (allD (dsF fs n) n = true) := allB_yes hall.out han
        have HB2 : Hid (diaB xs fs = true) := by rw [← HA.out]; exact HB.out
        have HV2 : Hid (diaV xs fs = st) := by
          unfold Hid
          rw [HV.out, HA.out, hst.out, han]
          have h0 : decide (0 ≤ valL (dsF fs n 0) 1) = true := allB_iff.1 (allB_iff.1 HA.out 0 (by omega)) 1 (by omega)
          have h1 := (distL_pos (q := goneF []) HE.out (lens5_pos HL5.out) (show 0 < n by omega) (v := 1) (by omega)).2 (by decide)
          have h2 : 0 ≤ valL (dsF fs n 0) 1 := by simpa using h0
          have h3 : 1 ≤ valL (dsF fs n 0) 1 := by
            have e : valL (dsF fs n 0) 1 = valL (distL (goneF []) fs n 0) 1 := rfl
            rw [e] at h2 ⊢
            omega
          obtain ⟨k, hk⟩ : ∃ k, n = k + 1 := ⟨n - 1, by omega⟩
          have h4 := diaTo_two (F := dsF fs n) hn2 h3 k
          rw [← hk] at h4
          exact h4
        clear HV HB HA hst hall han
        go_wp2
        (try simp only [Exit.inBlock, Exit.then]); refine bodyPost_ret (results_tmp4 rfl _ _ _) rfl ?_
        exact ⟨by rw [HV2.out, HB2.out]; rfl, HS.out.bl⟩
end
end Go.Proofs.Ytjklphlgmlomjaa
