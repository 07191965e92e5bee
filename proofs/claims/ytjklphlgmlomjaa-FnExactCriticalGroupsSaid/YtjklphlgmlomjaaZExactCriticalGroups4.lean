/- Lemmas and walks that the claim rests on, laid together. Conditions: none. -/
import Derived.Test.YtjklphlgmlomjaaZExactCriticalGroups3
import Derived.Deep.RegionHeld3
import Derived.Test.YtjklphlgmlomjaaRows
import Derived.Test.YtjklphlgmlomjaaZExactCriticalGroups0
import Derived.Test.YtjklphlgmlomjaaZExactCriticalGroups2
/- separates, l6Splits: whether two nodes are parted, walked. Conditions: the fibers' ends are nodes; 2 nodes at least; at most 20 fibers. -/
namespace Go.Proofs.Ytjklphlgmlomjaa
open Go.RowKit
theorem sepP_eq {X Y : List Int} {s : Int} {a b : Nat} : sepP X Y s a b = ((!((a : Int) == s) && !((b : Int) == s)) && ((valL X a == valL X b) && !(valL Y a == valL Y b))) := rfl
section
variable {n c m d k c' : Nat} {A A' G : Option Addr} {xs : List ByteArray} {fs : List Fib} {l : List Int} {s : Int}
set_option maxHeartbeats 4000000 in
set_option maxRecDepth 100000 in
theorem separates_any (s : Int) (w : World) (h : NetIs w A n c A' m d xs fs) (hv : Sees elInt w w.heap.size G k l) (hkb : k ≤ 1048576) (he : endsB n fs) (hn0 : 0 < n) :
    Calls Try.prog 83 #[.agg #[.slice A n c, .slice A' m d], .slice G k c', .int .i64 s] w fun e w' => e = .returned (.bool (sepB n (compL (goneF []) fs n) (compL (goneF l) fs n) s)) ∧ Below w.heap.size w w' := by
  have hS := (Led.nil w).blk_ w.heap.size rfl 35 #[.slice A n c, .slice A' m d]
  obtain ⟨r, hr⟩ : ∃ r, sepB n (compL (goneF []) fs n) (compL (goneF l) fs n) s = r := ⟨_, rfl⟩
  rw [hr]
  have HRR := hid hr
  clear hr
  have HN := hid h
  have HV := hid hv
  have HE := hid he
  have hn := h.nle
  clear h he hv
  go_enter Try.func83, Try.ntmps83
  go_wp2_with fail
  generalize w.alloc (.cells #[.slice A n c, .slice A' m d] 35) = W0 at *
  have C0 : ∀ w', Cls W0 w' → w'.cell? ⟨w.heap.size, 0, none⟩ = some (.slice A n c) := fun _ h => h.cell (hS.cell 0 0 rfl rfl)
  have C1 : ∀ w', Cls W0 w' → w'.cell? ⟨w.heap.size, 1, none⟩ = some (.slice A' m d) := fun _ h => h.cell (hS.cell 0 1 rfl rfl)
  have HL := hid (fun w' (h : Cls W0 w') => hS.step h)
  go_region_held3 (fun w' => Cls W0 w') (first | exact Cls.drew _ | exact Cls.next (by assumption) (by assumption))
    (first
      | (go_at_call_of 79 (Value.slice none 0 0); refine (components_any (l := []) _ (HN.out.grow (HL.out _ (by assumption)).bl) (Sees.nil elInt _ 0 _) (by decide) HE.out hn0).mono ?_; rintro e w' ⟨v1, rfl, ho1, hb1⟩; obtain ⟨g1, c1, rfl⟩ := ho1.splitg compL_len hn0; have hL1 := (HL.out _ (by assumption)).owns hb1 ho1)
      | (go_at_call_of 79 (Value.slice G k c'); refine (components_any _ (HN.out.grow hL1.bl) (HV.out.grow hL1.bl) hkb HE.out hn0).mono ?_; rintro e w' ⟨v2, rfl, ho2, hb2⟩; obtain ⟨g2, c2, rfl⟩ := ho2.splitg compL_len hn0))
  have hL2 := hL1.owns hb2 ho2
  generalize w' = W2 at *
  have hX : Hid ((compL (goneF []) fs n).length = n) := compL_len
  have hY : Hid ((compL (goneF l) fs n).length = n) := compL_len
  generalize compL (goneF []) fs n = X at *
  generalize (compL (goneF l) fs n) = Y at *
  have HS := hid hL2
  clear HL C0 C1 hL1 hL2 hb1 hb2 ho1 ho2 hS
  have q0 := HS.out.cell 2 0 rfl rfl
  go_wp2_with fail
  clear q0
  obtain ⟨L, hL⟩ : ∃ L, Led w W2 L ∧ L[0]? = some (tOwns elInt _ 3 (.slice (some ⟨g2, 0, none⟩) n c2) Y) ∧ L[1]? = some (tOwns elInt _ 3 (.slice (some ⟨g1, 0, none⟩) n c1) X) := ⟨_, HS.out, rfl, rfl⟩
  have HS1 := hid hL.1
  have j0 := hid hL.2.1
  have j1 := hid hL.2.2
  clear hL HS
  go_loopw [19] (fun i wr => ∃ a : Nat, a ≤ n ∧ i = .int .i64 a ∧ Hid (allTo (fun a => allB (fun b => !sepP X Y s a b) a) a) ∧ Hid (Led w wr L)) (fun i _ => n - (intOf i).toNat)
  case atStart => exact ⟨0, Nat.zero_le _, rfl, allTo_zero _, HS1⟩
  case round =>
    clear HS1
    obtain ⟨a, ha, rfl, hall, HS⟩ := hrel
    by_cases hlt : a < n
    · go_wp2_with fail
      go_loopw [23] (fun i wr => ∃ b : Nat, b ≤ a ∧ i = .int .i64 b ∧ Hid (allTo (fun b => !sepP X Y s a b) b) ∧ Hid (Led w wr L)) (fun i _ => a - (intOf i).toNat)
      case atStart => exact ⟨0, Nat.zero_le _, rfl, allTo_zero _, HS⟩
      case round =>
        clear HS
        obtain ⟨b, hb, rfl, hin, HS⟩ := hrel
        by_cases hlt2 : b < a
        · have hbn : b < n := by omega
          have ia : (a : Int) < (n : Int) := by omega
          have ib : (b : Int) < (n : Int) := by omega
          have x0 : ∀ w', Cls wr w' → w'.cell? ⟨g1, a, none⟩ = some (.int .i64 (valL X a)) := fun _ h => h.cell (HS.out.int_at 1 j1.out (j := a) (by rw [hX.out]; omega))
          have x1 : ∀ w', Cls wr w' → w'.cell? ⟨g1, b, none⟩ = some (.int .i64 (valL X b)) := fun _ h => h.cell (HS.out.int_at 1 j1.out (j := b) (by rw [hX.out]; omega))
          have y0 : ∀ w', Cls wr w' → w'.cell? ⟨g2, a, none⟩ = some (.int .i64 (valL Y a)) := fun _ h => h.cell (HS.out.int_at 0 j0.out (j := a) (by rw [hY.out]; omega))
          have y1 : ∀ w', Cls wr w' → w'.cell? ⟨g2, b, none⟩ = some (.int .i64 (valL Y b)) := fun _ h => h.cell (HS.out.int_at 0 j0.out (j := b) (by rw [hY.out]; omega))
          cases ga : ((a : Int) == s)
          · have na : ((a : Int) != s) = true := by rw [bne, ga]; rfl
            cases gb : ((b : Int) == s)
            · have nb : ((b : Int) != s) = true := by rw [bne, gb]; rfl
              cases gx : (valL X a == valL X b)
              · have HP : Hid (sepP X Y s a b = false) := by unfold Hid; rw [sepP_eq, gx]; simp
                go_wp2_with fail
                refine region_cls (by kernel_rfl) (by kernel_rfl) ?_
                repeat (first
                  | ((with_reducible refine quiet_pos ?_ (fun K hK => ?_))
                     · rfl
                     apply Exists.intro
                     refine ⟨fun w' hw' => ?_, ?_⟩
                     · go_simp
                       with_reducible rfl
                     simp only [Act.put, List.setIfInBounds_toArray, List.set_cons_zero, List.set_cons_succ]
                     refine hK _ ?_; clear hK K)
                  | ((with_reducible refine quiet_neg ?_ (fun K hK => ?_))
                     · rfl
                     simp only [Act.put, List.setIfInBounds_toArray, List.set_cons_zero, List.set_cons_succ]
                     refine hK _ ?_; clear hK K))
                with_reducible refine wpQuiet_nil ?_
                intro wz hwz'
                have HS2 := hid (HS.out.step hwz')
                clear HS x0 x1 y0 y1 hwz'
                have HA : Hid (allTo (fun b => !sepP X Y s a b) (b + 1)) := allTo_succ hin.out (by rw [HP.out]; rfl)
                clear HP hin
                go_wp2
                exact ⟨⟨b + 1, by omega, by go_num, HA, HS2⟩, by simp [intOf]; omega⟩
              · cases gy : (valL Y a == valL Y b)
                · have ny : (valL Y a != valL Y b) = true := by rw [bne, gy]; rfl
                  have HP : Hid (sepP X Y s a b = true) := by unfold Hid; rw [sepP_eq, ga, gb, gx, gy]; rfl
                  go_wp2_with fail
                  refine region_cls (by kernel_rfl) (by kernel_rfl) ?_
                  repeat (first
                    | ((with_reducible refine quiet_pos ?_ (fun K hK => ?_))
                       · rfl
                       apply Exists.intro
                       refine ⟨fun w' hw' => ?_, ?_⟩
                       · go_simp
                         with_reducible rfl
                       simp only [Act.put, List.setIfInBounds_toArray, List.set_cons_zero, List.set_cons_succ]
                       refine hK _ ?_; clear hK K)
                    | ((with_reducible refine quiet_neg ?_ (fun K hK => ?_))
                       · rfl
                       simp only [Act.put, List.setIfInBounds_toArray, List.set_cons_zero, List.set_cons_succ]
                       refine hK _ ?_; clear hK K))
                  with_reducible refine wpQuiet_nil ?_
                  intro wz hwz'
                  have HS2 := hid (HS.out.step hwz')
                  clear HS x0 x1 y0 y1 hwz'
                  have HR : Hid (sepB n X Y s = true) := sepB_yes hlt hlt2 HP.out
                  go_wp2
                  go_ret
                  exact ⟨by rw [← HRR.out, HR.out]; rfl, HS2.out.bl⟩
                · have ny : (valL Y a != valL Y b) = false := by rw [bne, gy]; rfl
                  have HP : Hid (sepP X Y s a b = false) := by unfold Hid; rw [sepP_eq, gy]; simp
                  go_wp2_with fail
                  refine region_cls (by kernel_rfl) (by kernel_rfl) ?_
                  repeat (first
                    | ((with_reducible refine quiet_pos ?_ (fun K hK => ?_))
                       · rfl
                       apply Exists.intro
                       refine ⟨fun w' hw' => ?_, ?_⟩
                       · go_simp
                         with_reducible rfl
                       simp only [Act.put, List.setIfInBounds_toArray, List.set_cons_zero, List.set_cons_succ]
                       refine hK _ ?_; clear hK K)
                    | ((with_reducible refine quiet_neg ?_ (fun K hK => ?_))
                       · rfl
                       simp only [Act.put, List.setIfInBounds_toArray, List.set_cons_zero, List.set_cons_succ]
                       refine hK _ ?_; clear hK K))
                  with_reducible refine wpQuiet_nil ?_
                  intro wz hwz'
                  have HS2 := hid (HS.out.step hwz')
                  clear HS x0 x1 y0 y1 hwz'
                  have HA : Hid (allTo (fun b => !sepP X Y s a b) (b + 1)) := allTo_succ hin.out (by rw [HP.out]; rfl)
                  clear HP hin
                  go_wp2
                  exact ⟨⟨b + 1, by omega, by go_num, HA, HS2⟩, by simp [intOf]; omega⟩
            · have nb : ((b : Int) != s) = false := by rw [bne, gb]; rfl
              have HP : Hid (sepP X Y s a b = false) := by unfold Hid; rw [sepP_eq, gb]; simp
              go_wp2_with fail
              refine region_cls (by kernel_rfl) (by kernel_rfl) ?_
              repeat (first
                | ((with_reducible refine quiet_pos ?_ (fun K hK => ?_))
                   · rfl
                   apply Exists.intro
                   refine ⟨fun w' hw' => ?_, ?_⟩
                   · go_simp
                     with_reducible rfl
                   simp only [Act.put, List.setIfInBounds_toArray, List.set_cons_zero, List.set_cons_succ]
                   refine hK _ ?_; clear hK K)
                | ((with_reducible refine quiet_neg ?_ (fun K hK => ?_))
                   · rfl
                   simp only [Act.put, List.setIfInBounds_toArray, List.set_cons_zero, List.set_cons_succ]
                   refine hK _ ?_; clear hK K))
              with_reducible refine wpQuiet_nil ?_
              intro wz hwz'
              have HS2 := hid (HS.out.step hwz')
              clear HS x0 x1 y0 y1 hwz'
              have HA : Hid (allTo (fun b => !sepP X Y s a b) (b + 1)) := allTo_succ hin.out (by rw [HP.out]; rfl)
              clear HP hin
              go_wp2
              exact ⟨⟨b + 1, by omega, by go_num, HA, HS2⟩, by simp [intOf]; omega⟩
          · have na : ((a : Int) != s) = false := by rw [bne, ga]; rfl
            have HP : Hid (sepP X Y s a b = false) := by unfold Hid; rw [sepP_eq, ga]; simp
            go_wp2_with fail
            refine region_cls (by kernel_rfl) (by kernel_rfl) ?_
            repeat (first
              | ((with_reducible refine quiet_pos ?_ (fun K hK => ?_))
                 · rfl
                 apply Exists.intro
                 refine ⟨fun w' hw' => ?_, ?_⟩
                 · go_simp
                   with_reducible rfl
                 simp only [Act.put, List.setIfInBounds_toArray, List.set_cons_zero, List.set_cons_succ]
                 refine hK _ ?_; clear hK K)
              | ((with_reducible refine quiet_neg ?_ (fun K hK => ?_))
                 · rfl
                 simp only [Act.put, List.setIfInBounds_toArray, List.set_cons_zero, List.set_cons_succ]
                 refine hK _ ?_; clear hK K))
            with_reducible refine wpQuiet_nil ?_
            intro wz hwz'
            have HS2 := hid (HS.out.step hwz')
            clear HS x0 x1 y0 y1 hwz'
            have HA : Hid (allTo (fun b => !sepP X Y s a b) (b + 1)) := allTo_succ hin.out (by rw [HP.out]; rfl)
            clear HP hin
            go_wp2
            exact ⟨⟨b + 1, by omega, by go_num, HA, HS2⟩, by simp [intOf]; omega⟩
        · have hba : b = a := by omega
          have HA : Hid (allTo (fun a => allB (fun b => !sepP X Y s a b) a) (a + 1)) := allTo_succ hall.out (allB_yes hin.out hba)
          clear hba hin hall
          go_wp2
          refine ⟨?_, by simp [intOf]; omega⟩
          first
            | exact ⟨a + 1, by omega, by go_num, HA, HS⟩
            | ((repeat apply Exists.intro); exact ⟨⟨a + 1, by omega, by go_num, HA, HS⟩, rfl⟩)
    · have han : a = n := by omega
      have HR : Hid (sepB n X Y s = false) := by unfold Hid sepB; rw [allB_yes hall.out han]; rfl
      clear han hall
      go_wp2
      go_ret
      exact ⟨by rw [← HRR.out, HR.out]; rfl, HS.out.bl⟩
set_option maxHeartbeats 4000000 in
set_option maxRecDepth 100000 in
theorem l6Splits_any (M : Nat) (s : Int) (w : World) (h : NetIs w A n c A' m d xs fs) (hM : M < 2 ^ 20) (he : endsB n fs) (hn0 : 0 < n) (hm20 : m ≤ 20) :
    Calls Try.prog 81 #[.agg #[.slice A n c, .slice A' m d], .int .i64 (M : Int), .int .i64 s] w fun e w' => e = .returned (.bool (sepB n (compL (goneF []) fs n) (compL (fun i => M.testBit i) fs n) s)) ∧ Below w.heap.size w w' := by
  have hS := (Led.nil w).blk_ w.heap.size rfl 35 #[.slice A n c, .slice A' m d]
  obtain ⟨r, hr⟩ : ∃ r, sepB n (compL (goneF []) fs n) (compL (fun i => M.testBit i) fs n) s = r := ⟨_, rfl⟩
  rw [hr]
  have HRR := hid hr
  clear hr
  have HN := hid h
  have HE := hid he
  have hn := h.nle
  have HM := hid hM
  have HZ0 : Hid (compL (fun i => (0 : Nat).testBit i) fs n = compL (goneF []) fs n) := compL_congr fun j _ => by rw [Nat.zero_testBit]; exact (Bool.eq_false_iff.2 (fun h => by have h1 := hasB_iff.1 h; cases h1)).symm
  clear hM
  clear h he
  go_enter Try.func81, Try.ntmps81
  go_wp2_with fail
  generalize w.alloc (.cells #[.slice A n c, .slice A' m d] 35) = W0 at *
  have C0 : ∀ w', Cls W0 w' → w'.cell? ⟨w.heap.size, 0, none⟩ = some (.slice A n c) := fun _ h => h.cell (hS.cell 0 0 rfl rfl)
  have C1 : ∀ w', Cls W0 w' → w'.cell? ⟨w.heap.size, 1, none⟩ = some (.slice A' m d) := fun _ h => h.cell (hS.cell 0 1 rfl rfl)
  have HL := hid (fun w' (h : Cls W0 w') => hS.step h)
  go_region_held3 (fun w' => Cls W0 w') (first | exact Cls.drew _ | exact Cls.next (by assumption) (by assumption))
    (first
      | (go_at_call_of 77 (Value.int .i64 0); refine (labels_any 0 _ (HN.out.grow (HL.out _ (by assumption)).bl) (by decide) HE.out hn0 hm20).mono ?_; rintro e w' ⟨v1, rfl, ho1, hb1⟩; rw [HZ0.out] at ho1; obtain ⟨g1, c1, rfl⟩ := ho1.splitg compL_len hn0; have hL1 := (HL.out _ (by assumption)).owns hb1 ho1)
      | (go_at_call_of 77 (Value.int .i64 (M : Int)); refine (labels_any M _ (HN.out.grow hL1.bl) HM.out HE.out hn0 hm20).mono ?_; rintro e w' ⟨v2, rfl, ho2, hb2⟩; obtain ⟨g2, c2, rfl⟩ := ho2.splitg compL_len hn0))
  have hL2 := hL1.owns hb2 ho2
  generalize w' = W2 at *
  have hX : Hid ((compL (goneF []) fs n).length = n) := compL_len
  have hY : Hid ((compL (fun i => M.testBit i) fs n).length = n) := compL_len
  generalize compL (goneF []) fs n = X at *
  generalize (compL (fun i => M.testBit i) fs n) = Y at *
  have HS := hid hL2
  clear HL C0 C1 hL1 hL2 hb1 hb2 ho1 ho2 hS
  go_wp2_with fail
  obtain ⟨L, hL⟩ : ∃ L, Led w W2 L ∧ L[0]? = some (tOwns elInt _ 3 (.slice (some ⟨g2, 0, none⟩) n c2) Y) ∧ L[1]? = some (tOwns elInt _ 3 (.slice (some ⟨g1, 0, none⟩) n c1) X) := ⟨_, HS.out, rfl, rfl⟩
  have HS1 := hid hL.1
  have j0 := hid hL.2.1
  have j1 := hid hL.2.2
  clear hL HS
  go_loopw [9] (fun i wr => ∃ a : Nat, a ≤ n ∧ i = .int .i64 a ∧ Hid (allTo (fun a => allB (fun i => !sepP X Y s a (a + 1 + i)) (n - (a + 1))) a) ∧ Hid (Led w wr L)) (fun i _ => n - (intOf i).toNat)
  case atStart => exact ⟨0, Nat.zero_le _, rfl, allTo_zero _, HS1⟩
  case round =>
    clear HS1
    obtain ⟨a, ha, rfl, hall, HS⟩ := hrel
    by_cases hlt : a < n
    · go_wp2_with fail
      go_loopw [10] (fun i wr => ∃ j : Nat, j ≤ n - (a + 1) ∧ i = .int .i64 ((a + 1 + j : Nat) : Int) ∧ Hid (allTo (fun i => !sepP X Y s a (a + 1 + i)) j) ∧ Hid (Led w wr L)) (fun i _ => n - (intOf i).toNat)
      case atStart => exact ⟨0, Nat.zero_le _, by go_num, allTo_zero _, HS⟩
      case round =>
        clear HS
        obtain ⟨j, hj, rfl, hin, HS⟩ := hrel
        by_cases hlt2 : j < n - (a + 1)
        · obtain ⟨b, hbe⟩ : ∃ b, b = a + 1 + j := ⟨_, rfl⟩
          rw [← hbe]
          have HBE := hid hbe
          have hbn : b < n := by omega
          have hab : a < b := by omega
          clear hbe
          have ia : (a : Int) < (n : Int) := by omega
          have ib : (b : Int) < (n : Int) := by omega
          have x0 : ∀ w', Cls wr w' → w'.cell? ⟨g1, a, none⟩ = some (.int .i64 (valL X a)) := fun _ h => h.cell (HS.out.int_at 1 j1.out (j := a) (by rw [hX.out]; omega))
          have x1 : ∀ w', Cls wr w' → w'.cell? ⟨g1, b, none⟩ = some (.int .i64 (valL X b)) := fun _ h => h.cell (HS.out.int_at 1 j1.out (j := b) (by rw [hX.out]; omega))
          have y0 : ∀ w', Cls wr w' → w'.cell? ⟨g2, a, none⟩ = some (.int .i64 (valL Y a)) := fun _ h => h.cell (HS.out.int_at 0 j0.out (j := a) (by rw [hY.out]; omega))
          have y1 : ∀ w', Cls wr w' → w'.cell? ⟨g2, b, none⟩ = some (.int .i64 (valL Y b)) := fun _ h => h.cell (HS.out.int_at 0 j0.out (j := b) (by rw [hY.out]; omega))
          cases ga : ((a : Int) == s)
          · have na : ((a : Int) != s) = true := by rw [bne, ga]; rfl
            cases gb : ((b : Int) == s)
            · have nb : ((b : Int) != s) = true := by rw [bne, gb]; rfl
              cases gx : (valL X a == valL X b)
              · have HP : Hid (sepP X Y s a b = false) := by unfold Hid; rw [sepP_eq, gx]; simp
                go_wp2_with fail
                refine region_cls (by kernel_rfl) (by kernel_rfl) ?_
                repeat (first
                  | ((with_reducible refine quiet_pos ?_ (fun K hK => ?_))
                     · rfl
                     apply Exists.intro
                     refine ⟨fun w' hw' => ?_, ?_⟩
                     · go_simp
                       with_reducible rfl
                     simp only [Act.put, List.setIfInBounds_toArray, List.set_cons_zero, List.set_cons_succ]
                     refine hK _ ?_; clear hK K)
                  | ((with_reducible refine quiet_neg ?_ (fun K hK => ?_))
                     · rfl
                     simp only [Act.put, List.setIfInBounds_toArray, List.set_cons_zero, List.set_cons_succ]
                     refine hK _ ?_; clear hK K))
                with_reducible refine wpQuiet_nil ?_
                intro wz hwz'
                have HS2 := hid (HS.out.step hwz')
                clear HS x0 x1 y0 y1 hwz'
                have HA : Hid (allTo (fun i => !sepP X Y s a (a + 1 + i)) (j + 1)) := allTo_succ hin.out (by rw [← HBE.out, HP.out]; rfl)
                clear HP hin
                go_wp2
                have HB := HBE.out
                exact ⟨⟨j + 1, by omega, by go_num, HA, HS2⟩, by simp [intOf]; omega⟩
              · cases gy : (valL Y a == valL Y b)
                · have ny : (valL Y a != valL Y b) = true := by rw [bne, gy]; rfl
                  have HP : Hid (sepP X Y s a b = true) := by unfold Hid; rw [sepP_eq, ga, gb, gx, gy]; rfl
                  go_wp2_with fail
                  refine region_cls (by kernel_rfl) (by kernel_rfl) ?_
                  repeat (first
                    | ((with_reducible refine quiet_pos ?_ (fun K hK => ?_))
                       · rfl
                       apply Exists.intro
                       refine ⟨fun w' hw' => ?_, ?_⟩
                       · go_simp
                         with_reducible rfl
                       simp only [Act.put, List.setIfInBounds_toArray, List.set_cons_zero, List.set_cons_succ]
                       refine hK _ ?_; clear hK K)
                    | ((with_reducible refine quiet_neg ?_ (fun K hK => ?_))
                       · rfl
                       simp only [Act.put, List.setIfInBounds_toArray, List.set_cons_zero, List.set_cons_succ]
                       refine hK _ ?_; clear hK K))
                  with_reducible refine wpQuiet_nil ?_
                  intro wz hwz'
                  have HS2 := hid (HS.out.step hwz')
                  clear HS x0 x1 y0 y1 hwz'
                  have HR : Hid (sepB n X Y s = true) := by unfold Hid; rw [← splB_eq]; exact splB_yes hbn hab HP.out
                  go_wp2
                  go_ret
                  exact ⟨by rw [← HRR.out, HR.out]; rfl, HS2.out.bl⟩
                · have ny : (valL Y a != valL Y b) = false := by rw [bne, gy]; rfl
                  have HP : Hid (sepP X Y s a b = false) := by unfold Hid; rw [sepP_eq, gy]; simp
                  go_wp2_with fail
                  refine region_cls (by kernel_rfl) (by kernel_rfl) ?_
                  repeat (first
                    | ((with_reducible refine quiet_pos ?_ (fun K hK => ?_))
                       · rfl
                       apply Exists.intro
                       refine ⟨fun w' hw' => ?_, ?_⟩
                       · go_simp
                         with_reducible rfl
                       simp only [Act.put, List.setIfInBounds_toArray, List.set_cons_zero, List.set_cons_succ]
                       refine hK _ ?_; clear hK K)
                    | ((with_reducible refine quiet_neg ?_ (fun K hK => ?_))
                       · rfl
                       simp only [Act.put, List.setIfInBounds_toArray, List.set_cons_zero, List.set_cons_succ]
                       refine hK _ ?_; clear hK K))
                  with_reducible refine wpQuiet_nil ?_
                  intro wz hwz'
                  have HS2 := hid (HS.out.step hwz')
                  clear HS x0 x1 y0 y1 hwz'
                  have HA : Hid (allTo (fun i => !sepP X Y s a (a + 1 + i)) (j + 1)) := allTo_succ hin.out (by rw [← HBE.out, HP.out]; rfl)
                  clear HP hin
                  go_wp2
                  have HB := HBE.out
                  exact ⟨⟨j + 1, by omega, by go_num, HA, HS2⟩, by simp [intOf]; omega⟩
            · have nb : ((b : Int) != s) = false := by rw [bne, gb]; rfl
              have HP : Hid (sepP X Y s a b = false) := by unfold Hid; rw [sepP_eq, gb]; simp
              go_wp2_with fail
              refine region_cls (by kernel_rfl) (by kernel_rfl) ?_
              repeat (first
                | ((with_reducible refine quiet_pos ?_ (fun K hK => ?_))
                   · rfl
                   apply Exists.intro
                   refine ⟨fun w' hw' => ?_, ?_⟩
                   · go_simp
                     with_reducible rfl
                   simp only [Act.put, List.setIfInBounds_toArray, List.set_cons_zero, List.set_cons_succ]
                   refine hK _ ?_; clear hK K)
                | ((with_reducible refine quiet_neg ?_ (fun K hK => ?_))
                   · rfl
                   simp only [Act.put, List.setIfInBounds_toArray, List.set_cons_zero, List.set_cons_succ]
                   refine hK _ ?_; clear hK K))
              with_reducible refine wpQuiet_nil ?_
              intro wz hwz'
              have HS2 := hid (HS.out.step hwz')
              clear HS x0 x1 y0 y1 hwz'
              have HA : Hid (allTo (fun i => !sepP X Y s a (a + 1 + i)) (j + 1)) := allTo_succ hin.out (by rw [← HBE.out, HP.out]; rfl)
              clear HP hin
              go_wp2
              have HB := HBE.out
              exact ⟨⟨j + 1, by omega, by go_num, HA, HS2⟩, by simp [intOf]; omega⟩
          · have na : ((a : Int) != s) = false := by rw [bne, ga]; rfl
            have HP : Hid (sepP X Y s a b = false) := by unfold Hid; rw [sepP_eq, ga]; simp
            go_wp2_with fail
            refine region_cls (by kernel_rfl) (by kernel_rfl) ?_
            repeat (first
              | ((with_reducible refine quiet_pos ?_ (fun K hK => ?_))
                 · rfl
                 apply Exists.intro
                 refine ⟨fun w' hw' => ?_, ?_⟩
                 · go_simp
                   with_reducible rfl
                 simp only [Act.put, List.setIfInBounds_toArray, List.set_cons_zero, List.set_cons_succ]
                 refine hK _ ?_; clear hK K)
              | ((with_reducible refine quiet_neg ?_ (fun K hK => ?_))
                 · rfl
                 simp only [Act.put, List.setIfInBounds_toArray, List.set_cons_zero, List.set_cons_succ]
                 refine hK _ ?_; clear hK K))
            with_reducible refine wpQuiet_nil ?_
            intro wz hwz'
            have HS2 := hid (HS.out.step hwz')
            clear HS x0 x1 y0 y1 hwz'
            have HA : Hid (allTo (fun i => !sepP X Y s a (a + 1 + i)) (j + 1)) := allTo_succ hin.out (by rw [← HBE.out, HP.out]; rfl)
            clear HP hin
            go_wp2
            have HB := HBE.out
            exact ⟨⟨j + 1, by omega, by go_num, HA, HS2⟩, by simp [intOf]; omega⟩
        · have hja : j = n - (a + 1) := by omega
          have HA : Hid (allTo (fun a => allB (fun i => !sepP X Y s a (a + 1 + i)) (n - (a + 1))) (a + 1)) := allTo_succ hall.out (allB_yes hin.out hja)
          have inb : ¬ (((a + 1 + j : Nat) : Int) < (n : Int)) := by omega
          clear hin hall
          go_wp2
          refine ⟨?_, by simp [intOf]; omega⟩
          first
            | exact ⟨a + 1, by omega, by go_num, HA, HS⟩
            | ((repeat apply Exists.intro); exact ⟨⟨a + 1, by omega, by go_num, HA, HS⟩, rfl⟩)
    · have han : a = n := by omega
      have HR : Hid (sepB n X Y s = false) := by unfold Hid; rw [← splB_eq]; unfold splB; rw [allB_yes hall.out han]; rfl
      clear han hall
      go_wp2
      go_ret
      exact ⟨by rw [← HRR.out, HR.out]; rfl, HS.out.bl⟩
end
end Go.Proofs.Ytjklphlgmlomjaa
/- CutNodes of both sides, walked. Conditions: none. -/
namespace Go.Proofs.Ytjklphlgmlomjaa
open Go.RowKit
theorem calls_bool {P : Program} {f : FuncId} {args : Array Value} {w : World} {b b' : Bool} (h : Calls P f args w fun e w' => e = .returned (.bool b) ∧ Below w.heap.size w w') (e : b = b') : Calls P f args w fun e w' => e = .returned (.bool b') ∧ Below w.heap.size w w' := by subst e; exact h
/-- What walks of these chapters ask of a network. -/
theorem good_parts {n c m d : Nat} {A A' : Option Addr} {xs : List ByteArray} {fs : List Fib} {w : World} (h : NetIs w A n c A' m d xs fs) (g : goodB xs fs = true) : endsB n fs ∧ 0 < n ∧ n ≤ 8 ∧ m ≤ 14 := by
  have he := goodB_ends g
  rw [h.xlen] at he
  have h1 := goodB_bd g
  have h2 := h.xlen
  have h3 := h.flen
  exact ⟨he, by omega, by omega, by omega⟩
theorem idsTo_range {p : Nat → Bool} {k : Nat} : ∀ x ∈ idsTo p k, 0 ≤ x ∧ x < k := fun x hx => by
  unfold idsTo at hx
  obtain ⟨j, hj, rfl⟩ := List.mem_map.1 hx
  have := (List.mem_filter.1 hj).1
  simp at this; omega
theorem maskN_comp {n : Nat} {fs : List Fib} {l : List Int} (h : ∀ x ∈ l, 0 ≤ x) : compL (fun i => (maskN l).testBit i) fs n = compL (goneF l) fs n := compL_congr fun i _ => maskN_bit h i
section
variable {n c m d : Nat} {A A' : Option Addr} {xs : List ByteArray} {fs : List Fib}
set_option maxHeartbeats 2000000 in
set_option maxRecDepth 100000 in
theorem implCutNodes (w : World) (h : NetIs w A n c A' m d xs fs) :
    Calls Try.prog 36 #[.agg #[.slice A n c, .slice A' m d]] w fun e w' => ∃ v, e = .returned (.tuple #[v, .bool (goodB xs fs)]) ∧ Owns elInt w' w.heap.size 3 v (cnL xs fs) ∧ Below w.heap.size w w' := by
  have hS := (Led.nil w).blk_ w.heap.size rfl 35 #[.slice A n c, .slice A' m d]
  cases g : goodB xs fs
  · have H : Hid (cnL xs fs = []) := by unfold Hid cnL; rw [g]; rfl
    go_enter Try.func36, Try.ntmps36
    go_wp2_with fail
    refine (validN _ (h.grow hS.bl)).mono ?_
    rintro e w1 ⟨rfl, hb⟩
    rw [g]
    go_wp2_with fail
    go_ret2
    exact ⟨_, rfl, by rw [H.out]; exact World.ownsRow_nil _ _ _ _, bl_then hS.bl hb⟩
  · have H : Hid (cnL xs fs = idsTo (cnF fs n) n) := by unfold Hid cnL; rw [g, h.xlen]; rfl
    obtain ⟨he, hn0, hn8, hm14⟩ := good_parts h g
    have HE := hid he
    have HLF := hid h.flen
    obtain ⟨i0, hi, hz0, hz1, hz2⟩ := info_parts int_info
    go_enter Try.func36, Try.ntmps36
    go_wp2_with fail
    refine (validN _ (h.grow hS.bl)).mono ?_
    rintro e w1 ⟨rfl, hb⟩
    rw [g]
    replace hS := (hS.step hb).empty elInt 3 w1.heap.size rfl w.heap.size (hS.step hb).bl.size
    rw [← idsTo_zero (cnF fs n)] at hS
    have HS := hid hS
    have q1 := HS.out.cell 1 0 rfl rfl
    have HF := hid h
    clear hS hb h he
    go_wp2_with fail
    clear q1
    go_loopw [4, 13] (fun v i wr => ∃ k : Nat, k ≤ n ∧ i = .int .i64 k ∧ Hid (Led w wr [tOwns elInt w.heap.size 3 v (idsTo (cnF fs n) k), tBlk w.heap.size 35 #[.slice A n c, .slice A' m d]])) (fun _ i _ => n - (intOf i).toNat)
    case atStart => exact ⟨0, Nat.zero_le _, rfl, HS⟩
    case round =>
      clear HS
      obtain ⟨k, hk, rfl, HS⟩ := hrel
      by_cases hlt : k < n
      · have hll := idsTo_len (cnF fs n) k
        have C0 : ∀ w', Cls wr w' → w'.cell? ⟨w.heap.size, 0, none⟩ = some (.slice A n c) := fun _ h => h.cell (HS.out.cell 1 0 rfl rfl)
        have C1 : ∀ w', Cls wr w' → w'.cell? ⟨w.heap.size, 1, none⟩ = some (.slice A' m d) := fun _ h => h.cell (HS.out.cell 1 1 rfl rfl)
        have HL := hid (fun w' (h : Cls wr w') => HS.out.step h)
        obtain ⟨r, hr⟩ : ∃ r, cnF fs n k = r := ⟨_, rfl⟩
        have HP : Hid (sepB n (compL (goneF []) fs n) (compL (goneF (idsTo (touchesF fs (k : Int)) m)) fs n) (k : Int) = r) := by rw [← hr]; unfold cnF; rw [HLF.out]; rfl
        have HR := hid hr
        have hil := idsTo_len (touchesF fs (k : Int)) m
        clear hr
        go_wp2_with fail
        go_region_held3 (fun w' => Cls wr w') (first | exact Cls.refl _ | exact Cls.drew _ | exact Cls.next (by assumption) (by assumption))
          (first
            | (go_at_call 84; refine (fibersAt_any (k : Int) _ (HF.out.grow (HL.out _ (by assumption)).bl)).mono ?_; rintro e w' ⟨v1, rfl, ho1, hb1⟩; obtain ⟨A1, c1, rfl, _⟩ := ho1.form; have hL1 := (HL.out _ (by assumption)).owns hb1 ho1)
            | (go_at_call 83; refine (calls_bool (separates_any (k : Int) _ (HF.out.grow hL1.bl) (hL1.seesI 0 rfl) (by omega) HE.out hn0) HP.out).mono ?_; rintro e w' ⟨rfl, hb2⟩))
        have hL2 := hL1.step hb2
        clear HL C0 C1 hL1 hb1 hb2 ho1 HS
        generalize w' = W2 at *
        cases r
        · have HN : Hid (idsTo (cnF fs n) (k + 1) = idsTo (cnF fs n) k) := idsTo_no HR.out
          have hS6 := hid (hL2.drop 1)
          clear hL2 HP
          go_wp2
          exact ⟨⟨k + 1, by omega, by go_num, by rw [HN.out]; exact hS6⟩, by simp [intOf]; omega⟩
        · have HN : Hid (idsTo (cnF fs n) (k + 1) = idsTo (cnF fs n) k ++ [(k : Int)]) := idsTo_yes HR.out
          obtain ⟨A3, c3, rfl, _⟩ := hL2.form 1 rfl
          have HS2 := hid (hL2.blk_ W2.heap.size rfl 3 #[.int .i64 k])
          clear hL2 HP
          go_wp2_with (first
            | (at_builtin; refine wpList_append_led rfl _ _ 26 rfl HS2.out 2 rfl Try.underlying26 hi hz0 hz1 (by rw [hz2]; decide) rfl rfl rfl (show Sees elInt _ _ _ 1 [(k : Int)] from sees_new elInt _ _ _ _ rfl) (by omega) HS2.out.bl.size ?_)
            | go_in)
          intro A2 c2 w7 hS5
          have hS6 := hid (hS5.drop 2)
          clear HS2 hS5
          go_wp2
          go_roundw
          case rel => exact ⟨k + 1, by omega, by go_num, by rw [HN.out]; exact hS6⟩
          case measure => simp [intOf]; omega
      · have hkm : k = n := by omega
        subst hkm
        clear hlt
        go_wp2
        go_ret2
        exact ⟨_, rfl, by rw [H.out]; exact HS.out.own 0 rfl, HS.out.bl⟩
set_option maxHeartbeats 2000000 in
set_option maxRecDepth 100000 in
theorem specCutNodes (w : World) (h : NetIs w A n c A' m d xs fs) :
    Calls Try.prog 35 #[.agg #[.slice A n c, .slice A' m d]] w fun e w' => ∃ v, e = .returned (.tuple #[v, .bool (goodB xs fs)]) ∧ Owns elInt w' w.heap.size 3 v (cnL xs fs) ∧ Below w.heap.size w w' := by
  have hS := ((Led.nil w).blk_ w.heap.size rfl 35 #[.slice A n c, .slice A' m d]).empty elInt 3 (w.heap.size + 1) (by simp) w.heap.size (by omega)
  cases g : goodB xs fs
  · have H : Hid (cnL xs fs = []) := by unfold Hid cnL; rw [g]; rfl
    go_enter Try.func35, Try.ntmps35
    go_wp2_with fail
    refine (goodN _ (h.grow hS.bl)).mono ?_
    rintro e w1 ⟨rfl, hb⟩
    rw [g]
    replace hS := hS.step hb
    go_wp2_with fail
    go_ret2
    exact ⟨_, rfl, by rw [H.out]; exact hS.own 0 rfl, hS.bl⟩
  · have H : Hid (cnL xs fs = idsTo (cnF fs n) n) := by unfold Hid cnL; rw [g, h.xlen]; rfl
    obtain ⟨he, hn0, hn8, hm14⟩ := good_parts h g
    have HE := hid he
    have HLF := hid h.flen
    have HLX := hid h.xlen
    have HG := hid g
    obtain ⟨i0, hi, hz0, hz1, hz2⟩ := info_parts int_info
    go_enter Try.func35, Try.ntmps35
    go_wp2_with fail
    refine (goodN _ (h.grow hS.bl)).mono ?_
    rintro e w1 ⟨rfl, hb⟩
    rw [g]
    replace hS := hS.step hb
    have HS : Hid (Led w w1 [tOwns elInt w.heap.size 3 (.slice (some ⟨w.heap.size + 1, 0, none⟩) 0 0) (idsTo (cnF fs n) 0), tBlk w.heap.size 35 #[.slice A n c, .slice A' m d]]) := hS
    have HF := hid h
    clear hS hb h he
    go_wp2_with fail
    go_loopw [4, 5] (fun v i wr => ∃ k : Nat, k ≤ n ∧ i = .int .i64 k ∧ Hid (Led w wr [tOwns elInt w.heap.size 3 v (idsTo (cnF fs n) k), tBlk w.heap.size 35 #[.slice A n c, .slice A' m d]])) (fun _ i _ => n - (intOf i).toNat)
    case atStart => exact ⟨0, Nat.zero_le _, rfl, HS⟩
    case round =>
      clear HS
      obtain ⟨k, hk, rfl, HS⟩ := hrel
      have q0 := HS.out.cell 1 0 rfl rfl
      by_cases hlt : k < n
      · have hll := idsTo_len (cnF fs n) k
        have q1 := HS.out.cell 1 1 rfl rfl
        obtain ⟨r, hr⟩ : ∃ r, cnF fs n k = r := ⟨_, rfl⟩
        have hfa : Hid (faB xs fs (k : Int) = true) := by unfold Hid faB; rw [HG.out]; unfold inB; rw [HLX.out]; simp; omega
        have hfi : Hid (faI xs fs (k : Int) = idsTo (touchesF fs (k : Int)) m) := by unfold Hid faI; rw [hfa.out, HLF.out]; rfl
        have hmem : ∀ x ∈ idsTo (touchesF fs (k : Int)) m, 0 ≤ x ∧ x < 20 := fun x hx => by have := idsTo_range x hx; omega
        have HP : Hid (sepB n (compL (goneF []) fs n) (compL (fun i => (maskN (idsTo (touchesF fs (k : Int)) m)).testBit i) fs n) (k : Int) = r) := by
          rw [← hr, maskN_comp (fun x hx => (hmem x hx).1)]; unfold cnF; rw [HLF.out]; rfl
        have HR := hid hr
        have hil := idsTo_len (touchesF fs (k : Int)) m
        have HMM := hid hmem
        have HMB : Hid (maskN (idsTo (touchesF fs (k : Int)) m) < 2 ^ 20) := maskTo_lt hmem _ (Nat.le_refl _)
        clear hr hmem
        go_wp2_with fail
        refine (specFibersAt (k : Int) _ (HF.out.grow HS.out.bl)).mono ?_
        rintro e w3 ⟨v3, rfl, ho3, hb3⟩
        rw [hfi.out] at ho3
        obtain ⟨A3, c3, rfl, _⟩ := ho3.form
        have hS1 := HS.out.owns hb3 ho3
        clear ho3 hb3 q0 q1 HS
        generalize hII : idsTo (touchesF fs (k : Int)) m = I at *
        have C0 : ∀ w', Cls w3 w' → w'.cell? ⟨w.heap.size, 0, none⟩ = some (.slice A n c) := fun _ h => h.cell (hS1.cell 2 0 rfl rfl)
        have C1 : ∀ w', Cls w3 w' → w'.cell? ⟨w.heap.size, 1, none⟩ = some (.slice A' m d) := fun _ h => h.cell (hS1.cell 2 1 rfl rfl)
        have HL := hid (fun w' (h : Cls w3 w') => hS1.step h)
        clear hII
        go_wp2_with fail
        go_region_held3 (fun w' => Cls w3 w') (first | exact Cls.refl _ | exact Cls.drew _ | assumption | exact Cls.next (by assumption) (by assumption))
          (first
            | (go_at_call 82; refine (mask_any _ ((HL.out _ (by assumption)).sees 0 rfl rfl) HMM.out (by omega)).mono ?_; rintro e w' ⟨rfl, rfl⟩)
            | (go_at_call 81; have hcl := ‹Cls w3 _›; refine (calls_bool (l6Splits_any (maskN I) (k : Int) _ (HF.out.grow (HL.out _ (by assumption)).bl) HMB.out HE.out hn0 (by omega)) HP.out).mono ?_; rintro e w' ⟨rfl, hb2⟩))
        have hL2 := (HL.out _ hcl).step hb2
        clear HL C0 C1 hS1 hb2 hcl
        generalize w' = W2 at *
        cases r
        · have HN : Hid (idsTo (cnF fs n) (k + 1) = idsTo (cnF fs n) k) := idsTo_no HR.out
          have hS6 := hid (hL2.drop 1)
          clear hL2 HP
          go_wp2
          exact ⟨⟨k + 1, by omega, by go_num, by rw [HN.out]; exact hS6⟩, by simp [intOf]; omega⟩
        · have HN : Hid (idsTo (cnF fs n) (k + 1) = idsTo (cnF fs n) k ++ [(k : Int)]) := idsTo_yes HR.out
          obtain ⟨A5, c5, rfl, _⟩ := hL2.form 1 rfl
          have HS2 := hid (hL2.blk_ W2.heap.size rfl 3 #[.int .i64 k])
          clear hL2 HP
          go_wp2_with (first
            | (at_builtin; refine wpList_append_led rfl _ _ 26 rfl HS2.out 2 rfl Try.underlying26 hi hz0 hz1 (by rw [hz2]; decide) rfl rfl rfl (show Sees elInt _ _ _ 1 [(k : Int)] from sees_new elInt _ _ _ _ rfl) (by omega) HS2.out.bl.size ?_)
            | go_in)
          intro A2 c2 w7 hS5
          have hS6 := hid (hS5.drop 2)
          clear HS2 hS5
          go_wp2
          go_roundw
          case rel => exact ⟨k + 1, by omega, by go_num, by rw [HN.out]; exact hS6⟩
          case measure => simp [intOf]; omega
      · have hkm : k = n := by omega
        subst hkm
        clear hlt
        go_wp2
        go_ret2
        exact ⟨_, rfl, by rw [H.out]; exact HS.out.own 0 rfl, HS.out.bl⟩
end
end Go.Proofs.Ytjklphlgmlomjaa
/- spec.l2Groups: the reference's risk groups, walked. Conditions: none. -/
namespace Go.Proofs.Ytjklphlgmlomjaa
open Go.RowKit
variable {n c m d : Nat} {A A' : Option Addr} {xs : List ByteArray} {fs : List Fib}
theorem groupL_row {t k : Nat} (h : (riskF fs k == ((t : Int) + 1)) = true) : groupL fs k = rkRow fs t := by
  have e : riskF fs k = (t : Int) + 1 := by simpa using h
  unfold groupL rkRow
  rw [e, if_neg (by simp; omega)]
theorem idsTo_ne {p : Nat → Bool} {k m : Nat} (hk : k < m) (h : p k = true) : idsTo p m ≠ [] := by
  intro e
  unfold idsTo at e
  have : (List.range m).filter p = [] := List.map_eq_nil_iff.1 e
  have h2 := List.filter_eq_nil_iff.1 this k (by simpa using hk)
  exact h2 h
set_option maxHeartbeats 2000000 in
set_option maxRecDepth 100000 in
theorem l2Groups_any (w : World) (h : NetIs w A n c A' m d xs fs) :
    Calls Try.prog 85 #[.agg #[.slice A n c, .slice A' m d]] w fun e w' => ∃ s ss, e = .returned (slV s) ∧ OwnsSS w' w.heap.size (slV s) ss (groupsL fs) ∧ Below w.heap.size w w' := by
  obtain ⟨j0, hj, hy0, hy1, hy2⟩ := info_parts sl_info
  have hb0 := bl_alloc (Below.refl w.heap.size w) (.cells #[.slice A n c, .slice A' m d] 35)
  have hx0 : Blk (w.alloc (.cells #[.slice A n c, .slice A' m d] 35)) w.heap.size 35 #[.slice A n c, .slice A' m d] := Blk.new _ _ _
  have h0 := h.grow hb0
  have hlf := h.flen
  have hm := h.mle
  have hsz0 : (w.alloc (.cells #[.slice A n c, .slice A' m d] 35)).heap.size = w.heap.size + 1 := by simp
  have hbe : Below (w.alloc (.cells #[.slice A n c, .slice A' m d] 35)).heap.size (w.alloc (.cells #[.slice A n c, .slice A' m d] 35)) ((w.alloc (.cells #[.slice A n c, .slice A' m d] 35)).alloc (.cells #[] 26)) := bl_alloc (Below.refl _ _) _
  have hoe : Hid (OwnsSS ((w.alloc (.cells #[.slice A n c, .slice A' m d] 35)).alloc (.cells #[] 26)) (w.heap.size + 1) (.slice (some ⟨w.heap.size + 1, 0, none⟩) 0 0) [] (rkTo fs 0)) :=
    ⟨Owns.of_blk (E := elSl) (n := 0) (cap := 0) (cur := #[]) (by have := Blk.new (w.alloc (.cells #[.slice A n c, .slice A' m d] 35)) 26 #[]; simpa using this) (Nat.le_refl _) rfl (Nat.le_refl _) rfl (by decide) (Filled.zero _ _ _), rfl, fun i s r h1 => by simp at h1, fun i j s t g _ h1 => by simp at h1⟩
  go_enter Try.func85, Try.ntmps85
  go_wp2_with fail
  generalize hw0 : w.alloc (.cells #[.slice A n c, .slice A' m d] 35) = w0 at *
  go_loopw [3, 4] (fun v i wr => ∃ (t : Nat) (ss : List Sl), t ≤ 9 ∧ i = .int .i64 ((t : Int) + 1) ∧ Hid (OwnsSS wr (w.heap.size + 1) v ss (rkTo fs t)) ∧ Below w0.heap.size w0 wr) (fun _ i _ => 10 - (intOf i).toNat)
  case atStart => exact ⟨0, [], Nat.zero_le _, rfl, hoe, hbe⟩
  case round =>
    clear hbe hoe
    obtain ⟨t, ss, ht, rfl, hss, hb⟩ := hrel
    have hwz := hb.size
    by_cases htl : t < 9
    · obtain ⟨wo, hwo⟩ : ∃ wo, wo = wr := ⟨_, rfl⟩
      subst hwo
      have e9 : decide ((t : Int) + 1 ≤ 9) = true := decide_eq_true (by omega)
      have hsl : ss.length ≤ 9 := by have := hss.out.2.1; have := rkTo_len fs t; omega
      go_wp2_with fail
      go_loopw [3, 5] (fun v i wr => ∃ k : Nat, k ≤ m ∧ i = .int .i64 k ∧ v = u3 ∧ Hid (idsTo (fun j => riskF fs j == ((t : Int) + 1)) k = []) ∧ wr = wo) (fun _ i _ => m - (intOf i).toNat)
      case atStart => exact ⟨0, Nat.zero_le _, rfl, rfl, idsTo_zero _, rfl⟩
      case round =>
        obtain ⟨k, hk, rfl, rfl, hno, rfl⟩ := hrel
        have q1 := (hx0.below hb hx0.lt).cell 1
        have q0 := (hx0.below hb hx0.lt).cell 0
        simp at q0 q1
        by_cases hlt : k < m
        · obtain ⟨b, o, rfl, _, hc⟩ := h0.fibs.at_ hlt
          obtain ⟨f, hfk⟩ := get_of (k := k) hlf hlt
          have f3 := bl_cell hb (hc k f hfk 3 _ rfl)
          simp only [elFib] at f3
          have hp : Hid ((riskF fs k == ((t : Int) + 1)) = (f.risk == ((t : Int) + 1))) := by unfold Hid; rw [riskF_of hfk]
          clear hc hfk
          cases g3 : (f.risk == ((t : Int) + 1))
          · have HN : Hid (idsTo (fun j => riskF fs j == ((t : Int) + 1)) (k + 1) = []) := by unfold Hid; rw [idsTo_no (hp.out.trans g3)]; exact hno.out
            clear hp hno
            go_wp2
            refine ⟨?_, by simp [intOf]; omega⟩
            first | exact ⟨k + 1, by omega, by go_num, rfl, HN, trivial⟩ | exact ⟨k + 1, by omega, by go_num, HN, rfl⟩ | exact ⟨k + 1, by omega, by go_num, rfl, HN, rfl⟩ | ((repeat apply Exists.intro); exact ⟨⟨k + 1, by omega, by go_num, rfl, HN, rfl⟩, rfl⟩)
          · have HR : Hid (groupL fs k = rkRow fs t) := groupL_row (hp.out.trans g3)
            have HT : Hid (rkTo fs (t + 1) = rkTo fs t ++ [rkRow fs t]) := rkTo_yes (by unfold rkRow; rw [hlf]; exact idsTo_ne hlt (hp.out.trans g3))
            have HC := hid (l2Group_any k wr (h0.grow hb) hlt)
            clear hp hno
            go_wp2_with fail
            refine HC.out.mono ?_
            rintro e w2 ⟨s2, rfl, ho2, hb2⟩
            have ho2 := hid ho2
            obtain ⟨Ag, Lg, cg⟩ := s2
            have hbG := bl_alloc (bl_then hb hb2) (.cells #[.slice Ag Lg cg] 26)
            have hq2 := bl_alloc hb2 (.cells #[.slice Ag Lg cg] 26)
            have hsG := hid (hss.out.below hq2)
            have hr2 : Hid (Owns elInt _ _ _ (slV ⟨Ag, Lg, cg⟩) _) := ho2.out.below (bl_alloc (Below.refl _ _) (.cells #[.slice Ag Lg cg] 26))
            have z2 := hb2.size
            unfold slV
            clear HC ho2 hb2 q0 q1 f3
            go_wp2_with (first
              | (at_builtin; refine wpList_append_own _ rfl _ _ 92 rfl (w.heap.size + 1) 26 j0 (.slice none 0 0) 1 24 Try.underlying92 hj hy0 hy1 hy2 rfl (by decide) _ ss.length (ss.flatMap elSl.cells) rfl hsG.out.1 ⟨_, 0, none⟩ 1 1 [.slice Ag Lg cg] rfl rfl (one_new _ _ _ (by simp)) (fun u hu => by simp at hu; subst hu; rfl) (by unfold maxLen; omega) (by omega) (by simp; omega) ?_)
              | go_in)
            intro v' w1 hown' hgrow _
            have HP : Hid (OwnsSS w1 (w.heap.size + 1) v' (ss ++ [⟨Ag, Lg, cg⟩]) (rkTo fs (t + 1))) := by
              unfold Hid; rw [HT.out]; exact hss.out.push (s0 := ⟨Ag, Lg, cg⟩) hq2 (by omega) (by have := hr2.out; rw [HR.out] at this; exact this) (Owns.appended (E := elSl) hown') hgrow
            have hbN := bl_grown hbG hgrow (fun g hg => by have := (hsG.out.1.lies g hg).1; omega)
            clear hown' hgrow hsG hbG hr2 hq2 hss
            go_wp2
            refine ⟨?_, by simp [intOf]; omega⟩
            first | exact ⟨t + 1, _, by omega, by go_num, HP, hbN⟩ | ((repeat apply Exists.intro); exact ⟨⟨t + 1, _, by omega, by go_num, HP, hbN⟩, rfl⟩)
        · have hkm : k = m := by omega
          have HT : Hid (rkTo fs (t + 1) = rkTo fs t) := rkTo_no (by unfold rkRow; rw [hlf, ← hkm]; exact hno.out)
          have HS := hss
          rw [← HT.out] at HS
          clear hno hlt hss
          go_wp2
          refine ⟨?_, by simp [intOf]; omega⟩
          first | exact ⟨t + 1, ss, by omega, by go_num, HS, hb⟩ | ((repeat apply Exists.intro); exact ⟨⟨t + 1, ss, by omega, by go_num, HS, hb⟩, rfl⟩)
    · have ht9 : t = 9 := by omega
      subst ht9
      have hs0 := hss
      rw [show rkTo fs 9 = rkTo fs 9 ++ zrTo fs 0 from by rw [zrTo_zero, List.append_nil]] at hs0
      clear hss
      go_wp2_with fail
      have hbs := hb
      obtain ⟨wo, hwo⟩ : ∃ wo, wo = wr := ⟨_, rfl⟩
      subst hwo
      go_loopw [3, 6] (fun v i wr => ∃ (k : Nat) (ss : List Sl), k ≤ m ∧ i = .int .i64 k ∧ Hid (OwnsSS wr (w.heap.size + 1) v ss (rkTo fs 9 ++ zrTo fs k)) ∧ Below w0.heap.size w0 wr) (fun _ i _ => m - (intOf i).toNat)
      case atStart => exact ⟨0, ss, Nat.zero_le _, rfl, hs0, hbs⟩
      case round =>
        clear hs0 hbs hb hwz
        obtain ⟨k, ss, hk, rfl, hss, hb⟩ := hrel
        have hwz := hb.size
        have q1 := (hx0.below hb hx0.lt).cell 1
        simp at q1
        by_cases hlt : k < m
        · obtain ⟨b, o, rfl, _, hc⟩ := h0.fibs.at_ hlt
          obtain ⟨f, hfk⟩ := get_of (k := k) hlf hlt
          have f3 := bl_cell hb (hc k f hfk 3 _ rfl)
          simp only [elFib] at f3
          have hp : Hid ((riskF fs k == 0) = (f.risk == 0)) := by unfold Hid; rw [riskF_of hfk]
          clear hc hfk
          cases g3 : (f.risk == 0)
          · have HN : Hid (zrTo fs (k + 1) = zrTo fs k) := zrTo_no (hp.out.trans g3)
            have HO := hss
            rw [← HN.out] at HO
            clear hp hss
            go_wp2
            refine ⟨?_, by simp [intOf]; omega⟩
            first | exact ⟨k + 1, ss, by omega, by go_num, HO, hb⟩ | ((repeat apply Exists.intro); exact ⟨⟨k + 1, ss, by omega, by go_num, HO, hb⟩, rfl⟩)
          · have HN : Hid (rkTo fs 9 ++ zrTo fs (k + 1) = (rkTo fs 9 ++ zrTo fs k) ++ [[(k : Int)]]) := by unfold Hid; rw [zrTo_yes (hp.out.trans g3), List.append_assoc]
            have hq1 := bl_alloc (Below.refl wr.heap.size wr) (.cells #[.int .i64 k] 3)
            have hq2 := bl_alloc hq1 (.cells #[.slice (some ⟨wr.heap.size, 0, none⟩) 1 1] 26)
            have hbG := bl_then hb hq2
            have hsG := hid (hss.out.below hq2)
            have hr2 : Hid (Owns elInt ((wr.alloc (.cells #[.int .i64 k] 3)).alloc (.cells #[.slice (some ⟨wr.heap.size, 0, none⟩) 1 1] 26)) wr.heap.size 3 (slV ⟨some ⟨wr.heap.size, 0, none⟩, 1, 1⟩) [(k : Int)]) :=
              (show Owns elInt (wr.alloc (.cells #[.int .i64 k] 3)) wr.heap.size 3 (.slice (some ⟨wr.heap.size, 0, none⟩) 1 1) [(k : Int)] from Owns.of_blk (n := 1) (cap := 1) (cur := #[.int .i64 k]) (Blk.new wr 3 #[.int .i64 k]) (Nat.le_refl _) rfl (Nat.le_refl _) rfl (by decide) (filled_int1 _)).below (bl_alloc (Below.refl _ _) _)
            have hsl : ss.length ≤ 9 + k := by have := hsG.out.2.1; have := rkTo_len fs 9; have := zrTo_len fs k; simp at *; omega
            clear hp hq1
            go_wp2_with (first
              | (at_builtin; refine wpList_append_own _ rfl _ _ 92 rfl (w.heap.size + 1) 26 j0 (.slice none 0 0) 1 24 Try.underlying92 hj hy0 hy1 hy2 rfl (by decide) _ ss.length (ss.flatMap elSl.cells) rfl hsG.out.1 ⟨_, 0, none⟩ 1 1 [.slice (some ⟨wr.heap.size, 0, none⟩) 1 1] rfl rfl (one_new _ _ _ (by simp)) (fun u hu => by simp at hu; subst hu; rfl) (by unfold maxLen; omega) (by omega) (by simp; omega) ?_)
              | go_in)
            intro v' w1 hown' hgrow _
            have HP : Hid (OwnsSS w1 (w.heap.size + 1) v' (ss ++ [⟨some ⟨wr.heap.size, 0, none⟩, 1, 1⟩]) (rkTo fs 9 ++ zrTo fs (k + 1))) := by
              unfold Hid; rw [HN.out]; exact hss.out.push (s0 := ⟨some ⟨wr.heap.size, 0, none⟩, 1, 1⟩) hq2 (by omega) hr2.out (Owns.appended (E := elSl) hown') hgrow
            have hbN := bl_grown hbG hgrow (fun g hg => by have := (hsG.out.1.lies g hg).1; omega)
            clear hown' hgrow hsG hbG hr2 hq2 hss
            go_wp2
            refine ⟨?_, by simp [intOf]; omega⟩
            first | exact ⟨k + 1, _, by omega, by go_num, HP, hbN⟩ | ((repeat apply Exists.intro); exact ⟨⟨k + 1, _, by omega, by go_num, HP, hbN⟩, rfl⟩)
        · have hkm : k = m := by omega
          rw [hkm] at hss
          have HG : Hid (groupsL fs = rkTo fs 9 ++ zrTo fs m) := by unfold Hid groupsL; rw [hlf]
          obtain ⟨Ao, co, rfl, _, _, _⟩ := hss.out.1.form
          clear hlt
          go_wp2
          go_ret
          exact ⟨⟨Ao, _, co⟩, ss, rfl, by rw [HG.out]; exact hss.out.base_ (by omega), hb0.trans (hb.mono (by omega))⟩
end Go.Proofs.Ytjklphlgmlomjaa
/- RiskGroups of both sides and the reference's FailingWith, walked. Conditions: none. -/
namespace Go.Proofs.Ytjklphlgmlomjaa
open Go.RowKit
variable {n c m d : Nat} {A A' : Option Addr} {xs : List ByteArray} {fs : List Fib}
def rgL (xs : List ByteArray) (fs : List Fib) : List (List Int) := if goodB xs fs then groupsL fs else []
def fwB (xs : List ByteArray) (fs : List Fib) (i : Int) : Bool := goodB xs fs && inB 0 ((fs.length : Int) - 1) i
def fwL (xs : List ByteArray) (fs : List Fib) (i : Int) : List Int := if fwB xs fs i then groupL fs i.toNat else []
end Go.Proofs.Ytjklphlgmlomjaa
/- How many risk groups there are, and how great. Conditions: none. -/
namespace Go.Proofs.Ytjklphlgmlomjaa
open Go.RowKit
theorem offS_bd {k : Int} {rows : List (List Int)} {L : Nat} (h : ∀ r ∈ rows, r.length ≤ L) : ∀ j, j ≤ rows.length → offS k rows j ≤ k + ((j * L : Nat) : Int) := by
  intro j
  induction j with
  | zero => intro _; rw [offS_zero]; omega
  | succ j ih =>
    intro hj
    obtain ⟨r, hr⟩ : ∃ r, rows[j]? = some r := ⟨rows[j]'(by omega), List.getElem?_eq_getElem _⟩
    have h1 := ih (by omega)
    have h2 := h r (List.mem_of_getElem? hr)
    rw [offS_succ hr, Nat.add_mul]
    omega
theorem groups_row {fs : List Fib} {r : List Int} (h : r ∈ groupsL fs) : r.length ≤ fs.length + 1 := by
  unfold groupsL rkTo zrTo at h
  rcases List.mem_append.1 h with h | h
  · have h1 := (List.mem_filter.1 h).1
    obtain ⟨t, _, rfl⟩ := List.mem_map.1 h1
    unfold rkRow
    exact Nat.le_trans (idsTo_len _ _) (Nat.le_succ _)
  · obtain ⟨x, _, rfl⟩ := List.mem_map.1 h
    simp
theorem groups_len (fs : List Fib) : (groupsL fs).length ≤ 9 + fs.length := by
  unfold groupsL
  rw [List.length_append]
  have := rkTo_len fs 9
  have := zrTo_len fs fs.length
  omega
theorem rgL_small (xs : List ByteArray) (fs : List Fib) : (rgL xs fs).length ≤ 23 ∧ ∀ r ∈ rgL xs fs, r.length ≤ 15 := by
  unfold rgL
  cases g : goodB xs fs
  · exact ⟨by simp, fun r h => by simp at h⟩
  · have hb := goodB_bd g
    have := groups_len fs
    exact ⟨by simp; omega, fun r h => by simp at h; have := groups_row h; omega⟩
theorem rgL_off (xs : List ByteArray) (fs : List Fib) : offS 1 (rgL xs fs) (rgL xs fs).length ≤ 1000 := by
  obtain ⟨h1, h2⟩ := rgL_small xs fs
  have := offS_bd (k := 1) h2 (rgL xs fs).length (Nat.le_refl _)
  have h3 : (rgL xs fs).length * 15 ≤ 23 * 15 := Nat.mul_le_mul_right _ h1
  omega
end Go.Proofs.Ytjklphlgmlomjaa
/- The group that contains a fiber, in plain Lean. Conditions: the network is valid. -/
namespace Go.Proofs.Ytjklphlgmlomjaa
theorem mem_idsTo {p : Nat → Bool} {k : Nat} {x : Int} : x ∈ idsTo p k ↔ ∃ j : Nat, j < k ∧ p j = true ∧ x = (j : Int) := by
  unfold idsTo
  rw [List.mem_map]
  constructor
  · rintro ⟨j, hj, rfl⟩
    rw [List.mem_filter] at hj
    exact ⟨j, by simpa using hj.1, hj.2, rfl⟩
  · rintro ⟨j, hj, hp, rfl⟩
    exact ⟨j, List.mem_filter.2 ⟨by simpa using hj, hp⟩, rfl⟩
theorem idsTo_mem {p : Nat → Bool} {k j : Nat} : (j : Int) ∈ idsTo p k ↔ j < k ∧ p j = true := by
  rw [mem_idsTo]
  constructor
  · rintro ⟨i, hi, hp, e⟩
    have : j = i := by omega
    subst this; exact ⟨hi, hp⟩
  · rintro ⟨h1, h2⟩; exact ⟨j, h1, h2, rfl⟩
/-- Where there is one that passes, and all that pass are R, the first one that passes is R. -/
theorem findP_only {α : Type} {p : α → Bool} {l : List α} {R : α} (h1 : R ∈ l) (hp : p R = true) (h2 : ∀ r ∈ l, p r = true → r = R) : ∃ k : Nat, findP p l = k ∧ l[k]? = some R := by
  suffices h : ∀ (l : List α) (k0 : Nat), R ∈ l → (∀ r ∈ l, p r = true → r = R) → ∃ k : Nat, findPF p l k0 = ((k0 + k : Nat) : Int) ∧ l[k]? = some R by
    obtain ⟨k, h3, h4⟩ := h l 0 h1 h2
    exact ⟨k, by unfold findP; rw [h3]; simp, h4⟩
  intro l
  induction l with
  | nil => intro k0 h; cases h
  | cons y l ih =>
    intro k0 h1 h2
    unfold findPF
    by_cases hy : p y = true
    · rw [if_pos hy]
      exact ⟨0, by simp, by simp [h2 y (by simp) hy]⟩
    · rw [if_neg hy]
      have hne : y ≠ R := fun e => hy (e ▸ hp)
      rcases List.mem_cons.1 h1 with e | h3
      · exact absurd e.symm hne
      obtain ⟨k, h4, h5⟩ := ih (k0 + 1) h3 (fun r hr => h2 r (by simp [hr]))
      exact ⟨k + 1, by rw [h4]; congr 1; omega, by simpa using h5⟩
theorem rkTo_mem {fs : List Fib} {t : Nat} {r : List Int} : r ∈ rkTo fs t ↔ (∃ j, j < t ∧ r = rkRow fs j) ∧ r ≠ [] := by
  unfold rkTo
  rw [List.mem_filter, List.mem_map]
  constructor
  · rintro ⟨⟨j, hj, rfl⟩, h⟩
    exact ⟨⟨j, by simpa using hj, rfl⟩, by cases hh : rkRow fs j <;> simp_all⟩
  · rintro ⟨⟨j, hj, rfl⟩, h⟩
    exact ⟨⟨j, by simpa using hj, rfl⟩, by cases hh : rkRow fs j <;> simp_all⟩
theorem zrTo_mem {fs : List Fib} {k : Nat} {r : List Int} : r ∈ zrTo fs k ↔ ∃ j : Nat, j < k ∧ riskF fs j = 0 ∧ r = [(j : Int)] := by
  unfold zrTo
  rw [List.mem_map]
  constructor
  · rintro ⟨x, hx, rfl⟩
    obtain ⟨j, h1, h2, rfl⟩ := mem_idsTo.1 hx
    exact ⟨j, h1, by simpa using h2, rfl⟩
  · rintro ⟨j, h1, h2, rfl⟩
    exact ⟨j, mem_idsTo.2 ⟨j, h1, by simpa using h2, rfl⟩, rfl⟩
section
variable {xs : List ByteArray} {fs : List Fib}
theorem riskF_bd (hg : goodB xs fs = true) {j : Nat} (hj : j < fs.length) : 0 ≤ riskF fs j ∧ riskF fs j ≤ 9 := by
  have h := goodB_fibB hg (List.getElem_mem hj)
  rw [riskF_of (List.getElem?_eq_getElem hj)]
  unfold fibB at h; simp at h; omega
theorem groupL_self {i : Nat} (hi : i < fs.length) : (i : Int) ∈ groupL fs i := by
  unfold groupL
  by_cases h : (riskF fs i == 0) = true
  · rw [if_pos h]; simp
  · rw [if_neg h]; exact idsTo_mem.2 ⟨hi, by simp⟩
theorem groupL_mem {i j : Nat} (hi : i < fs.length) : (j : Int) ∈ groupL fs i ↔ j < fs.length ∧ (i = j ∨ (riskF fs i ≠ 0 ∧ riskF fs j = riskF fs i)) := by
  unfold groupL
  by_cases h : (riskF fs i == 0) = true
  · rw [if_pos h]
    have h0 : riskF fs i = 0 := by simpa using h
    simp
    constructor
    · intro e; have : j = i := by omega
      subst this; exact ⟨hi, .inl rfl⟩
    · rintro ⟨_, e | e⟩
      · omega
      · exact absurd h0 e.1
  · rw [if_neg h, idsTo_mem]
    have h0 : riskF fs i ≠ 0 := by simpa using h
    simp
    intro hj
    constructor
    · intro e; exact .inr ⟨h0, e⟩
    · rintro (rfl | e)
      · rfl
      · exact e.2
/-- The group of fiber i is a group. -/
theorem groupL_in (hg : goodB xs fs = true) {i : Nat} (hi : i < fs.length) : groupL fs i ∈ groupsL fs := by
  unfold groupsL
  rw [List.mem_append]
  by_cases h : (riskF fs i == 0) = true
  · exact .inr (zrTo_mem.2 ⟨i, hi, by simpa using h, by unfold groupL; rw [if_pos h]⟩)
  · have hb := riskF_bd hg hi
    have h0 : riskF fs i ≠ 0 := by simpa using h
    obtain ⟨t, ht⟩ : ∃ t : Nat, riskF fs i = (t : Int) + 1 := ⟨(riskF fs i - 1).toNat, by omega⟩
    have e : groupL fs i = rkRow fs t := groupL_row (by rw [ht]; simp)
    exact .inl (rkTo_mem.2 ⟨⟨t, by omega, e⟩, List.ne_nil_of_mem (groupL_self hi)⟩)
/-- The group that contains fiber i is its group. -/
theorem groupL_only {i : Nat} {r : List Int} (hr : r ∈ groupsL fs) (h : (i : Int) ∈ r) : i < fs.length ∧ r = groupL fs i := by
  unfold groupsL at hr
  rcases List.mem_append.1 hr with hr | hr
  · obtain ⟨⟨t, ht, rfl⟩, _⟩ := rkTo_mem.1 hr
    have h' := h
    unfold rkRow at h'
    obtain ⟨h1, h2⟩ := idsTo_mem.1 h'
    exact ⟨h1, (groupL_row h2).symm⟩
  · obtain ⟨j, hj, h0, rfl⟩ := zrTo_mem.1 hr
    have : i = j := by simp at h; omega
    subst this
    exact ⟨hj, by unfold groupL; rw [if_pos (by simpa using h0)]⟩
/-- The index of the group of a fiber. -/
def grpI (fs : List Fib) (i : Int) : Int := findP (fun r => hasB r i) (groupsL fs)
theorem grp_at (hg : goodB xs fs = true) {i : Nat} (hi : i < fs.length) : ∃ k : Nat, grpI fs i = k ∧ (groupsL fs)[k]? = some (groupL fs i) :=
  findP_only (groupL_in hg hi) (hasB_iff.2 (groupL_self hi)) (fun _ hr hp => (groupL_only hr (hasB_iff.1 hp)).2)
end
end Go.Proofs.Ytjklphlgmlomjaa
/- slices.IndexFunc over rows, groupOf, walked. Conditions: none. -/
namespace Go.Proofs.Ytjklphlgmlomjaa
open Go.RowKit
section
variable {n c : Nat} {A : Option Addr} {ss : List Sl} {rows : List (List Int)} {F : FuncId} {cap : Array Value}
set_option maxHeartbeats 1000000 in
set_option maxRecDepth 100000 in
theorem indexFuncSS_any (p : List Int → Bool) (w : World) (hA : SeesSS w A n ss rows) (hn : n ≤ 1048576)
    (hcall : ∀ args wr, (callFunc F args).run Try.prog wr = .ok (.enter F args) wr)
    (hF : ∀ (i : Nat) s r w', ss[i]? = some s → rows[i]? = some r → Cls w w' → Calls Try.prog F (#[.slice s.A s.n s.c] ++ cap) w' fun e w2 => e = .returned (.bool (p r)) ∧ Below w'.heap.size w' w2) :
    Calls Try.prog 154 #[.slice A n c, .func (.func F) #[] cap] w fun e w' => e = .returned (.int .i64 (findP p rows)) ∧ Below w.heap.size w w' := by
  have HF := hid hF
  have hlr : rows.length = n := by rw [← hA.2.1]; exact hA.1.len
  have HLR := hid hlr
  clear hF hlr
  go_enter Try.func154, Try.ntmps154
  go_wp2
  go_loopw [8] (fun i wr => ∃ k : Nat, k ≤ n ∧ i = .int .i64 k ∧ Hid (noneP p rows k) ∧ Below w.heap.size w wr) (fun i _ => n - (intOf i).toNat)
  case atStart => exact ⟨0, Nat.zero_le _, rfl, noneP_zero _ _, Below.refl _ _⟩
  case round =>
    obtain ⟨k, hk, rfl, hno, hb⟩ := hrel
    by_cases hlt : k < n
    · obtain ⟨b, o, rfl, _, hc⟩ := hA.1.at_ hlt
      obtain ⟨x, hxk⟩ := get_of (k := k) HLR.out hlt
      obtain ⟨s, hsk⟩ := get_of (k := k) hA.1.len hlt
      have hcx := bl_cell hb (hc k s hsk 0 _ rfl)
      simp only [elSl, Nat.mul_one, Nat.add_zero, slV] at hcx
      have HC := hid (HF.out k s x wr hsk hxk hb)
      clear hc
      go_wp2_with fail
      refine HC.out.mono ?_
      rintro e w' ⟨rfl, hb2⟩
      have hbb : Below w.heap.size w w' := bl_then hb hb2
      clear HC hcx hb hb2
      by_cases hp : p x = true
      · have HR := hid (findP_at hno.out hxk hp)
        clear hno hxk
        rw [hp]
        go_wp2_with fail
        go_ret
        exact ⟨by rw [HR.out]; rfl, hbb⟩
      · have hp' : p x = false := by simpa using hp
        have HR := hid (noneP_succ hno.out hxk hp')
        clear hno hxk
        rw [hp']
        go_wp2_with fail
        exact ⟨⟨k + 1, by omega, by go_num, HR, hbb⟩, by simp [intOf]; omega⟩
    · have HN := hid (findP_none (p := p) HLR.out (by obtain rfl : k = n := (by omega); exact hno.out))
      clear hno
      go_wp2
      go_ret
      exact ⟨by rw [HN.out]; rfl, hb⟩
end
section
variable {n c m d : Nat} {A A' : Option Addr} {xs : List ByteArray} {fs : List Fib}
set_option maxRecDepth 100000 in
theorem groupOfC (i : Int) {n c : Nat} {A : Option Addr} {r : List Int} (w : World) (g : Nat) (hg : Blk w g 3 #[.int .i64 i]) (hs : Sees elInt w w.heap.size A n r) (hn : n ≤ maxLen) :
    Calls Try.prog 155 #[.slice A n c, .pointer (some ⟨g, 0, none⟩)] w fun e w' => e = .returned (.bool (hasB r i)) ∧ Below w.heap.size w w' := by
  have q0 := hg.cell 0
  simp at q0
  go_enter Try.func155, Try.ntmps155
  go_wp2_with fail
  refine (containsI_any i _ hs hn).mono ?_
  rintro e w2 ⟨rfl, rfl⟩
  go_wp2_with fail
  go_ret
  exact ⟨rfl, Below.refl _ _⟩
theorem grp_small {r : List Int} (h : r ∈ groupsL fs) (hf : fs.length ≤ 1048576) : r.length ≤ 1048577 := by
  have := groups_row h; omega
set_option maxHeartbeats 1000000 in
set_option maxRecDepth 100000 in
theorem groupOf_any (i : Int) (w : World) (h : NetIs w A n c A' m d xs fs) (hm : m ≤ 1000000) :
    Calls Try.prog 148 #[.agg #[.slice A n c, .slice A' m d], .int .i64 i] w fun e w' => e = .returned (.int .i64 (grpI fs i)) ∧ Below w.heap.size w w' := by
  have hb0 := bl_alloc (bl_alloc (Below.refl w.heap.size w) (.cells #[.slice A n c, .slice A' m d] 35)) (.cells #[.int .i64 i] 3)
  have hx0 : Blk ((w.alloc (.cells #[.slice A n c, .slice A' m d] 35)).alloc (.cells #[.int .i64 i] 3)) (w.heap.size + 1) 3 #[.int .i64 i] := by
    have := Blk.new (w.alloc (.cells #[.slice A n c, .slice A' m d] 35)) 3 #[.int .i64 i]
    simpa using this
  have h0 := h.grow hb0
  have hfl := hid h.flen
  have HG : Hid (grpI fs i = findP (fun r => hasB r i) (groupsL fs)) := rfl
  go_enter Try.func148, Try.ntmps148
  go_wp2_with fail
  refine (groups_any _ h0).mono ?_
  rintro e w2 ⟨⟨A2, n2, c2⟩, ss, rfl, hs, hb2⟩
  dsimp only [slV] at hs ⊢
  have hx2 := hid (hx0.below hb2 hx0.lt)
  have hbw := bl_then hb0 hb2
  have hsees := hs.sees
  have hn2 : n2 = ss.length := by
    obtain ⟨_, _, hv, _⟩ := hs.1.form
    injection hv
  have hgl : Hid ((groupsL fs).length = ss.length) := hs.2.1.symm
  have hgb := groups_len fs
  rw [hgl.out, hfl.out] at hgb
  subst hn2
  have HS := hid hsees
  clear hs hsees
  go_wp2_with fail
  refine (indexFuncSS_any (cap := #[.pointer (some ⟨w.heap.size + 1, 0, none⟩)]) (fun r => hasB r i) _ HS.out (by omega) (fun _ _ => by rfl) (fun k s r w' h1 h2 hw' => by
    have a1 := (HS.out.grow hw').2.2 k s r h1 h2
    have a3 := grp_small (List.mem_of_getElem? h2) (by rw [hfl.out]; omega)
    exact groupOfC i w' (w.heap.size + 1) (hx2.out.below hw' hx2.out.lt) a1.2 (by rw [a1.1]; unfold maxLen; omega))).mono ?_
  rintro e w3 ⟨rfl, hb3⟩
  go_wp2_with fail
  go_ret
  exact ⟨by rw [HG.out]; rfl, bl_then hbw hb3⟩
end
end Go.Proofs.Ytjklphlgmlomjaa
/- FailingWith of both sides, walked. Conditions: none. -/
namespace Go.Proofs.Ytjklphlgmlomjaa
open Go.RowKit
variable {n c m d : Nat} {A A' : Option Addr} {xs : List ByteArray} {fs : List Fib}
theorem OwnsSS.at_ {w : World} {base n c k : Nat} {A : Option Addr} {ss : List Sl} {rows : List (List Int)} {r : List Int} (h : OwnsSS w base (.slice A n c) ss rows) (hk : rows[k]? = some r) :
    ∃ g s, A = some ⟨g, 0, none⟩ ∧ n = rows.length ∧ ss[k]? = some s ∧ w.cell? ⟨g, k, none⟩ = some (.slice s.A s.n s.c) ∧ Owns elInt w base 3 (.slice s.A s.n s.c) r := by
  have hl := h.2.1
  obtain ⟨s, hs⟩ := get_of (l := ss) (k := k) hl (List.getElem?_eq_some_iff.1 hk).1
  rcases h.1.cases with ⟨_, e⟩ | ⟨g, cap, cur, hv, _, hb, _, _, _, hf⟩
  · rw [e] at hs; simp at hs
  · injection hv with e1 e2 e3
    refine ⟨g, s, e1, by rw [e2, hl], hs, ?_, h.2.2.1 k s r hs hk⟩
    have := hf k s (List.getElem?_eq_some_iff.1 hs).1 hs 0 _ rfl
    rw [hb.cell]
    simpa [elSl, slV] using this
theorem fwL_small (i : Int) : (fwL xs fs i).length ≤ 15 := by
  unfold fwL
  cases g : fwB xs fs i
  · simp
  · unfold fwB at g
    rw [Bool.and_eq_true] at g
    have hi := inB_idx g.2
    have := groups_row (groupL_in g.1 (i := i.toNat) (by omega))
    have := (goodB_bd g.1).2.2
    simp; omega
end Go.Proofs.Ytjklphlgmlomjaa
/- CriticalGroups of both sides, walked. Conditions: none. -/
namespace Go.Proofs.Ytjklphlgmlomjaa
open Go.RowKit
theorem groupsL_range {fs : List Fib} {r : List Int} (h : r ∈ groupsL fs) : ∀ x ∈ r, 0 ≤ x ∧ x < fs.length := by
  unfold groupsL at h
  rcases List.mem_append.1 h with h | h
  · obtain ⟨t, ht⟩ : ∃ t, r = rkRow fs t := by
      have key : ∀ k, r ∈ rkTo fs k → ∃ t, r = rkRow fs t := by
        intro k
        induction k with
        | zero => intro h; simp [rkTo] at h
        | succ k ih =>
          intro h
          by_cases hne : rkRow fs k = []
          · rw [rkTo_no hne] at h; exact ih h
          · rw [rkTo_yes hne] at h
            rcases List.mem_append.1 h with h | h
            · exact ih h
            · exact ⟨k, by simpa using h⟩
      exact key 9 h
    rw [ht]; exact fun x hx => idsTo_range x hx
  · unfold zrTo at h
    obtain ⟨y, hy, rfl⟩ := List.mem_map.1 h
    intro x hx
    rw [List.mem_singleton] at hx
    subst hx
    exact idsTo_range _ hy
theorem cgL_len {xs : List ByteArray} {fs : List Fib} : (cgL xs fs).length ≤ 1048576 := by
  unfold cgL
  cases g : goodB xs fs
  · simp
  · have h := goodB_bd g
    have h2 := idsTo_len (cgF fs xs.length) (groupsL fs).length
    have h3 := groups_len fs
    rw [if_pos rfl]; omega
section
variable {n c m d : Nat} {A A' : Option Addr} {xs : List ByteArray} {fs : List Fib}
set_option maxHeartbeats 2000000 in
set_option maxRecDepth 100000 in
theorem implCritical (w : World) (h : NetIs w A n c A' m d xs fs) :
    Calls Try.prog 38 #[.agg #[.slice A n c, .slice A' m d]] w fun e w' => ∃ v, e = .returned (.tuple #[v, .bool (goodB xs fs)]) ∧ Owns elInt w' w.heap.size 3 v (cgL xs fs) ∧ Below w.heap.size w w' := by
  have hS := (Led.nil w).blk_ w.heap.size rfl 35 #[.slice A n c, .slice A' m d]
  cases g : goodB xs fs
  · have H : Hid (cgL xs fs = []) := by unfold Hid cgL; rw [g]; rfl
    go_enter Try.func38, Try.ntmps38
    go_wp2_with fail
    refine (validN _ (h.grow hS.bl)).mono ?_
    rintro e w1 ⟨rfl, hb⟩
    rw [g]
    go_wp2_with fail
    go_ret2
    exact ⟨_, rfl, by rw [H.out]; exact World.ownsRow_nil _ _ _ _, bl_then hS.bl hb⟩
  · have H : Hid (cgL xs fs = idsTo (cgF fs n) (groupsL fs).length) := by unfold Hid cgL; rw [g, h.xlen]; rfl
    obtain ⟨he, hn0, hn8, hm14⟩ := good_parts h g
    have HE := hid he
    have HLF := hid h.flen
    have hlf := h.flen
    have hgl := groups_len fs
    obtain ⟨i0, hi, hz0, hz1, hz2⟩ := info_parts int_info
    go_enter Try.func38, Try.ntmps38
    go_wp2_with fail
    refine (validN _ (h.grow hS.bl)).mono ?_
    rintro e w1 ⟨rfl, hb⟩
    rw [g]
    replace hS := (hS.step hb).empty elInt 3 w1.heap.size rfl w.heap.size (hS.step hb).bl.size
    rw [← idsTo_zero (cgF fs n)] at hS
    have q0 := hS.cell 1 0 rfl rfl
    have q1 := hS.cell 1 1 rfl rfl
    have HF := hid h
    clear hb h he
    go_wp2_with fail
    refine (groups_any _ (HF.out.grow hS.bl)).mono ?_
    rintro e w2 ⟨⟨A2, n2, c2⟩, ss, rfl, hss, hb2⟩
    dsimp only [slV] at hss ⊢
    obtain rfl := ss_n hss
    replace hS := hS.ss hb2 hss
    generalize hG : groupsL fs = G at *
    have HG := hid hG
    have HS := hid hS
    clear hS hb2 hss q0 q1 hG
    go_wp2_with fail
    go_loopw [4, 14] (fun v i wr => ∃ k : Nat, k ≤ G.length ∧ i = .int .i64 k ∧ Hid (Led w wr [tSS (w1.heap.size + 1) (.slice A2 G.length c2) ss G, tOwns elInt w.heap.size 3 v (idsTo (cgF fs n) k), tBlk w.heap.size 35 #[.slice A n c, .slice A' m d]])) (fun _ i _ => G.length - (intOf i).toNat)
    case atStart => exact ⟨0, Nat.zero_le _, rfl, by simpa using HS⟩
    case round =>
      clear HS
      obtain ⟨k, hk, rfl, HS⟩ := hrel
      by_cases hlt : k < G.length
      · have hll := idsTo_len (cgF fs n) k
        obtain ⟨row, hrow⟩ : ∃ r, G[k]? = some r := get_of rfl hlt
        obtain ⟨ga, s, rfl, _, hsk, hq, hor⟩ := OwnsSS.at_ (HS.out.get 0 rfl) hrow
        have q0 := HS.out.cell 2 0 rfl rfl
        have q1 := HS.out.cell 2 1 rfl rfl
        have hmr : row ∈ groupsL fs := by rw [HG.out]; exact List.mem_of_getElem? hrow
        have hrl := grp_small hmr (by rw [HLF.out]; omega)
        have hrl2 : row.length ≤ 1048576 := by have := groups_row hmr; rw [HLF.out] at this; omega
        obtain ⟨r, hr⟩ : ∃ r, cgF fs n k = r := ⟨_, rfl⟩
        have HP : Hid (sepB n (compL (goneF []) fs n) (compL (goneF row) fs n) (-1) = r) := by rw [← hr]; unfold cgF; rw [HG.out, getD_of hrow]; rfl
        have HR := hid hr
        have hsl : s.n = row.length := by obtain ⟨_, _, e, _⟩ := hor.form; injection e
        have hsees := hor.sees
        have HOR := hid hsees
        rw [hsl] at hq
        clear hr hmr hor hsees hsk hrow hrl
        go_wp2_with fail
        refine (calls_bool (separates_any (-1) _ (HF.out.grow HS.out.bl) HOR.out hrl2 HE.out hn0) HP.out).mono ?_
        rintro e w3 ⟨rfl, hb3⟩
        have hL2 := HS.out.step hb3
        clear hb3 HS hq q0 q1 HOR hsl
        cases r
        · have HN : Hid (idsTo (cgF fs n) (k + 1) = idsTo (cgF fs n) k) := idsTo_no HR.out
          have hS6 := hid hL2
          clear hL2 HP
          go_wp2
          refine ⟨?_, by simp [intOf]; omega⟩
          first | exact ⟨k + 1, by omega, by go_num, by rw [HN.out]; exact hS6⟩ | ((repeat apply Exists.intro); exact ⟨⟨k + 1, by omega, by go_num, by rw [HN.out]; exact hS6⟩, rfl⟩)
        · have HN : Hid (idsTo (cgF fs n) (k + 1) = idsTo (cgF fs n) k ++ [(k : Int)]) := idsTo_yes HR.out
          obtain ⟨A3, c3, rfl, _⟩ := hL2.form 1 rfl
          have HS2 := hid (hL2.blk_ w3.heap.size rfl 3 #[.int .i64 k])
          clear hL2 HP
          go_wp2_with (first
            | (at_builtin; refine wpList_append_led rfl _ _ 26 rfl HS2.out 2 rfl Try.underlying26 hi hz0 hz1 (by rw [hz2]; decide) rfl rfl rfl (show Sees elInt _ _ _ 1 [(k : Int)] from sees_new elInt _ _ _ _ rfl) (by omega) HS2.out.bl.size ?_)
            | go_in)
          intro A4 c4 w7 hS5
          have hS6 := hid (hS5.drop 1)
          clear HS2 hS5
          go_wp2
          go_roundw
          case rel => first | exact ⟨k + 1, by omega, by go_num, by rw [HN.out]; exact hS6⟩ | ((repeat apply Exists.intro); exact ⟨⟨k + 1, by omega, by go_num, by rw [HN.out]; exact hS6⟩, rfl⟩)
          case measure => simp [intOf]; omega
      · have hkm : k = G.length := by omega
        subst hkm
        clear hlt
        go_wp2
        go_ret2
        exact ⟨_, rfl, by rw [H.out]; exact HS.out.own 1 rfl, HS.out.bl⟩
set_option maxHeartbeats 2000000 in
set_option maxRecDepth 100000 in
theorem specCritical (w : World) (h : NetIs w A n c A' m d xs fs) :
    Calls Try.prog 37 #[.agg #[.slice A n c, .slice A' m d]] w fun e w' => ∃ v, e = .returned (.tuple #[v, .bool (goodB xs fs)]) ∧ Owns elInt w' w.heap.size 3 v (cgL xs fs) ∧ Below w.heap.size w w' := by
  have hS := ((Led.nil w).blk_ w.heap.size rfl 35 #[.slice A n c, .slice A' m d]).empty elInt 3 (w.heap.size + 1) (by simp) w.heap.size (by omega)
  cases g : goodB xs fs
  · have H : Hid (cgL xs fs = []) := by unfold Hid cgL; rw [g]; rfl
    go_enter Try.func37, Try.ntmps37
    go_wp2_with fail
    refine (goodN _ (h.grow hS.bl)).mono ?_
    rintro e w1 ⟨rfl, hb⟩
    rw [g]
    replace hS := hS.step hb
    go_wp2_with fail
    go_ret2
    exact ⟨_, rfl, by rw [H.out]; exact hS.own 0 rfl, hS.bl⟩
  · have H : Hid (cgL xs fs = idsTo (cgF fs n) (groupsL fs).length) := by unfold Hid cgL; rw [g, h.xlen]; rfl
    obtain ⟨he, hn0, hn8, hm14⟩ := good_parts h g
    have HE := hid he
    have HLF := hid h.flen
    have hlf := h.flen
    have hgl := groups_len fs
    obtain ⟨i0, hi, hz0, hz1, hz2⟩ := info_parts int_info
    go_enter Try.func37, Try.ntmps37
    go_wp2_with fail
    refine (goodN _ (h.grow hS.bl)).mono ?_
    rintro e w1 ⟨rfl, hb⟩
    rw [g]
    replace hS := hS.step hb
    have q0 := hS.cell 1 0 rfl rfl
    have q1 := hS.cell 1 1 rfl rfl
    have HF := hid h
    clear hb h he
    go_wp2_with fail
    refine (l2Groups_any _ (HF.out.grow hS.bl)).mono ?_
    rintro e w2 ⟨⟨A2, n2, c2⟩, ss, rfl, hss, hb2⟩
    dsimp only [slV] at hss ⊢
    obtain rfl := ss_n hss
    replace hS := hS.ss hb2 hss
    generalize hG : groupsL fs = G at *
    have HG := hid hG
    have HS := hid hS
    clear hS hb2 hss q0 q1 hG
    have HS1 : Hid (Led w w2 [tSS w1.heap.size (.slice A2 G.length c2) ss G, tOwns elInt w.heap.size 3 (.slice (some ⟨w.heap.size + 1, 0, none⟩) 0 0) (idsTo (cgF fs n) 0), tBlk w.heap.size 35 #[.slice A n c, .slice A' m d]]) := HS
    clear HS
    go_wp2_with fail
    go_loopw [4, 6] (fun v i wr => ∃ k : Nat, k ≤ G.length ∧ i = .int .i64 k ∧ Hid (Led w wr [tSS w1.heap.size (.slice A2 G.length c2) ss G, tOwns elInt w.heap.size 3 v (idsTo (cgF fs n) k), tBlk w.heap.size 35 #[.slice A n c, .slice A' m d]])) (fun _ i _ => G.length - (intOf i).toNat)
    case atStart => exact ⟨0, Nat.zero_le _, rfl, HS1⟩
    case round =>
      clear HS1
      obtain ⟨k, hk, rfl, HS⟩ := hrel
      by_cases hlt : k < G.length
      · have hll := idsTo_len (cgF fs n) k
        obtain ⟨row, hrow⟩ : ∃ r, G[k]? = some r := get_of rfl hlt
        obtain ⟨ga, s, rfl, _, hsk, hq, hor⟩ := OwnsSS.at_ (HS.out.get 0 rfl) hrow
        have hmr : row ∈ groupsL fs := by rw [HG.out]; exact List.mem_of_getElem? hrow
        have hrl2 : row.length ≤ 1048576 := by have := groups_row hmr; rw [HLF.out] at this; omega
        have hmem : ∀ x ∈ row, 0 ≤ x ∧ x < 20 := fun x hx => by have := groupsL_range hmr x hx; omega
        obtain ⟨r, hr⟩ : ∃ r, cgF fs n k = r := ⟨_, rfl⟩
        have HP : Hid (sepB n (compL (goneF []) fs n) (compL (fun i => (maskN row).testBit i) fs n) (-1) = r) := by rw [← hr, maskN_comp (fun x hx => (hmem x hx).1)]; unfold cgF; rw [HG.out, getD_of hrow]; rfl
        have HR := hid hr
        have HMM := hid hmem
        have HMB : Hid (maskN row < 2 ^ 20) := maskTo_lt hmem _ (Nat.le_refl _)
        have hsl : s.n = row.length := by obtain ⟨_, _, e, _⟩ := hor.form; injection e
        have hsees := hor.sees
        have HOR := hid hsees
        rw [hsl] at hq
        have ik : (k : Int) < (G.length : Int) := by omega
        have C0 : ∀ w', Cls wr w' → w'.cell? ⟨w.heap.size, 0, none⟩ = some (.slice A n c) := fun _ h => h.cell (HS.out.cell 2 0 rfl rfl)
        have C1 : ∀ w', Cls wr w' → w'.cell? ⟨w.heap.size, 1, none⟩ = some (.slice A' m d) := fun _ h => h.cell (HS.out.cell 2 1 rfl rfl)
        have C2 : ∀ w', Cls wr w' → w'.cell? ⟨ga, k, none⟩ = some (.slice s.A row.length s.c) := fun _ h => h.cell hq
        have HL := hid (fun w' (h : Cls wr w') => HS.out.step h)
        clear hr hmr hor hsees hsk hrow hq hmem
        go_wp2_with fail
        go_region_held3 (fun w' => Cls wr w') (first | exact Cls.refl _ | exact Cls.drew _ | assumption | exact Cls.next (by assumption) (by assumption))
          (first
            | (go_at_call 82; refine (mask_any _ (HOR.out.grow (by assumption)) HMM.out (by omega)).mono ?_; rintro e w' ⟨rfl, rfl⟩)
            | (go_at_call 81; have hcl := ‹Cls wr _›; refine (calls_bool (l6Splits_any (maskN row) (-1) _ (HF.out.grow (HL.out _ (by assumption)).bl) HMB.out HE.out hn0 (by omega)) HP.out).mono ?_; rintro e w' ⟨rfl, hb2⟩))
        have hL2 := (HL.out _ hcl).step hb2
        clear HL C0 C1 C2 hb2 hcl HS HOR
        generalize w' = W2 at *
        cases r
        · have HN : Hid (idsTo (cgF fs n) (k + 1) = idsTo (cgF fs n) k) := idsTo_no HR.out
          have hS6 := hid hL2
          clear hL2 HP
          go_wp2
          refine ⟨?_, by simp [intOf]; omega⟩
          first | exact ⟨k + 1, by omega, by go_num, by rw [HN.out]; exact hS6⟩ | ((repeat apply Exists.intro); exact ⟨⟨k + 1, by omega, by go_num, by rw [HN.out]; exact hS6⟩, rfl⟩)
        · have HN : Hid (idsTo (cgF fs n) (k + 1) = idsTo (cgF fs n) k ++ [(k : Int)]) := idsTo_yes HR.out
          obtain ⟨A3, c3, rfl, _⟩ := hL2.form 1 rfl
          have HS2 := hid (hL2.blk_ W2.heap.size rfl 3 #[.int .i64 k])
          clear hL2 HP
          go_wp2_with (first
            | (at_builtin; refine wpList_append_led rfl _ _ 26 rfl HS2.out 2 rfl Try.underlying26 hi hz0 hz1 (by rw [hz2]; decide) rfl rfl rfl (show Sees elInt _ _ _ 1 [(k : Int)] from sees_new elInt _ _ _ _ rfl) (by omega) HS2.out.bl.size ?_)
            | go_in)
          intro A4 c4 w7 hS5
          have hS6 := hid (hS5.drop 1)
          clear HS2 hS5
          go_wp2
          go_roundw
          case rel => first | exact ⟨k + 1, by omega, by go_num, by rw [HN.out]; exact hS6⟩ | ((repeat apply Exists.intro); exact ⟨⟨k + 1, by omega, by go_num, by rw [HN.out]; exact hS6⟩, rfl⟩)
          case measure => simp [intOf]; omega
      · have hkm : k = G.length := by omega
        subst hkm
        clear hlt
        go_wp2
        go_ret2
        exact ⟨_, rfl, by rw [H.out]; exact HS.out.own 1 rfl, HS.out.bl⟩
end
end Go.Proofs.Ytjklphlgmlomjaa
