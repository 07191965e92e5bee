/- Lemmas and walks that the claim rests on, laid together. Conditions: none. -/
import Derived.Test.YtfepilpllfiegaaZba7846269eb2
import Derived.Deep.RegionHeld3
import Derived.Test.YtfepilpllfiegaaZc731a5b1582e
import Derived.Test.YtfepilpllfiegaaZc3e33f13110d
import Derived.Test.YtfepilpllfiegaaZ1096401160fd
import Derived.ArgAppend
import Derived.Lib.SliceRun
/- separates, l6Splits: whether two nodes are parted, walked. Conditions: the fibers' ends are nodes; 2 nodes at least; at most 20 fibers. -/
namespace Go.Proofs.Ytfepilpllfiegaa
open Go.RowKit
theorem sepP_eq {X Y : List Int} {s : Int} {a b : Nat} : sepP X Y s a b = ((!((a : Int) == s) && !((b : Int) == s)) && ((valL X a == valL X b) && !(valL Y a == valL Y b))) := rfl
section
variable {n c m d k c' : Nat} {A A' G : Option Addr} {xs : List ByteArray} {fs : List Fib} {l : List Int} {s : Int}
set_option maxHeartbeats 4000000 in
set_option maxRecDepth 100000 in
theorem separates_any (s : Int) (w : World) (h : NetIs w A n c A' m d xs fs) (hv : Sees elInt w w.heap.size G k l) (hkb : k ≤ 1048576) (he : endsB n fs) (hn0 : 0 < n) :
    Calls Try.prog 71 #[.agg #[.slice A n c, .slice A' m d], .slice G k c', .int .i64 s] w fun e w' => e = .returned (.bool (sepB n (compL (goneF []) fs n) (compL (goneF l) fs n) s)) ∧ Below w.heap.size w w' := by
  have hS := (Led.nil w).blk_ w.heap.size rfl 27 #[.slice A n c, .slice A' m d]
  obtain ⟨r, hr⟩ : ∃ r, sepB n (compL (goneF []) fs n) (compL (goneF l) fs n) s = r := ⟨_, rfl⟩
  rw [hr]
  have HRR := hid hr
  clear hr
  have HN := hid h
  have HV := hid hv
  have HE := hid he
  have hn := h.nle
  clear h he hv
  go_enter Try.func71, Try.ntmps71
  go_wp2_with fail
  generalize w.alloc (.cells #[.slice A n c, .slice A' m d] 27) = W0 at *
  have C0 : ∀ w', Cls W0 w' → w'.cell? ⟨w.heap.size, 0, none⟩ = some (.slice A n c) := fun _ h => h.cell (hS.cell 0 0 rfl rfl)
  have C1 : ∀ w', Cls W0 w' → w'.cell? ⟨w.heap.size, 1, none⟩ = some (.slice A' m d) := fun _ h => h.cell (hS.cell 0 1 rfl rfl)
  have HL := hid (fun w' (h : Cls W0 w') => hS.step h)
  go_region_held3 (fun w' => Cls W0 w') (first | exact Cls.drew _ | exact Cls.next (by assumption) (by assumption))
    (first
      | (go_at_call_of 77 (Value.slice none 0 0); refine (components_any (l := []) _ (HN.out.grow (HL.out _ (by assumption)).bl) (Sees.nil elInt _ 0 _) (by decide) HE.out hn0).mono ?_; rintro e w' ⟨v1, rfl, ho1, hb1⟩; obtain ⟨g1, c1, rfl⟩ := ho1.splitg compL_len hn0; have hL1 := (HL.out _ (by assumption)).owns hb1 ho1)
      | (go_at_call_of 77 (Value.slice G k c'); refine (components_any _ (HN.out.grow hL1.bl) (HV.out.grow hL1.bl) hkb HE.out hn0).mono ?_; rintro e w' ⟨v2, rfl, ho2, hb2⟩; obtain ⟨g2, c2, rfl⟩ := ho2.splitg compL_len hn0))
  have hL2 := hL1.owns hb2 ho2
  generalize w' = W2 at *
  have hX : Hid ((compL (goneF []) fs n).length = n) := compL_len
  have hY : Hid ((compL (goneF l) fs n).length = n) := compL_len
  generalize compL (goneF []) fs n = X at *
  generalize (compL (goneF l) fs n) = Y at *
  have HS := hid hL2
  clear HL C0 C1 hL1 hL2 hb1 hb2 ho1 ho2 hS
  have q0 := HS.out.cell 2 0 rfl rfl
  go_wp2_with fail
  clear q0
  obtain ⟨L, hL⟩ : ∃ L, Led w W2 L ∧ L[0]? = some (tOwns elInt _ 3 (.slice (some ⟨g2, 0, none⟩) n c2) Y) ∧ L[1]? = some (tOwns elInt _ 3 (.slice (some ⟨g1, 0, none⟩) n c1) X) := ⟨_, HS.out, rfl, rfl⟩
  have HS1 := hid hL.1
  have j0 := hid hL.2.1
  have j1 := hid hL.2.2
  clear hL HS
  go_loopw [19] (fun i wr => ∃ a : Nat, a ≤ n ∧ i = .int .i64 a ∧ Hid (allTo (fun a => allB (fun b => !sepP X Y s a b) a) a) ∧ Hid (Led w wr L)) (fun i _ => n - (intOf i).toNat)
  case atStart => exact ⟨0, Nat.zero_le _, rfl, allTo_zero _, HS1⟩
  case round =>
    clear HS1
    obtain ⟨a, ha, rfl, hall, HS⟩ := hrel
    by_cases hlt : a < n
    · go_wp2_with fail
      go_loopw [23] (fun i wr => ∃ b : Nat, b ≤ a ∧ i = .int .i64 b ∧ Hid (allTo (fun b => !sepP X Y s a b) b) ∧ Hid (Led w wr L)) (fun i _ => a - (intOf i).toNat)
      case atStart => exact ⟨0, Nat.zero_le _, rfl, allTo_zero _, HS⟩
      case round =>
        clear HS
        obtain ⟨b, hb, rfl, hin, HS⟩ := hrel
        by_cases hlt2 : b < a
        · have hbn : b < n := by omega
          have ia : (a : Int) < (n : Int) := by omega
          have ib : (b : Int) < (n : Int) := by omega
          have x0 : ∀ w', Cls wr w' → w'.cell? ⟨g1, a, none⟩ = some (.int .i64 (valL X a)) := fun _ h => h.cell (HS.out.int_at 1 j1.out (j := a) (by rw [hX.out]; omega))
          have x1 : ∀ w', Cls wr w' → w'.cell? ⟨g1, b, none⟩ = some (.int .i64 (valL X b)) := fun _ h => h.cell (HS.out.int_at 1 j1.out (j := b) (by rw [hX.out]; omega))
          have y0 : ∀ w', Cls wr w' → w'.cell? ⟨g2, a, none⟩ = some (.int .i64 (valL Y a)) := fun _ h => h.cell (HS.out.int_at 0 j0.out (j := a) (by rw [hY.out]; omega))
          have y1 : ∀ w', Cls wr w' → w'.cell? ⟨g2, b, none⟩ = some (.int .i64 (valL Y b)) := fun _ h => h.cell (HS.out.int_at 0 j0.out (j := b) (by rw [hY.out]; omega))
          cases ga : ((a : Int) == s)
          · have na : ((a : Int) != s) = true := by rw [bne, ga]; rfl
            cases gb : ((b : Int) == s)
            · have nb : ((b : Int) != s) = true := by rw [bne, gb]; rfl
              cases gx : (valL X a == valL X b)
              · have HP : Hid (sepP X Y s a b = false) := by unfold Hid; rw [sepP_eq, gx]; simp
                go_wp2_with fail
                refine region_cls (by kernel_rfl) (by kernel_rfl) ?_
                repeat (first
                  | ((with_reducible refine quiet_pos ?_ (fun K hK => ?_))
                     · rfl
                     apply Exists.intro
                     refine ⟨fun w' hw' => ?_, ?_⟩
                     · go_simp
                       with_reducible rfl
                     simp only [Act.put, List.setIfInBounds_toArray, List.set_cons_zero, List.set_cons_succ]
                     refine hK _ ?_; clear hK K)
                  | ((with_reducible refine quiet_neg ?_ (fun K hK => ?_))
                     · rfl
                     simp only [Act.put, List.setIfInBounds_toArray, List.set_cons_zero, List.set_cons_succ]
                     refine hK _ ?_; clear hK K))
                with_reducible refine wpQuiet_nil ?_
                intro wz hwz'
                have HS2 := hid (HS.out.step hwz')
                clear HS x0 x1 y0 y1 hwz'
                have HA : Hid (allTo (fun b => !sepP X Y s a b) (b + 1)) := allTo_succ hin.out (by rw [HP.out]; rfl)
                clear HP hin
                go_wp2
                exact ⟨⟨b + 1, by omega, by go_num, HA, HS2⟩, by simp [intOf]; omega⟩
              · cases gy : (valL Y a == valL Y b)
                · have ny : (valL Y a != valL Y b) = true := by rw [bne, gy]; rfl
                  have HP : Hid (sepP X Y s a b = true) := by unfold Hid; rw [sepP_eq, ga, gb, gx, gy]; rfl
                  go_wp2_with fail
                  refine region_cls (by kernel_rfl) (by kernel_rfl) ?_
                  repeat (first
                    | ((with_reducible refine quiet_pos ?_ (fun K hK => ?_))
                       · rfl
                       apply Exists.intro
                       refine ⟨fun w' hw' => ?_, ?_⟩
                       · go_simp
                         with_reducible rfl
                       simp only [Act.put, List.setIfInBounds_toArray, List.set_cons_zero, List.set_cons_succ]
                       refine hK _ ?_; clear hK K)
                    | ((with_reducible refine quiet_neg ?_ (fun K hK => ?_))
                       · rfl
                       simp only [Act.put, List.setIfInBounds_toArray, List.set_cons_zero, List.set_cons_succ]
                       refine hK _ ?_; clear hK K))
                  with_reducible refine wpQuiet_nil ?_
                  intro wz hwz'
                  have HS2 := hid (HS.out.step hwz')
                  clear HS x0 x1 y0 y1 hwz'
                  have HR : Hid (sepB n X Y s = true) := sepB_yes hlt hlt2 HP.out
                  go_wp2
                  go_ret
                  exact ⟨by rw [← HRR.out, HR.out]; rfl, HS2.out.bl⟩
                · have ny : (valL Y a != valL Y b) = false := by rw [bne, gy]; rfl
                  have HP : Hid (sepP X Y s a b = false) := by unfold Hid; rw [sepP_eq, gy]; simp
                  go_wp2_with fail
                  refine region_cls (by kernel_rfl) (by kernel_rfl) ?_
                  repeat (first
                    | ((with_reducible refine quiet_pos ?_ (fun K hK => ?_))
                       · rfl
                       apply Exists.intro
                       refine ⟨fun w' hw' => ?_, ?_⟩
                       · go_simp
                         with_reducible rfl
                       simp only [Act.put, List.setIfInBounds_toArray, List.set_cons_zero, List.set_cons_succ]
                       refine hK _ ?_; clear hK K)
                    | ((with_reducible refine quiet_neg ?_ (fun K hK => ?_))
                       · rfl
                       simp only [Act.put, List.setIfInBounds_toArray, List.set_cons_zero, List.set_cons_succ]
                       refine hK _ ?_; clear hK K))
                  with_reducible refine wpQuiet_nil ?_
                  intro wz hwz'
                  have HS2 := hid (HS.out.step hwz')
                  clear HS x0 x1 y0 y1 hwz'
                  have HA : Hid (allTo (fun b => !sepP X Y s a b) (b + 1)) := allTo_succ hin.out (by rw [HP.out]; rfl)
                  clear HP hin
                  go_wp2
                  exact ⟨⟨b + 1, by omega, by go_num, HA, HS2⟩, by simp [intOf]; omega⟩
            · have nb : ((b : Int) != s) = false := by rw [bne, gb]; rfl
              have HP : Hid (sepP X Y s a b = false) := by unfold Hid; rw [sepP_eq, gb]; simp
              go_wp2_with fail
              refine region_cls (by kernel_rfl) (by kernel_rfl) ?_
              repeat (first
                | ((with_reducible refine quiet_pos ?_ (fun K hK => ?_))
                   · rfl
                   apply Exists.intro
                   refine ⟨fun w' hw' => ?_, ?_⟩
                   · go_simp
                     with_reducible rfl
                   simp only [Act.put, List.setIfInBounds_toArray, List.set_cons_zero, List.set_cons_succ]
                   refine hK _ ?_; clear hK K)
                | ((with_reducible refine quiet_neg ?_ (fun K hK => ?_))
                   · rfl
                   simp only [Act.put, List.setIfInBounds_toArray, List.set_cons_zero, List.set_cons_succ]
                   refine hK _ ?_; clear hK K))
              with_reducible refine wpQuiet_nil ?_
              intro wz hwz'
              have HS2 := hid (HS.out.step hwz')
              clear HS x0 x1 y0 y1 hwz'
              have HA : Hid (allTo (fun b => !sepP X Y s a b) (b + 1)) := allTo_succ hin.out (by rw [HP.out]; rfl)
              clear HP hin
              go_wp2
              exact ⟨⟨b + 1, by omega, by go_num, HA, HS2⟩, by simp [intOf]; omega⟩
          · have na : ((a : Int) != s) = false := by rw [bne, ga]; rfl
            have HP : Hid (sepP X Y s a b = false) := by unfold Hid; rw [sepP_eq, ga]; simp
            go_wp2_with fail
            refine region_cls (by kernel_rfl) (by kernel_rfl) ?_
            repeat (first
              | ((with_reducible refine quiet_pos ?_ (fun K hK => ?_))
                 · rfl
                 apply Exists.intro
                 refine ⟨fun w' hw' => ?_, ?_⟩
                 · go_simp
                   with_reducible rfl
                 simp only [Act.put, List.setIfInBounds_toArray, List.set_cons_zero, List.set_cons_succ]
                 refine hK _ ?_; clear hK K)
              | ((with_reducible refine quiet_neg ?_ (fun K hK => ?_))
                 · rfl
                 simp only [Act.put, List.setIfInBounds_toArray, List.set_cons_zero, List.set_cons_succ]
                 refine hK _ ?_; clear hK K))
            with_reducible refine wpQuiet_nil ?_
            intro wz hwz'
            have HS2 := hid (HS.out.step hwz')
            clear HS x0 x1 y0 y1 hwz'
            have HA : Hid (allTo (fun b => !sepP X Y s a b) (b + 1)) := allTo_succ hin.out (by rw [HP.out]; rfl)
            clear HP hin
            go_wp2
            exact ⟨⟨b + 1, by omega, by go_num, HA, HS2⟩, by simp [intOf]; omega⟩
        · have hba : b = a := by omega
          have HA : Hid (allTo (fun a => allB (fun b => !sepP X Y s a b) a) (a + 1)) := allTo_succ hall.out (allB_yes hin.out hba)
          clear hba hin hall
          go_wp2
          refine ⟨?_, by simp [intOf]; omega⟩
          first
            | exact ⟨a + 1, by omega, by go_num, HA, HS⟩
            | ((repeat apply Exists.intro); exact ⟨⟨a + 1, by omega, by go_num, HA, HS⟩, rfl⟩)
    · have han : a = n := by omega
      have HR : Hid (sepB n X Y s = false) := by unfold Hid sepB; rw [allB_yes hall.out han]; rfl
      clear han hall
      go_wp2
      go_ret
      exact ⟨by rw [← HRR.out, HR.out]; rfl, HS.out.bl⟩
set_option maxHeartbeats 4000000 in
set_option maxRecDepth 100000 in
theorem l6Splits_any (M : Nat) (s : Int) (w : World) (h : NetIs w A n c A' m d xs fs) (hM : M < 2 ^ 20) (he : endsB n fs) (hn0 : 0 < n) (hm20 : m ≤ 20) :
    Calls Try.prog 73 #[.agg #[.slice A n c, .slice A' m d], .int .i64 (M : Int), .int .i64 s] w fun e w' => e = .returned (.bool (sepB n (compL (goneF []) fs n) (compL (fun i => M.testBit i) fs n) s)) ∧ Below w.heap.size w w' := by
  have hS := (Led.nil w).blk_ w.heap.size rfl 27 #[.slice A n c, .slice A' m d]
  obtain ⟨r, hr⟩ : ∃ r, sepB n (compL (goneF []) fs n) (compL (fun i => M.testBit i) fs n) s = r := ⟨_, rfl⟩
  rw [hr]
  have HRR := hid hr
  clear hr
  have HN := hid h
  have HE := hid he
  have hn := h.nle
  have HM := hid hM
  have HZ0 : Hid (compL (fun i => (0 : Nat).testBit i) fs n = compL (goneF []) fs n) := compL_congr fun j _ => by rw [Nat.zero_testBit]; exact (Bool.eq_false_iff.2 (fun h => by have h1 := hasB_iff.1 h; cases h1)).symm
  clear hM
  clear h he
  go_enter Try.func73, Try.ntmps73
  go_wp2_with fail
  generalize w.alloc (.cells #[.slice A n c, .slice A' m d] 27) = W0 at *
  have C0 : ∀ w', Cls W0 w' → w'.cell? ⟨w.heap.size, 0, none⟩ = some (.slice A n c) := fun _ h => h.cell (hS.cell 0 0 rfl rfl)
  have C1 : ∀ w', Cls W0 w' → w'.cell? ⟨w.heap.size, 1, none⟩ = some (.slice A' m d) := fun _ h => h.cell (hS.cell 0 1 rfl rfl)
  have HL := hid (fun w' (h : Cls W0 w') => hS.step h)
  go_region_held3 (fun w' => Cls W0 w') (first | exact Cls.drew _ | exact Cls.next (by assumption) (by assumption))
    (first
      | (go_at_call_of 134 (Value.int .i64 0); refine (labels_any 0 _ (HN.out.grow (HL.out _ (by assumption)).bl) (by decide) HE.out hn0 hm20).mono ?_; rintro e w' ⟨v1, rfl, ho1, hb1⟩; rw [HZ0.out] at ho1; obtain ⟨g1, c1, rfl⟩ := ho1.splitg compL_len hn0; have hL1 := (HL.out _ (by assumption)).owns hb1 ho1)
      | (go_at_call_of 134 (Value.int .i64 (M : Int)); refine (labels_any M _ (HN.out.grow hL1.bl) HM.out HE.out hn0 hm20).mono ?_; rintro e w' ⟨v2, rfl, ho2, hb2⟩; obtain ⟨g2, c2, rfl⟩ := ho2.splitg compL_len hn0))
  have hL2 := hL1.owns hb2 ho2
  generalize w' = W2 at *
  have hX : Hid ((compL (goneF []) fs n).length = n) := compL_len
  have hY : Hid ((compL (fun i => M.testBit i) fs n).length = n) := compL_len
  generalize compL (goneF []) fs n = X at *
  generalize (compL (fun i => M.testBit i) fs n) = Y at *
  have HS := hid hL2
  clear HL C0 C1 hL1 hL2 hb1 hb2 ho1 ho2 hS
  go_wp2_with fail
  obtain ⟨L, hL⟩ : ∃ L, Led w W2 L ∧ L[0]? = some (tOwns elInt _ 3 (.slice (some ⟨g2, 0, none⟩) n c2) Y) ∧ L[1]? = some (tOwns elInt _ 3 (.slice (some ⟨g1, 0, none⟩) n c1) X) := ⟨_, HS.out, rfl, rfl⟩
  have HS1 := hid hL.1
  have j0 := hid hL.2.1
  have j1 := hid hL.2.2
  clear hL HS
  go_loopw [9] (fun i wr => ∃ a : Nat, a ≤ n ∧ i = .int .i64 a ∧ Hid (allTo (fun a => allB (fun i => !sepP X Y s a (a + 1 + i)) (n - (a + 1))) a) ∧ Hid (Led w wr L)) (fun i _ => n - (intOf i).toNat)
  case atStart => exact ⟨0, Nat.zero_le _, rfl, allTo_zero _, HS1⟩
  case round =>
    clear HS1
    obtain ⟨a, ha, rfl, hall, HS⟩ := hrel
    by_cases hlt : a < n
    · go_wp2_with fail
      go_loopw [10] (fun i wr => ∃ j : Nat, j ≤ n - (a + 1) ∧ i = .int .i64 ((a + 1 + j : Nat) : Int) ∧ Hid (allTo (fun i => !sepP X Y s a (a + 1 + i)) j) ∧ Hid (Led w wr L)) (fun i _ => n - (intOf i).toNat)
      case atStart => exact ⟨0, Nat.zero_le _, by go_num, allTo_zero _, HS⟩
      case round =>
        clear HS
        obtain ⟨j, hj, rfl, hin, HS⟩ := hrel
        by_cases hlt2 : j < n - (a + 1)
        · obtain ⟨b, hbe⟩ : ∃ b, b = a + 1 + j := ⟨_, rfl⟩
          rw [← hbe]
          have HBE := hid hbe
          have hbn : b < n := by omega
          have hab : a < b := by omega
          clear hbe
          have ia : (a : Int) < (n : Int) := by omega
          have ib : (b : Int) < (n : Int) := by omega
          have x0 : ∀ w', Cls wr w' → w'.cell? ⟨g1, a, none⟩ = some (.int .i64 (valL X a)) := fun _ h => h.cell (HS.out.int_at 1 j1.out (j := a) (by rw [hX.out]; omega))
          have x1 : ∀ w', Cls wr w' → w'.cell? ⟨g1, b, none⟩ = some (.int .i64 (valL X b)) := fun _ h => h.cell (HS.out.int_at 1 j1.out (j := b) (by rw [hX.out]; omega))
          have y0 : ∀ w', Cls wr w' → w'.cell? ⟨g2, a, none⟩ = some (.int .i64 (valL Y a)) := fun _ h => h.cell (HS.out.int_at 0 j0.out (j := a) (by rw [hY.out]; omega))
          have y1 : ∀ w', Cls wr w' → w'.cell? ⟨g2, b, none⟩ = some (.int .i64 (valL Y b)) := fun _ h => h.cell (HS.out.int_at 0 j0.out (j := b) (by rw [hY.out]; omega))
          cases ga : ((a : Int) == s)
          · have na : ((a : Int) != s) = true := by rw [bne, ga]; rfl
            cases gb : ((b : Int) == s)
            · have nb : ((b : Int) != s) = true := by rw [bne, gb]; rfl
              cases gx : (valL X a == valL X b)
              · have HP : Hid (sepP X Y s a b = false) := by unfold Hid; rw [sepP_eq, gx]; simp
                go_wp2_with fail
                refine region_cls (by kernel_rfl) (by kernel_rfl) ?_
                repeat (first
                  | ((with_reducible refine quiet_pos ?_ (fun K hK => ?_))
                     · rfl
                     apply Exists.intro
                     refine ⟨fun w' hw' => ?_, ?_⟩
                     · go_simp
                       with_reducible rfl
                     simp only [Act.put, List.setIfInBounds_toArray, List.set_cons_zero, List.set_cons_succ]
                     refine hK _ ?_; clear hK K)
                  | ((with_reducible refine quiet_neg ?_ (fun K hK => ?_))
                     · rfl
                     simp only [Act.put, List.setIfInBounds_toArray, List.set_cons_zero, List.set_cons_succ]
                     refine hK _ ?_; clear hK K))
                with_reducible refine wpQuiet_nil ?_
                intro wz hwz'
                have HS2 := hid (HS.out.step hwz')
                clear HS x0 x1 y0 y1 hwz'
                have HA : Hid (allTo (fun i => !sepP X Y s a (a + 1 + i)) (j + 1)) := allTo_succ hin.out (by rw [← HBE.out, HP.out]; rfl)
                clear HP hin
                go_wp2
                have HB := HBE.out
                exact ⟨⟨j + 1, by omega, by go_num, HA, HS2⟩, by simp [intOf]; omega⟩
              · cases gy : (valL Y a == valL Y b)
                · have ny : (valL Y a != valL Y b) = true := by rw [bne, gy]; rfl
                  have HP : Hid (sepP X Y s a b = true) := by unfold Hid; rw [sepP_eq, ga, gb, gx, gy]; rfl
                  go_wp2_with fail
                  refine region_cls (by kernel_rfl) (by kernel_rfl) ?_
                  repeat (first
                    | ((with_reducible refine quiet_pos ?_ (fun K hK => ?_))
                       · rfl
                       apply Exists.intro
                       refine ⟨fun w' hw' => ?_, ?_⟩
                       · go_simp
                         with_reducible rfl
                       simp only [Act.put, List.setIfInBounds_toArray, List.set_cons_zero, List.set_cons_succ]
                       refine hK _ ?_; clear hK K)
                    | ((with_reducible refine quiet_neg ?_ (fun K hK => ?_))
                       · rfl
                       simp only [Act.put, List.setIfInBounds_toArray, List.set_cons_zero, List.set_cons_succ]
                       refine hK _ ?_; clear hK K))
                  with_reducible refine wpQuiet_nil ?_
                  intro wz hwz'
                  have HS2 := hid (HS.out.step hwz')
                  clear HS x0 x1 y0 y1 hwz'
                  have HR : Hid (sepB n X Y s = true) := by unfold Hid; rw [← splB_eq]; exact splB_yes hbn hab HP.out
                  go_wp2
                  go_ret
                  exact ⟨by rw [← HRR.out, HR.out]; rfl, HS2.out.bl⟩
                · have ny : (valL Y a != valL Y b) = false := by rw [bne, gy]; rfl
                  have HP : Hid (sepP X Y s a b = false) := by unfold Hid; rw [sepP_eq, gy]; simp
                  go_wp2_with fail
                  refine region_cls (by kernel_rfl) (by kernel_rfl) ?_
                  repeat (first
                    | ((with_reducible refine quiet_pos ?_ (fun K hK => ?_))
                       · rfl
                       apply Exists.intro
                       refine ⟨fun w' hw' => ?_, ?_⟩
                       · go_simp
                         with_reducible rfl
                       simp only [Act.put, List.setIfInBounds_toArray, List.set_cons_zero, List.set_cons_succ]
                       refine hK _ ?_; clear hK K)
                    | ((with_reducible refine quiet_neg ?_ (fun K hK => ?_))
                       · rfl
                       simp only [Act.put, List.setIfInBounds_toArray, List.set_cons_zero, List.set_cons_succ]
                       refine hK _ ?_; clear hK K))
                  with_reducible refine wpQuiet_nil ?_
                  intro wz hwz'
                  have HS2 := hid (HS.out.step hwz')
                  clear HS x0 x1 y0 y1 hwz'
                  have HA : Hid (allTo (fun i => !sepP X Y s a (a + 1 + i)) (j + 1)) := allTo_succ hin.out (by rw [← HBE.out, HP.out]; rfl)
                  clear HP hin
                  go_wp2
                  have HB := HBE.out
                  exact ⟨⟨j + 1, by omega, by go_num, HA, HS2⟩, by simp [intOf]; omega⟩
            · have nb : ((b : Int) != s) = false := by rw [bne, gb]; rfl
              have HP : Hid (sepP X Y s a b = false) := by unfold Hid; rw [sepP_eq, gb]; simp
              go_wp2_with fail
              refine region_cls (by kernel_rfl) (by kernel_rfl) ?_
              repeat (first
                | ((with_reducible refine quiet_pos ?_ (fun K hK => ?_))
                   · rfl
                   apply Exists.intro
                   refine ⟨fun w' hw' => ?_, ?_⟩
                   · go_simp
                     with_reducible rfl
                   simp only [Act.put, List.setIfInBounds_toArray, List.set_cons_zero, List.set_cons_succ]
                   refine hK _ ?_; clear hK K)
                | ((with_reducible refine quiet_neg ?_ (fun K hK => ?_))
                   · rfl
                   simp only [Act.put, List.setIfInBounds_toArray, List.set_cons_zero, List.set_cons_succ]
                   refine hK _ ?_; clear hK K))
              with_reducible refine wpQuiet_nil ?_
              intro wz hwz'
              have HS2 := hid (HS.out.step hwz')
              clear HS x0 x1 y0 y1 hwz'
              have HA : Hid (allTo (fun i => !sepP X Y s a (a + 1 + i)) (j + 1)) := allTo_succ hin.out (by rw [← HBE.out, HP.out]; rfl)
              clear HP hin
              go_wp2
              have HB := HBE.out
              exact ⟨⟨j + 1, by omega, by go_num, HA, HS2⟩, by simp [intOf]; omega⟩
          · have na : ((a : Int) != s) = false := by rw [bne, ga]; rfl
            have HP : Hid (sepP X Y s a b = false) := by unfold Hid; rw [sepP_eq, ga]; simp
            go_wp2_with fail
            refine region_cls (by kernel_rfl) (by kernel_rfl) ?_
            repeat (first
              | ((with_reducible refine quiet_pos ?_ (fun K hK => ?_))
                 · rfl
                 apply Exists.intro
                 refine ⟨fun w' hw' => ?_, ?_⟩
                 · go_simp
                   with_reducible rfl
                 simp only [Act.put, List.setIfInBounds_toArray, List.set_cons_zero, List.set_cons_succ]
                 refine hK _ ?_; clear hK K)
              | ((with_reducible refine quiet_neg ?_ (fun K hK => ?_))
                 · rfl
                 simp only [Act.put, List.setIfInBounds_toArray, List.set_cons_zero, List.set_cons_succ]
                 refine hK _ ?_; clear hK K))
            with_reducible refine wpQuiet_nil ?_
            intro wz hwz'
            have HS2 := hid (HS.out.step hwz')
            clear HS x0 x1 y0 y1 hwz'
            have HA : Hid (allTo (fun i => !sepP X Y s a (a + 1 + i)) (j + 1)) := allTo_succ hin.out (by rw [← HBE.out, HP.out]; rfl)
            clear HP hin
            go_wp2
            have HB := HBE.out
            exact ⟨⟨j + 1, by omega, by go_num, HA, HS2⟩, by simp [intOf]; omega⟩
        · have hja : j = n - (a + 1) := by omega
          have HA : Hid (allTo (fun a => allB (fun i => !sepP X Y s a (a + 1 + i)) (n - (a + 1))) (a + 1)) := allTo_succ hall.out (allB_yes hin.out hja)
          have inb : ¬ (((a + 1 + j : Nat) : Int) < (n : Int)) := by omega
          clear hin hall
          go_wp2
          refine ⟨?_, by simp [intOf]; omega⟩
          first
            | exact ⟨a + 1, by omega, by go_num, HA, HS⟩
            | ((repeat apply Exists.intro); exact ⟨⟨a + 1, by omega, by go_num, HA, HS⟩, rfl⟩)
    · have han : a = n := by omega
      have HR : Hid (sepB n X Y s = false) := by unfold Hid; rw [← splB_eq]; unfold splB; rw [allB_yes hall.out han]; rfl
      clear han hall
      go_wp2
      go_ret
      exact ⟨by rw [← HRR.out, HR.out]; rfl, HS.out.bl⟩
end
end Go.Proofs.Ytfepilpllfiegaa
/- CutNodes of both sides, walked. Conditions: none. -/
namespace Go.Proofs.Ytfepilpllfiegaa
open Go.RowKit
theorem calls_bool {P : Program} {f : FuncId} {args : Array Value} {w : World} {b b' : Bool} (h : Calls P f args w fun e w' => e = .returned (.bool b) ∧ Below w.heap.size w w') (e : b = b') : Calls P f args w fun e w' => e = .returned (.bool b') ∧ Below w.heap.size w w' := by subst e; exact h
/-- What walks of these chapters ask of a network. -/
theorem good_parts {n c m d : Nat} {A A' : Option Addr} {xs : List ByteArray} {fs : List Fib} {w : World} (h : NetIs w A n c A' m d xs fs) (g : goodB xs fs = true) : endsB n fs ∧ 0 < n ∧ n ≤ 8 ∧ m ≤ 14 := by
  have he := goodB_ends g
  rw [h.xlen] at he
  have h1 := goodB_bd g
  have h2 := h.xlen
  have h3 := h.flen
  exact ⟨he, by omega, by omega, by omega⟩
theorem idsTo_range {p : Nat → Bool} {k : Nat} : ∀ x ∈ idsTo p k, 0 ≤ x ∧ x < k := fun x hx => by
  unfold idsTo at hx
  obtain ⟨j, hj, rfl⟩ := List.mem_map.1 hx
  have := (List.mem_filter.1 hj).1
  simp at this; omega
theorem maskN_comp {n : Nat} {fs : List Fib} {l : List Int} (h : ∀ x ∈ l, 0 ≤ x) : compL (fun i => (maskN l).testBit i) fs n = compL (goneF l) fs n := compL_congr fun i _ => maskN_bit h i
section
variable {n c m d : Nat} {A A' : Option Addr} {xs : List ByteArray} {fs : List Fib}
set_option maxHeartbeats 2000000 in
set_option maxRecDepth 100000 in
theorem implCutNodes (w : World) (h : NetIs w A n c A' m d xs fs) :
    Calls Try.prog 23 #[.agg #[.slice A n c, .slice A' m d]] w fun e w' => ∃ v, e = .returned (.tuple #[v, .bool (goodB xs fs)]) ∧ Owns elInt w' w.heap.size 3 v (cnL xs fs) ∧ Below w.heap.size w w' := by
  have hS := (Led.nil w).blk_ w.heap.size rfl 27 #[.slice A n c, .slice A' m d]
  cases g : goodB xs fs
  · have H : Hid (cnL xs fs = []) := by unfold Hid cnL; rw [g]; rfl
    go_enter Try.func23, Try.ntmps23
    go_wp2_with fail
    refine (validN _ (h.grow hS.bl)).mono ?_
    rintro e w1 ⟨rfl, hb⟩
    rw [g]
    go_wp2_with fail
    go_ret2
    exact ⟨_, rfl, by rw [H.out]; exact World.ownsRow_nil _ _ _ _, bl_then hS.bl hb⟩
  · have H : Hid (cnL xs fs = idsTo (cnF fs n) n) := by unfold Hid cnL; rw [g, h.xlen]; rfl
    obtain ⟨he, hn0, hn8, hm14⟩ := good_parts h g
    have HE := hid he
    have HLF := hid h.flen
    obtain ⟨i0, hi, hz0, hz1, hz2⟩ := info_parts int_info
    go_enter Try.func23, Try.ntmps23
    go_wp2_with fail
    refine (validN _ (h.grow hS.bl)).mono ?_
    rintro e w1 ⟨rfl, hb⟩
    rw [g]
    replace hS := (hS.step hb).empty elInt 3 w1.heap.size rfl w.heap.size (hS.step hb).bl.size
    rw [← idsTo_zero (cnF fs n)] at hS
    have HS := hid hS
    have q1 := HS.out.cell 1 0 rfl rfl
    have HF := hid h
    clear hS hb h he
    go_wp2_with fail
    clear q1
    go_loopw [4, 13] (fun v i wr => ∃ k : Nat, k ≤ n ∧ i = .int .i64 k ∧ Hid (Led w wr [tOwns elInt w.heap.size 3 v (idsTo (cnF fs n) k), tBlk w.heap.size 27 #[.slice A n c, .slice A' m d]])) (fun _ i _ => n - (intOf i).toNat)
    case atStart => exact ⟨0, Nat.zero_le _, rfl, HS⟩
    case round =>
      clear HS
      obtain ⟨k, hk, rfl, HS⟩ := hrel
      by_cases hlt : k < n
      · have hll := idsTo_len (cnF fs n) k
        have C0 : ∀ w', Cls wr w' → w'.cell? ⟨w.heap.size, 0, none⟩ = some (.slice A n c) := fun _ h => h.cell (HS.out.cell 1 0 rfl rfl)
        have C1 : ∀ w', Cls wr w' → w'.cell? ⟨w.heap.size, 1, none⟩ = some (.slice A' m d) := fun _ h => h.cell (HS.out.cell 1 1 rfl rfl)
        have HL := hid (fun w' (h : Cls wr w') => HS.out.step h)
        obtain ⟨r, hr⟩ : ∃ r, cnF fs n k = r := ⟨_, rfl⟩
        have HP : Hid (sepB n (compL (goneF []) fs n) (compL (goneF (idsTo (touchesF fs (k : Int)) m)) fs n) (k : Int) = r) := by rw [← hr]; unfold cnF; rw [HLF.out]; rfl
        have HR := hid hr
        have hil := idsTo_len (touchesF fs (k : Int)) m
        clear hr
        go_wp2_with fail
        go_region_held3 (fun w' => Cls wr w') (first | exact Cls.refl _ | exact Cls.drew _ | exact Cls.next (by assumption) (by assumption))
          (first
            | (go_at_call 72; refine (fibersAt_any (k : Int) _ (HF.out.grow (HL.out _ (by assumption)).bl)).mono ?_; rintro e w' ⟨v1, rfl, ho1, hb1⟩; obtain ⟨A1, c1, rfl, _⟩ := ho1.form; have hL1 := (HL.out _ (by assumption)).owns hb1 ho1)
            | (go_at_call 71; refine (calls_bool (separates_any (k : Int) _ (HF.out.grow hL1.bl) (hL1.seesI 0 rfl) (by omega) HE.out hn0) HP.out).mono ?_; rintro e w' ⟨rfl, hb2⟩))
        have hL2 := hL1.step hb2
        clear HL C0 C1 hL1 hb1 hb2 ho1 HS
        generalize w' = W2 at *
        cases r
        · have HN : Hid (idsTo (cnF fs n) (k + 1) = idsTo (cnF fs n) k) := idsTo_no HR.out
          have hS6 := hid (hL2.drop 1)
          clear hL2 HP
          go_wp2
          exact ⟨⟨k + 1, by omega, by go_num, by rw [HN.out]; exact hS6⟩, by simp [intOf]; omega⟩
        · have HN : Hid (idsTo (cnF fs n) (k + 1) = idsTo (cnF fs n) k ++ [(k : Int)]) := idsTo_yes HR.out
          obtain ⟨A3, c3, rfl, _⟩ := hL2.form 1 rfl
          have HS2 := hid (hL2.blk_ W2.heap.size rfl 3 #[.int .i64 k])
          clear hL2 HP
          go_wp2_with (first
            | (at_builtin; refine wpList_append_led rfl _ _ 33 rfl HS2.out 2 rfl Try.underlying33 hi hz0 hz1 (by rw [hz2]; decide) rfl rfl rfl (show Sees elInt _ _ _ 1 [(k : Int)] from sees_new elInt _ _ _ _ rfl) (by omega) HS2.out.bl.size ?_)
            | go_in)
          intro A2 c2 w7 hS5
          have hS6 := hid (hS5.drop 2)
          clear HS2 hS5
          go_wp2
          go_roundw
          case rel => exact ⟨k + 1, by omega, by go_num, by rw [HN.out]; exact hS6⟩
          case measure => simp [intOf]; omega
      · have hkm : k = n := by omega
        subst hkm
        clear hlt
        go_wp2
        go_ret2
        exact ⟨_, rfl, by rw [H.out]; exact HS.out.own 0 rfl, HS.out.bl⟩
set_option maxHeartbeats 2000000 in
set_option maxRecDepth 100000 in
theorem specCutNodes (w : World) (h : NetIs w A n c A' m d xs fs) :
    Calls Try.prog 24 #[.agg #[.slice A n c, .slice A' m d]] w fun e w' => ∃ v, e = .returned (.tuple #[v, .bool (goodB xs fs)]) ∧ Owns elInt w' w.heap.size 3 v (cnL xs fs) ∧ Below w.heap.size w w' := by
  have hS := ((Led.nil w).blk_ w.heap.size rfl 27 #[.slice A n c, .slice A' m d]).empty elInt 3 (w.heap.size + 1) (by simp) w.heap.size (by omega)
  cases g : goodB xs fs
  · have H : Hid (cnL xs fs = []) := by unfold Hid cnL; rw [g]; rfl
    go_enter Try.func24, Try.ntmps24
    go_wp2_with fail
    refine (goodN _ (h.grow hS.bl)).mono ?_
    rintro e w1 ⟨rfl, hb⟩
    rw [g]
    replace hS := hS.step hb
    go_wp2_with fail
    go_ret2
    exact ⟨_, rfl, by rw [H.out]; exact hS.own 0 rfl, hS.bl⟩
  · have H : Hid (cnL xs fs = idsTo (cnF fs n) n) := by unfold Hid cnL; rw [g, h.xlen]; rfl
    obtain ⟨he, hn0, hn8, hm14⟩ := good_parts h g
    have HE := hid he
    have HLF := hid h.flen
    have HLX := hid h.xlen
    have HG := hid g
    obtain ⟨i0, hi, hz0, hz1, hz2⟩ := info_parts int_info
    go_enter Try.func24, Try.ntmps24
    go_wp2_with fail
    refine (goodN _ (h.grow hS.bl)).mono ?_
    rintro e w1 ⟨rfl, hb⟩
    rw [g]
    replace hS := hS.step hb
    have HS : Hid (Led w w1 [tOwns elInt w.heap.size 3 (.slice (some ⟨w.heap.size + 1, 0, none⟩) 0 0) (idsTo (cnF fs n) 0), tBlk w.heap.size 27 #[.slice A n c, .slice A' m d]]) := hS
    have HF := hid h
    clear hS hb h he
    go_wp2_with fail
    go_loopw [4, 5] (fun v i wr => ∃ k : Nat, k ≤ n ∧ i = .int .i64 k ∧ Hid (Led w wr [tOwns elInt w.heap.size 3 v (idsTo (cnF fs n) k), tBlk w.heap.size 27 #[.slice A n c, .slice A' m d]])) (fun _ i _ => n - (intOf i).toNat)
    case atStart => exact ⟨0, Nat.zero_le _, rfl, HS⟩
    case round =>
      clear HS
      obtain ⟨k, hk, rfl, HS⟩ := hrel
      have q0 := HS.out.cell 1 0 rfl rfl
      by_cases hlt : k < n
      · have hll := idsTo_len (cnF fs n) k
        have q1 := HS.out.cell 1 1 rfl rfl
        obtain ⟨r, hr⟩ : ∃ r, cnF fs n k = r := ⟨_, rfl⟩
        have hfa : Hid (faB xs fs (k : Int) = true) := by unfold Hid faB; rw [HG.out]; unfold inB; rw [HLX.out]; simp; omega
        have hfi : Hid (faI xs fs (k : Int) = idsTo (touchesF fs (k : Int)) m) := by unfold Hid faI; rw [hfa.out, HLF.out]; rfl
        have hmem : ∀ x ∈ idsTo (touchesF fs (k : Int)) m, 0 ≤ x ∧ x < 20 := fun x hx => by have := idsTo_range x hx; omega
        have HP : Hid (sepB n (compL (goneF []) fs n) (compL (fun i => (maskN (idsTo (touchesF fs (k : Int)) m)).testBit i) fs n) (k : Int) = r) := by
          rw [← hr, maskN_comp (fun x hx => (hmem x hx).1)]; unfold cnF; rw [HLF.out]; rfl
        have HR := hid hr
        have hil := idsTo_len (touchesF fs (k : Int)) m
        have HMM := hid hmem
        have HMB : Hid (maskN (idsTo (touchesF fs (k : Int)) m) < 2 ^ 20) := maskTo_lt hmem _ (Nat.le_refl _)
        clear hr hmem
        go_wp2_with fail
        refine (specFibersAt (k : Int) _ (HF.out.grow HS.out.bl)).mono ?_
        rintro e w3 ⟨v3, rfl, ho3, hb3⟩
        rw [hfi.out] at ho3
        obtain ⟨A3, c3, rfl, _⟩ := ho3.form
        have hS1 := HS.out.owns hb3 ho3
        clear ho3 hb3 q0 q1 HS
        generalize hII : idsTo (touchesF fs (k : Int)) m = I at *
        have C0 : ∀ w', Cls w3 w' → w'.cell? ⟨w.heap.size, 0, none⟩ = some (.slice A n c) := fun _ h => h.cell (hS1.cell 2 0 rfl rfl)
        have C1 : ∀ w', Cls w3 w' → w'.cell? ⟨w.heap.size, 1, none⟩ = some (.slice A' m d) := fun _ h => h.cell (hS1.cell 2 1 rfl rfl)
        have HL := hid (fun w' (h : Cls w3 w') => hS1.step h)
        clear hII
        go_wp2_with fail
        go_region_held3 (fun w' => Cls w3 w') (first | exact Cls.refl _ | exact Cls.drew _ | assumption | exact Cls.next (by assumption) (by assumption))
          (first
            | (go_at_call 74; refine (mask_any _ ((HL.out _ (by assumption)).sees 0 rfl rfl) HMM.out (by omega)).mono ?_; rintro e w' ⟨rfl, rfl⟩)
            | (go_at_call 73; have hcl := ‹Cls w3 _›; refine (calls_bool (l6Splits_any (maskN I) (k : Int) _ (HF.out.grow (HL.out _ (by assumption)).bl) HMB.out HE.out hn0 (by omega)) HP.out).mono ?_; rintro e w' ⟨rfl, hb2⟩))
        have hL2 := (HL.out _ hcl).step hb2
        clear HL C0 C1 hS1 hb2 hcl
        generalize w' = W2 at *
        cases r
        · have HN : Hid (idsTo (cnF fs n) (k + 1) = idsTo (cnF fs n) k) := idsTo_no HR.out
          have hS6 := hid (hL2.drop 1)
          clear hL2 HP
          go_wp2
          exact ⟨⟨k + 1, by omega, by go_num, by rw [HN.out]; exact hS6⟩, by simp [intOf]; omega⟩
        · have HN : Hid (idsTo (cnF fs n) (k + 1) = idsTo (cnF fs n) k ++ [(k : Int)]) := idsTo_yes HR.out
          obtain ⟨A5, c5, rfl, _⟩ := hL2.form 1 rfl
          have HS2 := hid (hL2.blk_ W2.heap.size rfl 3 #[.int .i64 k])
          clear hL2 HP
          go_wp2_with (first
            | (at_builtin; refine wpList_append_led rfl _ _ 33 rfl HS2.out 2 rfl Try.underlying33 hi hz0 hz1 (by rw [hz2]; decide) rfl rfl rfl (show Sees elInt _ _ _ 1 [(k : Int)] from sees_new elInt _ _ _ _ rfl) (by omega) HS2.out.bl.size ?_)
            | go_in)
          intro A2 c2 w7 hS5
          have hS6 := hid (hS5.drop 2)
          clear HS2 hS5
          go_wp2
          go_roundw
          case rel => exact ⟨k + 1, by omega, by go_num, by rw [HN.out]; exact hS6⟩
          case measure => simp [intOf]; omega
      · have hkm : k = n := by omega
        subst hkm
        clear hlt
        go_wp2
        go_ret2
        exact ⟨_, rfl, by rw [H.out]; exact HS.out.own 0 rfl, HS.out.bl⟩
end
end Go.Proofs.Ytfepilpllfiegaa
/- Choices of so many numbers, in plain Lean: the first list for which something holds, in two spellings. Conditions: none. -/
namespace Go.Proofs.Ytfepilpllfiegaa
/-- The first of f k, f (k + 1), .. (r of them) that is there. -/
def firstO {α : Type} (f : Nat → Option α) (k : Nat) : Nat → Option α
  | 0 => none
  | r + 1 => match f k with
    | some x => some x
    | none => firstO f (k + 1) r
section
variable {α : Type} {f g : Nat → Option α} {k r : Nat}
theorem firstO_zero : firstO f k 0 = none := rfl
theorem firstO_some {x : α} (h : f k = some x) : firstO f k (r + 1) = some x := by unfold firstO; rw [h]
theorem firstO_none (h : f k = none) : firstO f k (r + 1) = firstO f (k + 1) r := by
  show (match f k with | some x => some x | none => firstO f (k + 1) r) = _
  rw [h]
theorem firstO_congr (h : ∀ i, k ≤ i → i < k + r → f i = g i) : firstO f k r = firstO g k r := by
  induction r generalizing k with
  | zero => rfl
  | succ r ih =>
    have h0 := h k (Nat.le_refl _) (by omega)
    have h1 := ih (k := k + 1) (fun i h1 h2 => h i (by omega) (by omega))
    cases hf : f k with
    | some x => rw [firstO_some hf, firstO_some (h0 ▸ hf)]
    | none => rw [firstO_none hf, firstO_none (h0 ▸ hf), h1]
theorem firstO_all (h : ∀ i, k ≤ i → i < k + r → f i = none) : firstO f k r = none := by
  induction r generalizing k with
  | zero => rfl
  | succ r ih => rw [firstO_none (h k (Nat.le_refl _) (by omega))]; exact ih fun i h1 h2 => h i (by omega) (by omega)
/-- Behind the first q there is none. -/
theorem firstO_short {q : Nat} (h : ∀ i, k + q ≤ i → i < k + r → f i = none) (hq : q ≤ r) : firstO f k r = firstO f k q := by
  induction r generalizing k q with
  | zero => rw [show q = 0 by omega]
  | succ r ih =>
    cases q with
    | zero => rw [firstO_all (fun i h1 h2 => h i (by omega) (by omega))]; rfl
    | succ q =>
      cases hf : f k with
      | some x => rw [firstO_some hf, firstO_some hf]
      | none => rw [firstO_none hf, firstO_none hf]; exact ih (fun i h1 h2 => h i (by omega) (by omega)) (by omega)
theorem firstO_map {β : Type} {u : α → β} : firstO (fun i => (f i).map u) k r = (firstO f k r).map u := by
  induction r generalizing k with
  | zero => rfl
  | succ r ih =>
    cases hf : f k with
    | some x => rw [firstO_some hf, firstO_some (x := u x) (by rw [hf]; rfl)]; rfl
    | none => rw [firstO_none hf, firstO_none (by rw [hf]; rfl), ih]
/-- The last one, if there is none before. -/
theorem firstO_last : firstO f k (r + 1) = match firstO f k r with | some x => some x | none => f (k + r) := by
  induction r generalizing k with
  | zero =>
    cases hf : f k with
    | some x => rw [firstO_some hf]; rfl
    | none => rw [firstO_none hf]; rfl
  | succ r ih =>
    cases hf : f k with
    | some x => rw [firstO_some hf, firstO_some hf]
    | none => rw [firstO_none hf, firstO_none hf, ih, show k + 1 + r = k + (r + 1) by omega]
end
/-- The program's: the list so far stands ahead. -/
def chooseL (p : List Int → Bool) (n : Nat) : Nat → Nat → List Int → Option (List Int)
  | 0, _, L => if p L then some L else none
  | c + 1, s, L => firstO (fun k => chooseL p n c (k + 1) (L ++ [(k : Int)])) s (n - s)
/-- The reference's: the rest of the list alone; a set is a number. -/
def chooseS (q : Nat → Bool) (S : Nat → Nat) (n : Nat) : Nat → Nat → Nat → Option (List Int)
  | 0, _, M => if q M then some [] else none
  | c + 1, s, M => firstO (fun i => (chooseS q S n c (i + 1) (M ||| S i)).map fun R => (i : Int) :: R) s (n - c - s)
/-- The sets of a list. -/
def unionS (S : Nat → Nat) (L : List Int) : Nat := L.foldl (fun M x => M ||| S x.toNat) 0
theorem unionS_nil (S : Nat → Nat) : unionS S [] = 0 := rfl
theorem unionS_add (S : Nat → Nat) (L : List Int) (k : Nat) : unionS S (L ++ [(k : Int)]) = unionS S L ||| S k := by simp [unionS]
section
variable {p : List Int → Bool} {q : Nat → Bool} {S : Nat → Nat} {n : Nat}
theorem chooseL_few : ∀ (c s : Nat) (L : List Int), n - s < c → chooseL p n c s L = none := by
  intro c
  induction c with
  | zero => intro s L h; omega
  | succ c ih =>
    intro s L h
    exact firstO_all fun i h1 h2 => ih _ _ (by omega)
/-- Numbers below n. -/
def lowL (n : Nat) (L : List Int) : Prop := ∀ x ∈ L, 0 ≤ x ∧ x < n
theorem lowL_add {L : List Int} {k : Nat} (h : lowL n L) (hk : k < n) : lowL n (L ++ [(k : Int)]) := by
  intro x hx
  rcases List.mem_append.1 hx with h1 | h1
  · exact h x h1
  · rw [List.mem_singleton] at h1; omega
theorem chooseL_eq (hp : ∀ L, lowL n L → p L = q (unionS S L)) : ∀ (c s : Nat) (L : List Int), lowL n L → chooseL p n c s L = (chooseS q S n c s (unionS S L)).map fun R => L ++ R := by
  intro c
  induction c with
  | zero =>
    intro s L hL
    show (if p L then some L else none) = (if q (unionS S L) then some [] else none).map _
    rw [hp L hL]
    cases q (unionS S L) <;> simp
  | succ c ih =>
    intro s L hL
    show firstO (fun k => chooseL p n c (k + 1) (L ++ [(k : Int)])) s (n - s) = (firstO _ s (n - c - s)).map _
    rw [firstO_short (q := n - c - s) (fun i h1 h2 => chooseL_few _ _ _ (by omega)) (by omega), ← firstO_map]
    refine firstO_congr fun i h1 h2 => ?_
    rw [ih _ _ (lowL_add hL (by omega)), unionS_add, Option.map_map]
    congr 1
    funext R
    simp
/-- All from s on. -/
def fromL (n s : Nat) : List Int := (List.range' s (n - s)).map fun (j : Nat) => (j : Int)
theorem fromL_cons {s : Nat} (h : s < n) : fromL n s = (s : Int) :: fromL n (s + 1) := by
  unfold fromL
  rw [show n - s = (n - (s + 1)) + 1 by omega, List.range'_succ]; rfl
theorem chooseL_whole : ∀ (c s : Nat) (L : List Int), s + c = n → p (L ++ fromL n s) = true → chooseL p n c s L = some (L ++ fromL n s) := by
  intro c
  induction c with
  | zero =>
    intro s L hs h
    have e : fromL n s = [] := by unfold fromL; rw [show n - s = 0 by omega]; rfl
    rw [e, List.append_nil] at h ⊢
    show (if p L then some L else none) = _
    rw [h]; rfl
  | succ c ih =>
    intro s L hs h
    rw [fromL_cons (by omega), List.append_cons] at h ⊢
    have h1 := ih (s + 1) (L ++ [(s : Int)]) (by omega) h
    show firstO _ s (n - s) = _
    rw [show n - s = (n - s - 1) + 1 by omega]
    exact firstO_some h1
/-- The program's first list of the fewest. -/
def fewL (p : List Int → Bool) (n : Nat) : Option (List Int) := firstO (fun c => chooseL p n c 0 []) 0 (n + 1)
/-- The reference's. -/
def cutS (q : Nat → Bool) (S : Nat → Nat) (n : Nat) : List Int := (firstO (fun c => chooseS q S n c 0 0) 0 n).getD (fromL n 0)
theorem fewL_eq (hp : ∀ L, lowL n L → p L = q (unionS S L)) (hall : p (fromL n 0) = true) : fewL p n = some (cutS q S n) := by
  have h0 : lowL n ([] : List Int) := fun x hx => by cases hx
  have hc : ∀ c, chooseL p n c 0 [] = chooseS q S n c 0 0 := fun c => by
    rw [chooseL_eq hp c 0 [] h0, unionS_nil]
    cases chooseS q S n c 0 0 <;> simp
  unfold fewL cutS
  rw [firstO_last]
  rw [firstO_congr (f := fun c => chooseL p n c 0 []) (g := fun c => chooseS q S n c 0 0) (fun i _ _ => hc i)]
  cases firstO (fun c => chooseS q S n c 0 0) 0 n with
  | some x => rfl
  | none =>
    show chooseL p n (0 + n) 0 [] = some (fromL n 0)
    rw [Nat.zero_add, chooseL_whole n 0 [] (by omega) (by simpa using hall)]; simp
/-- What is found is a list of numbers below n. -/
theorem chooseL_low : ∀ (c s : Nat) (L R : List Int), lowL n L → chooseL p n c s L = some R → lowL n R ∧ R.length = L.length + c ∧ p R = true := by
  intro c
  induction c with
  | zero =>
    intro s L R hL h
    have h : (if p L then some L else none) = some R := h
    split at h
    · rename_i hpL
      injection h with h; subst h; exact ⟨hL, rfl, hpL⟩
    · cases h
  | succ c ih =>
    intro s L R hL h
    have h : firstO (fun k => chooseL p n c (k + 1) (L ++ [(k : Int)])) s (n - s) = some R := h
    have key : ∀ r k, k + r ≤ n → firstO (fun k => chooseL p n c (k + 1) (L ++ [(k : Int)])) k r = some R → lowL n R ∧ R.length = L.length + (c + 1) ∧ p R = true := by
      intro r
      induction r with
      | zero => intro k _ h; cases h
      | succ r ihr =>
        intro k hk h
        cases hf : chooseL p n c (k + 1) (L ++ [(k : Int)]) with
        | some x =>
          rw [firstO_some hf] at h
          injection h with h; subst h
          have := ih _ _ _ (lowL_add hL (by omega)) hf
          simp at this
          exact ⟨this.1, by omega, this.2.2⟩
        | none => rw [firstO_none hf] at h; exact ihr (k + 1) (by omega) h
    rcases Nat.lt_or_ge n s with h1 | h1
    · rw [show n - s = 0 by omega] at h; cases h
    · exact key _ _ (by omega) h
theorem fewL_low {R : List Int} (h : fewL p n = some R) : lowL n R ∧ R.length ≤ n ∧ p R = true := by
  have h0 : lowL n ([] : List Int) := fun x hx => by cases hx
  unfold fewL at h
  have key : ∀ r k, k + r ≤ n + 1 → firstO (fun c => chooseL p n c 0 []) k r = some R → lowL n R ∧ R.length ≤ n ∧ p R = true := by
    intro r
    induction r with
    | zero => intro k _ h; cases h
    | succ r ihr =>
      intro k hk h
      cases hf : chooseL p n k 0 [] with
      | some x =>
        rw [firstO_some hf] at h
        injection h with h; subst h
        have := chooseL_low _ _ _ _ h0 hf
        simp at this
        exact ⟨this.1, by omega, this.2.2⟩
      | none => rw [firstO_none hf] at h; exact ihr (k + 1) (by omega) h
  exact key _ _ (by omega) h
end
end Go.Proofs.Ytfepilpllfiegaa
/- choices, fewest: the first list of the fewest numbers for which something holds, walked over whatever function asks. Conditions: as each states. -/
namespace Go.Proofs.Ytfepilpllfiegaa
open Go.RowKit
/-- The cells behind a slice's address. -/
theorem sees_cells {α : Type} {E : El α} {w : World} {B n : Nat} {ad : Addr} {ys : List α} (hy : Sees E w B (some ad) n ys) : ∀ j u, (ys.flatMap E.cells)[j]? = some u → w.cell? (ad.add j) = some u := by
  intro j u hj
  have hyl := hy.len
  rcases hy.2 with h | ⟨b, o, h, _, hc⟩
  · subst h
    rw [List.eq_nil_of_length_eq_zero hyl] at hj; simp at hj
  · injection h with h; subst h
    have hpos := E.pos
    have hjl : j < ys.length * E.sz := by rw [← flat_len]; exact (List.getElem?_eq_some_iff.1 hj).1
    have hk : j / E.sz < ys.length := (Nat.div_lt_iff_lt_mul hpos).2 hjl
    obtain ⟨y, hyk⟩ : ∃ y, ys[j / E.sz]? = some y := ⟨ys[j / E.sz], List.getElem?_eq_getElem hk⟩
    have hm : j % E.sz < (E.cells y).length := by rw [E.len]; exact Nat.mod_lt _ hpos
    have h1 := hc (j / E.sz) y hyk (j % E.sz) _ (List.getElem?_eq_getElem hm)
    have h2 := flat_get E ys (j / E.sz) y hyk (j % E.sz) _ (List.getElem?_eq_getElem hm)
    have e1 : j / E.sz * E.sz + j % E.sz = j := by rw [Nat.mul_comm]; exact Nat.div_add_mod j E.sz
    rw [e1] at h2
    rw [hj] at h2
    injection h2 with h2
    rw [← h2] at h1
    have e2 : o + j / E.sz * E.sz + j % E.sz = o + j := by omega
    rw [e2] at h1
    rw [← h1]
    unfold Addr.add
    split
    · rename_i h0; rw [h0, Nat.add_zero]
    · rfl
/-- append onto a slice without room, whose it may be. -/
theorem wpList_append_full {w : World} {ops : Array Oper} {rest : List Oper} {o : Oper} {a : Act} {Q : Exit → Act → World → Prop} (hgd : o.guard = none) (s x : Operand)
    (ho : o.op = Op.call { callee := Callee.builtin Builtin.append, args := #[s, x], argTypes := #[33, 33] }) {B C n c : Nat} {A X : Option Addr} {xs : List Int} {y : Int}
    (hs : a.eval s = .slice A n n) (hA : Sees elInt w B A n xs) (hx : a.eval x = .slice X 1 c) (hX : Sees elInt w C X 1 [y]) (hn : n ≤ 1048576)
    (h : ∀ v' w', Owns elInt w' w.heap.size 3 v' (xs ++ [y]) → Below w.heap.size w w' → wpList Try.prog ops Q rest (a.put o.dst v') w') : wpList Try.prog ops Q (o :: rest) a w := by
  obtain ⟨i0, hi, hz0, hz1, hz2⟩ := info_parts int_info
  have hlen := hA.len
  obtain ⟨b', o', rfl, _, _⟩ := hX.at_ (k := 0) (by decide)
  refine wpList_append_grows w hgd s x 33 ho 3 i0 (.int .i64 0) 1 8 Try.underlying33 hi hz0 hz1 hz2 rfl (by decide) A n n (xs.flatMap elInt.cells) hs (fun e => ?_) (by rw [flat_len, hlen]; rfl) (fun b e => ?_) ⟨b', o', none⟩ 1 c ([y].flatMap elInt.cells) hx rfl (sees_cells hX) (fun u hu => ?_) (by omega) (by unfold maxLen; omega) (by omega) (fun v' w' h1 h2 => h v' w' ?_ ?_)
  · rcases hA.2 with h0 | ⟨b, o, h0, _⟩
    · exact ⟨h0, h0⟩
    · rw [e] at h0; cases h0
  · subst e; exact sees_cells hA
  · obtain ⟨z, _, h2⟩ := List.mem_flatMap.1 hu
    exact elInt.one z u h2
  · unfold Owns
    rw [List.length_append, hlen, List.flatMap_append]
    exact h1
  · exact ⟨h2.os, h2.tape, h2.output, h2.size, fun k hk => h2.block k hk (fun e => by cases e)⟩
/-- A slice whose block is not the one that may have turned. -/
theorem Sees.apart {α : Type} {E : El α} {w w' : World} {B n g : Nat} {A : Option Addr} {xs : List α} (h : Sees E w B A n xs) (t : Touch (fun b => b = g) w w') (hne : ∀ b o, A = some ⟨b, o, none⟩ → b ≠ g) : Sees E w' w'.heap.size A n xs := by
  refine ⟨h.1, ?_⟩
  rcases h.2 with h0 | ⟨b, o, rfl, hb, hc⟩
  · exact .inl h0
  · rcases Nat.eq_zero_or_pos n with h0 | h0
    · exact .inl h0
    · have hk : ∀ k x, xs[k]? = some x → ∀ j u, (E.cells x)[j]? = some u → w'.cell? ⟨b, o + k * E.sz + j, none⟩ = some u := fun k x hx j u hu => by
        have h1 := hc k x hx j u hu
        exact (World.cell?_of_block (a := ⟨b, _, none⟩) (t.block b (World.block_lt_of_cell? w _ h1) (hne b o rfl))).trans h1
      obtain ⟨x, hx⟩ : ∃ x, xs[0]? = some x := ⟨xs[0]'(by rw [h.1]; exact h0), List.getElem?_eq_getElem _⟩
      have hj : 0 < (E.cells x).length := by rw [E.len]; exact E.pos
      exact .inr ⟨b, o, rfl, World.block_lt_of_cell? w' _ (hk 0 x hx 0 _ (List.getElem?_eq_getElem hj)), hk⟩
/-- What a visiting function does: it answers p, keeps I, and leaves what it was shown in the box gb. -/
structure Visit (n : Nat) (p : List Int → Bool) (gb : Nat) (I : World → Prop) (O : List Int → World → Prop) (F : FuncId) (cap : Array Value) : Prop where
  enter : ∀ args wr, (callFunc F args).run Try.prog wr = .ok (.enter F args) wr
  grow : ∀ w w', I w → Below w.heap.size w w' → I w'
  far : ∀ w, I w → gb < w.heap.size
  call : ∀ (w : World) (L : List Int) (A : Option Addr) (c : Nat), I w → Sees elInt w w.heap.size A L.length L → (∀ b o, A = some ⟨b, o, none⟩ → b ≠ gb) → lowL n L → L.length ≤ n → L.length ≤ c →
    Calls Try.prog F (#[.slice A L.length c] ++ cap) w fun e w' => e = .returned (.bool (p L)) ∧ I w' ∧ O L w' ∧ Touch (fun b => b = gb) w w'
section
variable {n : Nat} {p : List Int → Bool} {gb : Nat} {I : World → Prop} {O : List Int → World → Prop} {F : FuncId} {cap : Array Value}
set_option maxHeartbeats 4000000 in
set_option maxRecDepth 100000 in
theorem choices_any (V : Visit n p gb I O F cap) (hn : n ≤ 1000) : ∀ (c s : Nat) (L : List Int) (A : Option Addr) (cc : Nat) (w : World), L.length + c ≤ n → s ≤ 1000 → I w → Sees elInt w w.heap.size A L.length L → (∀ b o, A = some ⟨b, o, none⟩ → b ≠ gb) → lowL n L → L.length ≤ cc →
    Calls Try.prog 136 #[.int .i64 s, .int .i64 n, .int .i64 c, .slice A L.length cc, .func (.func F) #[] cap] w fun e w' => e = .returned (.bool (chooseL p n c s L).isSome) ∧ I w' ∧ Touch (fun b => b = gb) w w' ∧ ∀ R, chooseL p n c s L = some R → O R w' := by
  intro c
  induction c with
  | zero =>
    intro s L A cc w hlc hs hI hA hne hL hcc
    have hcall := V.enter
    have HC := hid (V.call w L A cc hI hA hne hL (by omega) hcc)
    have HR : Hid (chooseL p n 0 s L = if p L then some L else none) := rfl
    clear hI hA
    go_enter Try.func136, Try.ntmps136
    go_wp2_with fail
    refine HC.out.mono ?_
    rintro e w1 ⟨rfl, hI1, hO1, ht1⟩
    have HI := hid hI1
    have HO := hid hO1
    have HT := hid ht1
    clear hI1 hO1 ht1 hcall
    go_wp2_with fail
    go_ret
    refine ⟨?_, HI.out, HT.out, fun R hR => ?_⟩
    · rw [HR.out]; cases p L <;> rfl
    · rw [HR.out] at hR
      split at hR
      · injection hR with hR; rw [← hR]; exact HO.out
      · cases hR
  | succ c ih =>
    intro s L A cc w hlc hs hI hA hne hL hcc
    have hcall := V.enter
    obtain ⟨f, hf⟩ : ∃ f : Nat → Option (List Int), f = fun k => chooseL p n c (k + 1) (L ++ [(k : Int)]) := ⟨_, rfl⟩
    have HR : Hid (chooseL p n (c + 1) s L = firstO f s (n - s)) := by rw [hf]; rfl
    have HF : Hid (∀ k, f k = chooseL p n c (k + 1) (L ++ [(k : Int)])) := fun k => by rw [hf]
    have HI0 := hid hI
    have HA := hid hA
    have HNE := hid hne
    have HL := hid hL
    have HIH := hid ih
    have hz : (((c + 1 : Nat) : Int) == 0) = false := by simp; omega
    have hz2 : (((c : Nat) : Int) + 1 == 0) = false := by simp; omega
    have ic : IntKind.i64.wrap (((c + 1 : Nat) : Int) - 1) = (c : Int) := by rw [IntWalk.i64_in _ (by omega)]; omega
    clear hf hI hA hne hL ih
    go_enter Try.func136, Try.ntmps136
    go_wp2_with fail
    go_loopw [11] (fun i wr => ∃ k : Nat, s ≤ k ∧ k ≤ max s n ∧ i = .int .i64 k ∧ Hid (I wr) ∧ Hid (Touch (fun b => b = gb) w wr) ∧ Hid (firstO f s (n - s) = firstO f k (n - k))) (fun i _ => n - (intOf i).toNat)
    case atStart => exact ⟨s, Nat.le_refl _, by omega, rfl, HI0, Touch.refl _ _, rfl⟩
    case round =>
      clear HI0
      obtain ⟨k, hsk, hkn, rfl, HI, HT, HE⟩ := hrel
      by_cases hlt : k < n
      · have ik : (k : Int) < (n : Int) := by omega
        have iw : IntKind.i64.wrap ((k : Int) + 1) = ((k + 1 : Nat) : Int) := by rw [IntWalk.i64_in _ (by omega)]; omega
        have il : L.length ≤ cc := hcc
        have hA1 := hid (HA.out.apart HT.out HNE.out)
        have hb0 := bl_alloc (Below.refl wr.heap.size wr) (.cells #[.int .i64 k] 3)
        have hA2 := hid (hA1.out.grow hb0)
        have hgb := V.far wr HI.out
        go_wp2_with (first
          | (at_builtin; refine wpList_append_full rfl _ _ rfl rfl hA2.out rfl (show Sees elInt _ _ _ 1 [(k : Int)] from sees_new elInt _ _ _ _ rfl) (by omega) ?_)
          | go_in)
        intro v3 w3 ho3 hb3
        have hbz := bl_then hb0 (by simpa using hb3)
        obtain ⟨A3, c3, rfl, hcc3, _, hs3⟩ := ho3.form
        have hl3 : (L ++ [(k : Int)]).length = L.length + 1 := by simp
        have hne3 : ∀ b o, A3 = some ⟨b, o, none⟩ → b ≠ gb := fun b o e => by
          subst e
          have := (ho3.lies b rfl).1
          have h2 := hb0.size
          omega
        have hcx := HIH.out (k + 1) (L ++ [(k : Int)]) A3 c3 w3 (by rw [hl3]; omega) (by omega) (V.grow _ _ HI.out hbz) hs3 hne3 (lowL_add HL.out hlt) hcc3
        rw [show (((k + 1 : Nat) : Int)) = (k : Int) + 1 by omega, hl3] at hcx
        have HCX := hid hcx
        clear ho3 hs3 hA1 hA2 hb3 hne3 hcx
        go_wp2_with fail
        refine HCX.out.mono ?_
        rintro e w4 ⟨rfl, hI4, ht4, hO4⟩
        have HI4 := hid hI4
        have HT4 : Hid (Touch (fun b => b = gb) w w4) := (HT.out.then_ hbz).trans ht4
        have HO4 := hid hO4
        clear hI4 ht4 hO4 HCX hbz hb0
        cases gx : chooseL p n c (k + 1) (L ++ [(k : Int)]) with
        | none =>
          have HE2 : Hid (firstO f s (n - s) = firstO f (k + 1) (n - (k + 1))) := by
            unfold Hid
            rw [HE.out, show n - k = (n - (k + 1)) + 1 by omega]
            exact firstO_none (by rw [HF.out, gx])
          clear gx HO4 HE
          simp only [Option.isSome_none]
          go_wp2
          refine ⟨?_, by simp [intOf]; omega⟩
          first
            | exact ⟨k + 1, by omega, by omega, by go_num, HI4, HT4, HE2⟩
            | ((repeat apply Exists.intro); exact ⟨⟨k + 1, by omega, by omega, by go_num, HI4, HT4, HE2⟩, rfl⟩)
        | some R =>
          have HE2 : Hid (chooseL p n (c + 1) s L = some R) := by
            unfold Hid
            rw [HR.out, HE.out, show n - k = (n - (k + 1)) + 1 by omega]
            exact firstO_some (by rw [HF.out, gx])
          have HO5 := hid (HO4.out R gx)
          clear gx HO4 HE
          simp only [Option.isSome_some]
          go_wp2
          go_ret
          exact ⟨by rw [HE2.out]; rfl, HI4.out, HT4.out, fun R' hR' => by rw [HE2.out] at hR'; injection hR' with hR'; rw [← hR']; exact HO5.out⟩
      · have hk0 : n - k = 0 := by omega
        have HE2 : Hid (chooseL p n (c + 1) s L = none) := by unfold Hid; rw [HR.out, HE.out, hk0]; rfl
        clear hk0 HE
        go_wp2
        go_ret
        exact ⟨by rw [HE2.out]; rfl, HI.out, HT.out, fun R' hR' => by rw [HE2.out] at hR'; cases hR'⟩
end
end Go.Proofs.Ytfepilpllfiegaa
