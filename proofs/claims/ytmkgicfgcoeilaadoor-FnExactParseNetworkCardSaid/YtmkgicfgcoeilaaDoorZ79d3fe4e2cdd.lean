/- Lemmas and walks that the claim rests on, laid together. Conditions: none. -/
import Derived.Test.YtmkgicfgcoeilaaDoorZ53a7a774410d
/- IsValidNetwork of the program, walked: it returns goodB. Conditions: none. -/
namespace Go.Proofs.YtmkgicfgcoeilaaDoor
open Go.RowKit
set_option maxHeartbeats 2000000 in
set_option maxRecDepth 100000 in
theorem isValid_any {B n c m d : Nat} {A A' : Option Addr} {xs : List ByteArray} {fs : List Fib} (w : World) (hA : Sees elStr w B A n xs) (hF : Sees elFib w B A' m fs) (hB : B ≤ w.heap.size) (hn : n ≤ 1048576) (hm : m ≤ 1048576) (hnc : n ≤ c) (hmd : m ≤ d)
    (hx : ∀ x ∈ xs, x.size ≤ maxLen) :
    Calls Tryd.prog 30 #[.agg #[.slice A n c, .slice A' m d]] w fun e w' => e = .returned (.bool (goodB xs fs)) ∧ Below w.heap.size w w' := by
  go_enter Tryd.func30, Tryd.ntmps30
  go_wp2
  obtain ⟨wo, hwo⟩ : ∃ wo : World, wo = w.alloc (.cells #[.slice A n c, .slice A' m d] 25) := ⟨_, rfl⟩
  rw [← hwo]
  have g0 : wo.cell? ⟨w.heap.size, 0, none⟩ = some (.slice A n c) := by rw [hwo]; go_simp
  have g1 : wo.cell? ⟨w.heap.size, 1, none⟩ = some (.slice A' m d) := by rw [hwo]; go_simp
  have hbo : Below w.heap.size w wo := by rw [hwo]; exact bl_alloc (Below.refl _ _) _
  clear hwo
  go_loopw [10] (fun i wr => ∃ k : Nat, k ≤ n ∧ i = .int .i64 k ∧ Hid (allTo (nameAt xs) k) ∧ Below wo.heap.size wo wr) (fun i _ => n - (intOf i).toNat)
  case atStart => exact ⟨0, Nat.zero_le _, rfl, allTo_zero _, Below.refl _ _⟩
  case round =>
    obtain ⟨k, hk, rfl, hall, hb⟩ := hrel
    have c0 := bl_cell hb g0
    have c1 := bl_cell hb g1
    have hbw := bl_then hbo hb
    by_cases hlt : k < n
    · obtain ⟨b, o, rfl, _, hc⟩ := hA.at_ hlt
      obtain ⟨x, hxk⟩ := get_of hA.len hlt
      have hcx := bl_cell hbw (hc k x hxk 0 _ rfl)
      simp only [elStr, Nat.mul_one, Nat.add_zero] at hcx
      have hxs : x.size ≤ maxLen := hx x (List.mem_of_getElem? hxk)
      clear hc g0 g1
      have hat : nameAt xs k = (nameB x.data.toList && !hasB (xs.take k) x) := by unfold nameAt; rw [getD_of hxk]
      by_cases h1 : nameB x.data.toList = true
      · by_cases h2 : hasB (xs.take k) x = true
        · have HN : Hid (goodB xs fs = false) := goodB_name (by rw [hA.len]; exact hlt) (by rw [hat, h1, h2]; rfl)
          have HT := hid ((hA.below (hbw.mono hB)).take hk)
          clear hat hxk
          go_wp2_with (first
            | (go_at_call 47; refine (isName_any x _ hxs).mono ?_; rintro e w' ⟨rfl, q, rfl⟩)
            | (go_at_call 48; refine (containsS_any x _ (HT.out.drewN _) (by simp only [maxLen]; omega)).mono ?_; rintro e w' ⟨rfl, rfl⟩))
          go_ret
          exact ⟨ret_bool HN.out.symm, bl_drewN hbw _⟩
        · have h2' : hasB (xs.take k) x = false := by simpa using h2
          have HY : Hid (allTo (nameAt xs) (k + 1)) := allTo_succ hall (by rw [hat, h1, h2']; rfl)
          have HT := hid ((hA.below (hbw.mono hB)).take hk)
          clear hat hxk h2
          go_wp2_with (first
            | (go_at_call 47; refine (isName_any x _ hxs).mono ?_; rintro e w' ⟨rfl, q, rfl⟩)
            | (go_at_call 48; refine (containsS_any x _ (HT.out.drewN _) (by simp only [maxLen]; omega)).mono ?_; rintro e w' ⟨rfl, rfl⟩))
          go_roundw
          case rel => exact ⟨k + 1, by omega, by go_num, HY, bl_drewN hb _⟩
          case measure => simp [intOf]; omega
      · have h1' : nameB x.data.toList = false := by simpa using h1
        have HN : Hid (goodB xs fs = false) := goodB_name (by rw [hA.len]; exact hlt) (by rw [hat, h1']; rfl)
        clear hat hxk h1
        go_wp2_with (go_at_call 47; refine (isName_any x _ hxs).mono ?_; rintro e w' ⟨rfl, q, rfl⟩)
        go_ret
        exact ⟨ret_bool HN.out.symm, bl_drewN hbw _⟩
    · have hnames : Hid (allTo (nameAt xs) xs.length) := by obtain rfl : k = n := (by omega); rw [hA.len]; exact hall.out
      clear hall
      go_wp2
      obtain ⟨wp, rfl⟩ : ∃ wp : World, wp = wr := ⟨_, rfl⟩
      clear c0 c1 hlt hk
      go_loopw [30] (fun i wr => ∃ j : Nat, j ≤ m ∧ i = .int .i64 j ∧ Hid (allTo (fibAt n fs) j) ∧ Below wo.heap.size wo wr) (fun i _ => m - (intOf i).toNat)
      case atStart => exact ⟨0, Nat.zero_le _, rfl, allTo_zero _, hb⟩
      case round =>
        clear hb hbw
        obtain ⟨j, hj, rfl, hall, hb⟩ := hrel
        have c0 := bl_cell hb g0
        have c1 := bl_cell hb g1
        have hbw := bl_then hbo hb
        by_cases hlt : j < m
        · obtain ⟨b, o, rfl, _, hc⟩ := hF.at_ hlt
          obtain ⟨f, hfj⟩ := get_of hF.len hlt
          have f0 := bl_cell hbw (hc j f hfj 0 _ rfl)
          have f1 := bl_cell hbw (hc j f hfj 1 _ rfl)
          have f2 := bl_cell hbw (hc j f hfj 2 _ rfl)
          have f3 := bl_cell hbw (hc j f hfj 3 _ rfl)
          simp only [elFib, Nat.add_zero] at f0 f1 f2 f3
          have hg : 0 < j → ∃ g, fs[j - 1]? = some g ∧ wr.cell? ⟨b, o + (j - 1) * 4, none⟩ = some (.int .i64 g.a) ∧ wr.cell? ⟨b, o + (j - 1) * 4 + 1, none⟩ = some (.int .i64 g.b) ∧ wr.cell? ⟨b, o + (j - 1) * 4 + 2, none⟩ = some (.int .i64 g.len) ∧ wr.cell? ⟨b, o + (j - 1) * 4 + 3, none⟩ = some (.int .i64 g.risk) := by
            intro hj0
            obtain ⟨g, hgj⟩ := get_of (k := j - 1) hF.len (by omega)
            exact ⟨g, hgj, bl_cell hbw (hc (j - 1) g hgj 0 _ rfl), bl_cell hbw (hc (j - 1) g hgj 1 _ rfl), bl_cell hbw (hc (j - 1) g hgj 2 _ rfl), bl_cell hbw (hc (j - 1) g hgj 3 _ rfl)⟩
          clear hc g0 g1
          have hbl := bl_alloc hb (.cells #[.int .i64 f.a, .int .i64 f.b, .int .i64 f.len, .int .i64 f.risk] 39)
          have hbr : Below wr.heap.size wr (wr.alloc (.cells #[.int .i64 f.a, .int .i64 f.b, .int .i64 f.len, .int .i64 f.risk] 39)) := bl_alloc (Below.refl _ _) _
          have t0 : (wr.alloc (.cells #[.int .i64 f.a, .int .i64 f.b, .int .i64 f.len, .int .i64 f.risk] 39)).cell? ⟨wr.heap.size, 0, none⟩ = some (.int .i64 f.a) := by go_simp
          have t1 : (wr.alloc (.cells #[.int .i64 f.a, .int .i64 f.b, .int .i64 f.len, .int .i64 f.risk] 39)).cell? ⟨wr.heap.size, 1, none⟩ = some (.int .i64 f.b) := by go_simp
          have t2 : (wr.alloc (.cells #[.int .i64 f.a, .int .i64 f.b, .int .i64 f.len, .int .i64 f.risk] 39)).cell? ⟨wr.heap.size, 2, none⟩ = some (.int .i64 f.len) := by go_simp
          have t3 : (wr.alloc (.cells #[.int .i64 f.a, .int .i64 f.b, .int .i64 f.len, .int .i64 f.risk] 39)).cell? ⟨wr.heap.size, 3, none⟩ = some (.int .i64 f.risk) := by go_simp
          go_wp2
          generalize wr.alloc (.cells #[.int .i64 f.a, .int .i64 f.b, .int .i64 f.len, .int .i64 f.risk] 39) = w2 at *
          have d0 := bl_cell hbr c0
          have d1 := bl_cell hbr c1
          have T0 : ∀ w', Cls w2 w' → w'.cell? ⟨wr.heap.size, 0, none⟩ = some (.int .i64 f.a) := fun _ h => h.cell t0
          have T1 : ∀ w', Cls w2 w' → w'.cell? ⟨wr.heap.size, 1, none⟩ = some (.int .i64 f.b) := fun _ h => h.cell t1
          have T2 : ∀ w', Cls w2 w' → w'.cell? ⟨wr.heap.size, 2, none⟩ = some (.int .i64 f.len) := fun _ h => h.cell t2
          have T3 : ∀ w', Cls w2 w' → w'.cell? ⟨wr.heap.size, 3, none⟩ = some (.int .i64 f.risk) := fun _ h => h.cell t3
          have C0 : ∀ w', Cls w2 w' → w'.cell? ⟨w.heap.size, 0, none⟩ = some (.slice A n c) := fun _ h => h.cell d0
          have C1 : ∀ w', Cls w2 w' → w'.cell? ⟨w.heap.size, 1, none⟩ = some (.slice (some ⟨b, o, none⟩) m d) := fun _ h => h.cell d1
          clear t0 t1 t2 t3 d0 d1 c0 c1 f0 f1 f2 f3
          have hfat : fibAt n fs j = (fibB n f && (j == 0 || decide (cmpFib (fs.getD (j - 1) default) f ≤ 0))) := by unfold fibAt; rw [getD_of hfj]
          clear hfj
          have hbad : fibB n f = false → Hid (goodB xs fs = false) := fun h => goodB_fibAt (by rw [hF.len]; exact hlt) (by rw [hA.len, hfat, h]; rfl)
          rcases fib_cases n f with e1 | ⟨e1, e2 | ⟨e2, e3 | ⟨e3, e4 | ⟨e4, e5 | e5⟩⟩⟩⟩
          · have HN := hbad (by rw [fibB_eq, e1]; rfl)
            clear hbad hg hfat
            refine region_cls (by kernel_rfl) (by kernel_rfl) ?_
            repeat (first
              | ((with_reducible refine quiet_pos ?_ (fun K hK => ?_))
                 · rfl
                 apply Exists.intro
                 refine ⟨fun w' hw' => ?_, ?_⟩
                 · go_simp
                   first
                     | with_reducible rfl
                     | (go_at_call 49; exact hw'.same (within_any _ _ _ _))
                 simp only [Act.put, List.setIfInBounds_toArray, List.set_cons_zero, List.set_cons_succ]
                 refine hK _ ?_; clear hK K)
              | ((with_reducible refine quiet_neg ?_ (fun K hK => ?_))
                 · rfl
                 simp only [Act.put, List.setIfInBounds_toArray, List.set_cons_zero, List.set_cons_succ]
                 refine hK _ ?_; clear hK K))
            with_reducible refine wpQuiet_nil ?_
            intro w3 hw3
            go_wp2
            go_ret
            exact ⟨ret_bool HN.out.symm, bl_then (bl_then hbo hbl) hw3⟩
          · have HN := hbad (by rw [fibB_eq, e1, e2]; rfl)
            clear hbad hg hfat
            refine region_cls (by kernel_rfl) (by kernel_rfl) ?_
            repeat (first
              | ((with_reducible refine quiet_pos ?_ (fun K hK => ?_))
                 · rfl
                 apply Exists.intro
                 refine ⟨fun w' hw' => ?_, ?_⟩
                 · go_simp
                   first
                     | with_reducible rfl
                     | (go_at_call 49; exact hw'.same (within_any _ _ _ _))
                 simp only [Act.put, List.setIfInBounds_toArray, List.set_cons_zero, List.set_cons_succ]
                 refine hK _ ?_; clear hK K)
              | ((with_reducible refine quiet_neg ?_ (fun K hK => ?_))
                 · rfl
                 simp only [Act.put, List.setIfInBounds_toArray, List.set_cons_zero, List.set_cons_succ]
                 refine hK _ ?_; clear hK K))
            with_reducible refine wpQuiet_nil ?_
            intro w3 hw3
            go_wp2
            go_ret
            exact ⟨ret_bool HN.out.symm, bl_then (bl_then hbo hbl) hw3⟩
          · have HN := hbad (by rw [fibB_eq, e1, e2, e3]; rfl)
            clear hbad hg hfat
            refine region_cls (by kernel_rfl) (by kernel_rfl) ?_
            repeat (first
              | ((with_reducible refine quiet_pos ?_ (fun K hK => ?_))
                 · rfl
                 apply Exists.intro
                 refine ⟨fun w' hw' => ?_, ?_⟩
                 · go_simp
                   first
                     | with_reducible rfl
                     | (go_at_call 49; exact hw'.same (within_any _ _ _ _))
                 simp only [Act.put, List.setIfInBounds_toArray, List.set_cons_zero, List.set_cons_succ]
                 refine hK _ ?_; clear hK K)
              | ((with_reducible refine quiet_neg ?_ (fun K hK => ?_))
                 · rfl
                 simp only [Act.put, List.setIfInBounds_toArray, List.set_cons_zero, List.set_cons_succ]
                 refine hK _ ?_; clear hK K))
            with_reducible refine wpQuiet_nil ?_
            intro w3 hw3
            go_wp2
            go_ret
            exact ⟨ret_bool HN.out.symm, bl_then (bl_then hbo hbl) hw3⟩
          · have HN := hbad (by rw [fibB_eq, e1, e2, e3, e4]; rfl)
            clear hbad hg hfat
            refine region_cls (by kernel_rfl) (by kernel_rfl) ?_
            repeat (first
              | ((with_reducible refine quiet_pos ?_ (fun K hK => ?_))
                 · rfl
                 apply Exists.intro
                 refine ⟨fun w' hw' => ?_, ?_⟩
                 · go_simp
                   first
                     | with_reducible rfl
                     | (go_at_call 49; exact hw'.same (within_any _ _ _ _))
                 simp only [Act.put, List.setIfInBounds_toArray, List.set_cons_zero, List.set_cons_succ]
                 refine hK _ ?_; clear hK K)
              | ((with_reducible refine quiet_neg ?_ (fun K hK => ?_))
                 · rfl
                 simp only [Act.put, List.setIfInBounds_toArray, List.set_cons_zero, List.set_cons_succ]
                 refine hK _ ?_; clear hK K))
            with_reducible refine wpQuiet_nil ?_
            intro w3 hw3
            go_wp2
            go_ret
            exact ⟨ret_bool HN.out.symm, bl_then (bl_then hbo hbl) hw3⟩
          · have HN := hbad (by rw [fibB_eq, e1, e2, e3, e4, e5]; rfl)
            clear hbad hg hfat
            refine region_cls (by kernel_rfl) (by kernel_rfl) ?_
            repeat (first
              | ((with_reducible refine quiet_pos ?_ (fun K hK => ?_))
                 · rfl
                 apply Exists.intro
                 refine ⟨fun w' hw' => ?_, ?_⟩
                 · go_simp
                   first
                     | with_reducible rfl
                     | (go_at_call 49; exact hw'.same (within_any _ _ _ _))
                 simp only [Act.put, List.setIfInBounds_toArray, List.set_cons_zero, List.set_cons_succ]
                 refine hK _ ?_; clear hK K)
              | ((with_reducible refine quiet_neg ?_ (fun K hK => ?_))
                 · rfl
                 simp only [Act.put, List.setIfInBounds_toArray, List.set_cons_zero, List.set_cons_succ]
                 refine hK _ ?_; clear hK K))
            with_reducible refine wpQuiet_nil ?_
            intro w3 hw3
            go_wp2
            go_ret
            exact ⟨ret_bool HN.out.symm, bl_then (bl_then hbo hbl) hw3⟩
          · have hok : fibB n f = true := by rw [fibB_eq, e1, e2, e3, e4, e5]; rfl
            clear hbad
            by_cases hj0 : j = 0
            · have HY : Hid (allTo (fibAt n fs) (j + 1)) := allTo_succ hall (by rw [hfat, hok, hj0]; rfl)
              have e6 : decide (0 < (j : Int)) = false := by simp; omega
              clear hfat hg
              refine region_cls (by kernel_rfl) (by kernel_rfl) ?_
              repeat (first
                | ((with_reducible refine quiet_pos ?_ (fun K hK => ?_))
                   · rfl
                   apply Exists.intro
                   refine ⟨fun w' hw' => ?_, ?_⟩
                   · go_simp
                     first
                       | with_reducible rfl
                       | (go_at_call 49; exact hw'.same (within_any _ _ _ _))
                   simp only [Act.put, List.setIfInBounds_toArray, List.set_cons_zero, List.set_cons_succ]
                   refine hK _ ?_; clear hK K)
                | ((with_reducible refine quiet_neg ?_ (fun K hK => ?_))
                   · rfl
                   simp only [Act.put, List.setIfInBounds_toArray, List.set_cons_zero, List.set_cons_succ]
                   refine hK _ ?_; clear hK K))
              with_reducible refine wpQuiet_nil ?_
              intro w3 hw3
              go_wp2
              go_roundw
              case rel => exact ⟨j + 1, by omega, by go_num, HY, bl_then hbl hw3⟩
              case measure => simp [intOf]; omega
            · obtain ⟨g, hgj, q0, q1, q2, q3⟩ := hg (by omega)
              have e6 : decide (0 < j) = true := by simp; omega
              have Q0 : ∀ w', Cls w2 w' → w'.cell? ⟨b, o + (j - 1) * 4, none⟩ = some (.int .i64 g.a) := fun _ h => h.cell (bl_cell hbr q0)
              have Q1 : ∀ w', Cls w2 w' → w'.cell? ⟨b, o + (j - 1) * 4 + 1, none⟩ = some (.int .i64 g.b) := fun _ h => h.cell (bl_cell hbr q1)
              have Q2 : ∀ w', Cls w2 w' → w'.cell? ⟨b, o + (j - 1) * 4 + 2, none⟩ = some (.int .i64 g.len) := fun _ h => h.cell (bl_cell hbr q2)
              have Q3 : ∀ w', Cls w2 w' → w'.cell? ⟨b, o + (j - 1) * 4 + 3, none⟩ = some (.int .i64 g.risk) := fun _ h => h.cell (bl_cell hbr q3)
              clear q0 q1 q2 q3
              rw [getD_of hgj] at hfat
              have i1 : IntKind.i64.wrap ((j : Int) - 1) = (j : Int) - 1 := IntWalk.i64_in _ (by omega)
              have i2 : (0 : Int) ≤ (j : Int) - 1 := by omega
              have i3 : ((j : Int) - 1).toNat = j - 1 := by omega
              have i4 : (j : Int) - 1 < (m : Int) := by omega
              have i5 : (1 : Int) ≤ (j : Int) := by omega
              have i6 : 1 ≤ j := by omega
              by_cases hcmp : cmpFib g f ≤ 0
              · have HY : Hid (allTo (fibAt n fs) (j + 1)) := allTo_succ hall (by rw [hfat, hok]; simp [hcmp])
                have e7 : decide (0 < cmpFib g f) = false := by simp; omega
                clear hfat hg hcmp hgj
                refine region_cls (by kernel_rfl) (by kernel_rfl) ?_
                repeat (first
                  | ((with_reducible refine quiet_pos ?_ (fun K hK => ?_))
                     · rfl
                     apply Exists.intro
                     refine ⟨fun w' hw' => ?_, ?_⟩
                     · go_simp
                       first
                         | with_reducible rfl
                         | (go_at_call 49; exact hw'.same (within_any _ _ _ _))
                         | (go_at_call 50; exact hw'.call (compareFibers_any g f _))
                     simp only [Act.put, List.setIfInBounds_toArray, List.set_cons_zero, List.set_cons_succ]
                     refine hK _ ?_; clear hK K)
                  | ((with_reducible refine quiet_neg ?_ (fun K hK => ?_))
                     · rfl
                     simp only [Act.put, List.setIfInBounds_toArray, List.set_cons_zero, List.set_cons_succ]
                     refine hK _ ?_; clear hK K))
                with_reducible refine wpQuiet_nil ?_
                intro w3 hw3
                go_wp2
                go_roundw
                case rel => exact ⟨j + 1, by omega, by go_num, HY, bl_then hbl hw3⟩
                case measure => simp [intOf]; omega
              · have HN : Hid (goodB xs fs = false) := goodB_fibAt (by rw [hF.len]; exact hlt) (by rw [hA.len, hfat, hok]; simp [hcmp, hj0])
                have e7 : decide (0 < cmpFib g f) = true := by simp; omega
                clear hfat hg hcmp hgj
                refine region_cls (by kernel_rfl) (by kernel_rfl) ?_
                repeat (first
                  | ((with_reducible refine quiet_pos ?_ (fun K hK => ?_))
                     · rfl
                     apply Exists.intro
                     refine ⟨fun w' hw' => ?_, ?_⟩
                     · go_simp
                       first
                         | with_reducible rfl
                         | (go_at_call 49; exact hw'.same (within_any _ _ _ _))
                         | (go_at_call 50; exact hw'.call (compareFibers_any g f _))
                     simp only [Act.put, List.setIfInBounds_toArray, List.set_cons_zero, List.set_cons_succ]
                     refine hK _ ?_; clear hK K)
                  | ((with_reducible refine quiet_neg ?_ (fun K hK => ?_))
                     · rfl
                     simp only [Act.put, List.setIfInBounds_toArray, List.set_cons_zero, List.set_cons_succ]
                     refine hK _ ?_; clear hK K))
                with_reducible refine wpQuiet_nil ?_
                intro w3 hw3
                go_wp2
                go_ret
                exact ⟨ret_bool HN.out.symm, bl_then (bl_then hbo hbl) hw3⟩
        · have hfibs : Hid (allTo (fibAt n fs) fs.length) := by obtain rfl : j = m := (by omega); rw [hF.len]; exact hall.out
          have HR := hid (goodB_rest hnames.out (by rw [hA.len]; exact hfibs.out))
          clear hall
          have hlenx := hA.len
          have hlenf := hF.len
          by_cases r1 : inB 2 8 n = true
          · have r1' := r1
            unfold inB at r1'
            have r2 : Hid (decide (2 ≤ xs.length ∧ xs.length ≤ 8) = true) := by rw [hlenx]; simp only [decide_eq_true_eq] at r1' ⊢; show _ ∧ _; omega
            have r3 : Hid ((decide (2 ≤ xs.length ∧ xs.length ≤ 8) && decide (fs.length ≤ 14)) = decide (m ≤ 14)) := by rw [r2.out, hlenf]; rfl
            clear hlenx hlenf r1' g0 g1
            go_wp2_with (go_at_call 49; refine (within_any _ _ _ _).mono ?_; rintro e w' ⟨rfl, rfl⟩)
            go_ret
            refine ⟨ret_bool ?_, hbw⟩
            rw [HR.out, r3.out]
            first | rfl | exact decide_eq_decide.2 (by omega)
          · have r1' : inB 2 8 n = false := by simpa using r1
            have r3 : Hid ((decide (2 ≤ xs.length ∧ xs.length ≤ 8) && decide (fs.length ≤ 14)) = false) := by
              have : decide (2 ≤ xs.length ∧ xs.length ≤ 8) = false := by rw [hlenx]; unfold inB at r1'; simp only [decide_eq_false_iff_not] at r1' ⊢; omega
              rw [this]; rfl
            clear hlenx hlenf r1 g0 g1
            go_wp2_with (go_at_call 49; refine (within_any _ _ _ _).mono ?_; rintro e w' ⟨rfl, rfl⟩)
            go_ret
            refine ⟨ret_bool ?_, hbw⟩
            rw [HR.out, r3.out]
end Go.Proofs.YtmkgicfgcoeilaaDoor
