/- Lemmas and walks that the claim rests on, laid together. Conditions: none. -/
import Derived.Test.YtfepilpllfiegaaZc3e33f13110d
import Derived.Test.YtfepilpllfiegaaZc731a5b1582e
import Derived.Test.YtfepilpllfiegaaZ76d3d4a5ee99
import Derived.BigQuiet
import Derived.Test.YtfepilpllfiegaaZ26e9db1b046f
import Derived.Test.YtfepilpllfiegaaZa08a059c2ef9
import Derived.Test.YtfepilpllfiegaaZ67849b765ddc
import Derived.Test.YtfepilpllfiegaaZ7267d67f9ff7
import Derived.Test.YtfepilpllfiegaaZ17f740c013a7
/- AddFiber of the program, walked. Conditions: none. -/
namespace Go.Proofs.Ytfepilpllfiegaa
open Go.RowKit
section
variable {n c m d : Nat} {A A' : Option Addr} {xs : List ByteArray} {fs : List Fib} {f : Fib}
set_option maxHeartbeats 4000000 in
set_option maxRecDepth 100000 in
theorem implAdd (w : World) (h : NetIs w A n c A' m d xs fs) :
    Calls Try.prog 49 #[.agg #[.slice A n c, .slice A' m d], .agg #[.int .i64 f.a, .int .i64 f.b, .int .i64 f.len, .int .i64 f.risk]] w fun e w' => ∃ A1 c1 A2 c2, e = .returned (.tuple #[.agg #[.slice A1 (addX xs fs f).length c1, .slice A2 (addF xs fs f).length c2], .int .i64 (addI xs fs f), .bool (addB xs fs f)]) ∧ NetOwn w' w.heap.size A1 (addX xs fs f).length c1 A2 (addF xs fs f).length c2 (addX xs fs f) (addF xs fs f) ∧ Below w.heap.size w w' := by
  have hS := (((Led.nil w).blk_ w.heap.size rfl 27 #[.slice A n c, .slice A' m d]).blk_ (w.heap.size + 1) (by simp) 62 #[.int .i64 f.a, .int .i64 f.b, .int .i64 f.len, .int .i64 f.risk]).blk_ (w.heap.size + 1 + 1) (by simp) 27 #[.slice none 0 0, .slice none 0 0]
  have HN := hid h
  have hlx := hid h.xlen
  have hlf := h.flen
  have hnn := h.nle
  have hmm := h.mle
  have hx := hid h.2.2.2.2
  clear h
  go_enter Try.func49, Try.ntmps49
  go_wp2_with fail
  refine (copyNetwork_any _ (HN.out.grow hS.bl)).mono ?_
  rintro e w1 ⟨A1, c1, A2, c2, rfl, hl⟩
  have hS1 := (hS.join hl).blk_ w1.heap.size rfl 27 #[.slice A1 n c1, .slice A2 m c2]
  simp only [List.cons_append, List.nil_append] at hS1
  have hbw1 := hl.bl.size
  generalize hbx : (((w.alloc (.cells #[.slice A n c, .slice A' m d] 27)).alloc (.cells #[.int .i64 f.a, .int .i64 f.b, .int .i64 f.len, .int .i64 f.risk] 62)).alloc (.cells #[.slice none 0 0, .slice none 0 0] 27)).heap.size = bx at hS1 hbw1
  have hbw : w.heap.size ≤ bx := by rw [← hbx]; exact hS.bl.size
  clear hbx hl hS
  go_wp2_with fail
  have HS : Hid (Led w (w1.alloc (.cells #[.slice A1 n c1, .slice A2 m c2] 27)) [tBlk w1.heap.size 27 #[.slice A1 n c1, .slice A2 m c2], tOwns elStr bx 9 (.slice A1 n c1) xs, tOwns elFib bx 62 (.slice A2 m c2) fs, tBlk (w.heap.size + 1 + 1) 27 #[.slice none 0 0, .slice none 0 0], tBlk (w.heap.size + 1) 62 #[.int .i64 f.a, .int .i64 f.b, .int .i64 f.len, .int .i64 f.risk], tBlk w.heap.size 27 #[.slice A n c, .slice A' m d]]) := hS1
  clear hS1
  go_loopw [8] (fun i wr => ∃ k : Nat, k ≤ m ∧ i = .int .i64 k ∧ allTo (aheadF fs f) k ∧ Hid (bx ≤ wr.heap.size) ∧ Hid (Led w wr [tBlk w1.heap.size 27 #[.slice A1 n c1, .slice A2 m c2], tOwns elStr bx 9 (.slice A1 n c1) xs, tOwns elFib bx 62 (.slice A2 m c2) fs, tBlk (w.heap.size + 1 + 1) 27 #[.slice none 0 0, .slice none 0 0], tBlk (w.heap.size + 1) 62 #[.int .i64 f.a, .int .i64 f.b, .int .i64 f.len, .int .i64 f.risk], tBlk w.heap.size 27 #[.slice A n c, .slice A' m d]])) (fun i _ => m - (intOf i).toNat)
  case atStart => exact ⟨0, Nat.zero_le _, rfl, allTo_zero _, Nat.le_trans hbw1 (by simp), HS⟩
  case round =>
    clear HS
    obtain ⟨k, hk, rfl, hall, hbxw, HS⟩ := hrel
    have D0 : ∀ w', Cls wr w' → w'.cell? ⟨w.heap.size, 1, none⟩ = some (.slice A' m d) := fun _ h => h.cell (HS.out.cell 5 1 rfl rfl)
    have E0 : ∀ w', Cls wr w' → w'.cell? ⟨w.heap.size + 1, 0, none⟩ = some (.int .i64 f.a) := fun _ h => h.cell (HS.out.cell 4 0 rfl rfl)
    have E1 : ∀ w', Cls wr w' → w'.cell? ⟨w.heap.size + 1, 1, none⟩ = some (.int .i64 f.b) := fun _ h => h.cell (HS.out.cell 4 1 rfl rfl)
    have E2 : ∀ w', Cls wr w' → w'.cell? ⟨w.heap.size + 1, 2, none⟩ = some (.int .i64 f.len) := fun _ h => h.cell (HS.out.cell 4 2 rfl rfl)
    have E3 : ∀ w', Cls wr w' → w'.cell? ⟨w.heap.size + 1, 3, none⟩ = some (.int .i64 f.risk) := fun _ h => h.cell (HS.out.cell 4 3 rfl rfl)
    by_cases hlt : k < m
    · obtain ⟨b, o, rfl, _, hc⟩ := HN.out.fibs.at_ hlt
      obtain ⟨x, hxk⟩ := get_of (k := k) hlf hlt
      have f0 := bl_cell HS.out.bl (hc k x hxk 0 _ rfl)
      have f1 := bl_cell HS.out.bl (hc k x hxk 1 _ rfl)
      have f2 := bl_cell HS.out.bl (hc k x hxk 2 _ rfl)
      have f3 := bl_cell HS.out.bl (hc k x hxk 3 _ rfl)
      simp only [elFib, Nat.add_zero] at f0 f1 f2 f3
      have F0 : ∀ w', Cls wr w' → w'.cell? ⟨b, o + k * 4, none⟩ = some (.int .i64 x.a) := fun _ h => h.cell f0
      have F1 : ∀ w', Cls wr w' → w'.cell? ⟨b, o + k * 4 + 1, none⟩ = some (.int .i64 x.b) := fun _ h => h.cell f1
      have F2 : ∀ w', Cls wr w' → w'.cell? ⟨b, o + k * 4 + 2, none⟩ = some (.int .i64 x.len) := fun _ h => h.cell f2
      have F3 : ∀ w', Cls wr w' → w'.cell? ⟨b, o + k * 4 + 3, none⟩ = some (.int .i64 x.risk) := fun _ h => h.cell f3
      have iz : (k : Int) < (m : Int) := by omega
      have HA : Hid (aheadF fs f k = decide (cmpFib x f ≤ 0)) := by unfold Hid aheadF; rw [getD_of hxk]
      clear hc f0 f1 f2 f3
      by_cases hcmp : cmpFib x f ≤ 0
      · have hd : decide (cmpFib x f ≤ 0) = true := decide_eq_true hcmp
        have HY : Hid (allTo (aheadF fs f) (k + 1)) := allTo_succ hall (by rw [HA.out]; exact hd)
        clear hall HA hxk
        go_wp2_with fail
        refine region_cls (by kernel_rfl) (by kernel_rfl) ?_
        repeat (first
          | ((with_reducible refine quiet_pos ?_ (fun K hK => ?_))
             · rfl
             apply Exists.intro
             refine ⟨fun w' hw' => ?_, ?_⟩
             · go_simp
               first
                 | with_reducible rfl
                 | (go_at_call 108; exact hw'.call (compareFibers_any x f _))
             simp only [Act.put, List.setIfInBounds_toArray, List.set_cons_zero, List.set_cons_succ]
             refine hK _ ?_; clear hK K)
          | ((with_reducible refine quiet_neg ?_ (fun K hK => ?_))
             · rfl
             simp only [Act.put, List.setIfInBounds_toArray, List.set_cons_zero, List.set_cons_succ]
             refine hK _ ?_; clear hK K))
        with_reducible refine wpQuiet_nil ?_
        intro wz hwz'
        have HS1 := hid (HS.out.step hwz')
        have hb9 : Hid (bx ≤ wz.heap.size) := Nat.le_trans hbxw.out hwz'.size
        clear HS D0 E0 E1 E2 E3 F0 F1 F2 F3 hwz' hbxw
        go_wp2
        go_roundw
        case rel => exact ⟨k + 1, by omega, by go_num, HY.out, hb9, HS1⟩
        case measure => simp [intOf]; omega
      · have hd : decide (cmpFib x f ≤ 0) = false := decide_eq_false hcmp
        have hat : Hid (atF fs f = k) := atF_is (by rw [hlf]; exact hk) hall (.inr (by rw [HA.out]; exact hd))
        have hins : Hid (fs.take k ++ f :: fs.drop k = insF fs f) := by unfold Hid insF; rw [hat.out]
        clear hall HA hxk
        go_wp2_with fail
        refine region_cls (by kernel_rfl) (by kernel_rfl) ?_
        repeat (first
          | ((with_reducible refine quiet_pos ?_ (fun K hK => ?_))
             · rfl
             apply Exists.intro
             refine ⟨fun w' hw' => ?_, ?_⟩
             · go_simp
               first
                 | with_reducible rfl
                 | (go_at_call 108; exact hw'.call (compareFibers_any x f _))
             simp only [Act.put, List.setIfInBounds_toArray, List.set_cons_zero, List.set_cons_succ]
             refine hK _ ?_; clear hK K)
          | ((with_reducible refine quiet_neg ?_ (fun K hK => ?_))
             · rfl
             simp only [Act.put, List.setIfInBounds_toArray, List.set_cons_zero, List.set_cons_succ]
             refine hK _ ?_; clear hK K))
        with_reducible refine wpQuiet_nil ?_
        intro wz hwz'
        clear F0 F1 F2 F3
        -- the place is found: hat
        replace HS := hid (HS.out.step hwz')
        have hbz : bx ≤ wz.heap.size := Nat.le_trans hbxw.out hwz'.size
        have p0 := HS.out.cell 0 1 rfl rfl
        have e0 := HS.out.cell 4 0 rfl rfl
        have e1 := HS.out.cell 4 1 rfl rfl
        have e2 := HS.out.cell 4 2 rfl rfl
        have e3 := HS.out.cell 4 3 rfl rfl
        clear D0 E0 E1 E2 E3 hwz'
        go_wp2_with fail
        have HS2 := hid (HS.out.blk_ wz.heap.size rfl 62 #[.int .i64 f.a, .int .i64 f.b, .int .i64 f.len, .int .i64 f.risk])
        refine (insert1_led HS2.out 3 rfl 0 rfl (by decide) hk hmm (by simp; omega)).mono ?_
        rintro e w3 ⟨A3, c3, rfl, hS3⟩
        rw [hins.out] at hS3
        have p1 := hS3.cell 1 1 rfl rfl
        have z1 := hS3.frozen 1 1 rfl
        have HS4 := hid ((hS3.set 1 rfl 1 (.slice A3 (m + 1) c3)).drop 1)
        have q0 := HS4.out.cell 5 0 rfl rfl
        have q1 := HS4.out.cell 5 1 rfl rfl
        clear HS2 HS hS3 p0 e0 e1 e2 e3
        go_wp2_with fail
        refine (validN _ (HN.out.grow HS4.out.bl)).mono ?_
        rintro e w4 ⟨rfl, hb4⟩
        have HS5 := hid (HS4.out.step hb4)
        clear hb4 q0 q1 p1 z1
        cases g : goodB xs fs
        · have hB : Hid (addB xs fs f = false) := by unfold Hid; rw [addB_eq, g]; rfl
          have HSZ := HS5
          have H : Hid (addX xs fs f = [] ∧ addF xs fs f = [] ∧ addI xs fs f = 0) := by unfold Hid addX addF addI; rw [hB.out]; exact ⟨rfl, rfl, rfl⟩
          have y0 := HSZ.out.cell 3 0 rfl rfl
          have y1 := HSZ.out.cell 3 1 rfl rfl
          have z0 := HSZ.out.frozen 3 0 rfl
          have z1 := HSZ.out.frozen 3 1 rfl
          have HE := hid ((HSZ.out.set 3 rfl 0 (.slice none 0 0)).set 3 rfl 1 (.slice none 0 0))
          go_wp2
          exact bodyPost_ret (v := .tuple #[.agg #[.slice none 0 0, .slice none 0 0], .int .i64 0, .bool false]) (by simp [results, Try.results49, go_sem, y0, y1]) rfl
            ⟨none, 0, none, 0, by rw [hB.out, H.out.1, H.out.2.1, H.out.2.2]; rfl, by rw [H.out.1, H.out.2.1]; exact ⟨Nat.le_refl _, by decide, Nat.le_refl _, by decide, rfl, rfl, World.ownsRow_nil _ _ _ _, World.ownsRow_nil _ _ _ _⟩, HE.out.bl⟩
        · have hm14 := (goodB_bd g).2.2
          rw [hlf] at hm14
          have p0 := HS5.out.cell 0 0 rfl rfl
          have p1 := HS5.out.cell 0 1 rfl rfl
          have hNO := HS5.out.netOwn2 (b0 := w.heap.size) 1 2 rfl rfl hlx.out.symm (show m + 1 = (insF fs f).length by rw [insF_len, hlf]) hbw hbw
          have HNO := hid hNO
          have HNI := hid (NetOwn.is hNO hnn (by omega) hx.out)
          clear hNO
          go_wp2_with fail
          refine (validN _ HNI.out).mono ?_
          rintro e w5 ⟨rfl, hb5⟩
          have HSZ := hid (HS5.out.step hb5)
          clear hb5 p0 p1 HNO HNI
          cases g2 : goodB xs (insF fs f)
          · have hB : Hid (addB xs fs f = false) := by unfold Hid; rw [addB_eq, g2, Bool.and_false]
            have H : Hid (addX xs fs f = [] ∧ addF xs fs f = [] ∧ addI xs fs f = 0) := by unfold Hid addX addF addI; rw [hB.out]; exact ⟨rfl, rfl, rfl⟩
            have y0 := HSZ.out.cell 3 0 rfl rfl
            have y1 := HSZ.out.cell 3 1 rfl rfl
            have z0 := HSZ.out.frozen 3 0 rfl
            have z1 := HSZ.out.frozen 3 1 rfl
            have HE := hid ((HSZ.out.set 3 rfl 0 (.slice none 0 0)).set 3 rfl 1 (.slice none 0 0))
            go_wp2
            exact bodyPost_ret (v := .tuple #[.agg #[.slice none 0 0, .slice none 0 0], .int .i64 0, .bool false]) (by simp [results, Try.results49, go_sem, y0, y1]) rfl
              ⟨none, 0, none, 0, by rw [hB.out, H.out.1, H.out.2.1, H.out.2.2]; rfl, by rw [H.out.1, H.out.2.1]; exact ⟨Nat.le_refl _, by decide, Nat.le_refl _, by decide, rfl, rfl, World.ownsRow_nil _ _ _ _, World.ownsRow_nil _ _ _ _⟩, HE.out.bl⟩
          · have hB : Hid (addB xs fs f = true) := by unfold Hid; rw [addB_eq, g, g2]; rfl
            have H : Hid (addX xs fs f = xs ∧ addF xs fs f = insF fs f ∧ addI xs fs f = (k : Int)) := by unfold Hid addX addF addI; rw [hB.out, hat.out]; exact ⟨rfl, rfl, rfl⟩
            have hil : Hid ((insF fs f).length = m + 1) := by unfold Hid; rw [insF_len, hlf]
            have p0 := HSZ.out.cell 0 0 rfl rfl
            have p1 := HSZ.out.cell 0 1 rfl rfl
            have y0 := HSZ.out.cell 3 0 rfl rfl
            have y1 := HSZ.out.cell 3 1 rfl rfl
            have z0 := HSZ.out.frozen 3 0 rfl
            have z1 := HSZ.out.frozen 3 1 rfl
            have HE := hid ((HSZ.out.set 3 rfl 0 (.slice A1 n c1)).set 3 rfl 1 (.slice A3 (m + 1) c3))
            go_wp2
            exact bodyPost_ret (v := .tuple #[.agg #[.slice A1 n c1, .slice A3 (m + 1) c3], .int .i64 k, .bool true]) (by simp [results, Try.results49, go_sem, y0, y1]) rfl
              ⟨A1, c1, A3, c3, by rw [hB.out, H.out.1, H.out.2.1, H.out.2.2, hlx.out, hil.out], by rw [H.out.1, H.out.2.1, hlx.out, hil.out]; exact HE.out.netOwn2 1 2 rfl rfl hlx.out.symm hil.out.symm hbw hbw, HE.out.bl⟩
    · have hkm : k = m := by omega
      have iz : ¬ ((k : Int) < (m : Int)) := by omega
      have hat : Hid (atF fs f = k) := atF_is (by rw [hlf]; exact hk) hall (.inl (by rw [hlf]; exact hkm))
      have hins : Hid (fs.take k ++ f :: fs.drop k = insF fs f) := by unfold Hid insF; rw [hat.out]
      clear hall hkm
      go_wp2_with fail
      refine region_cls (by kernel_rfl) (by kernel_rfl) ?_
      repeat (first
        | ((with_reducible refine quiet_pos ?_ (fun K hK => ?_))
           · rfl
           apply Exists.intro
           refine ⟨fun w' hw' => ?_, ?_⟩
           · go_simp
             with_reducible rfl
           simp only [Act.put, List.setIfInBounds_toArray, List.set_cons_zero, List.set_cons_succ]
           refine hK _ ?_; clear hK K)
        | ((with_reducible refine quiet_neg ?_ (fun K hK => ?_))
           · rfl
           simp only [Act.put, List.setIfInBounds_toArray, List.set_cons_zero, List.set_cons_succ]
           refine hK _ ?_; clear hK K))
      with_reducible refine wpQuiet_nil ?_
      intro wz hwz'
      -- the place is found: hat
      replace HS := hid (HS.out.step hwz')
      have hbz : bx ≤ wz.heap.size := Nat.le_trans hbxw.out hwz'.size
      have p0 := HS.out.cell 0 1 rfl rfl
      have e0 := HS.out.cell 4 0 rfl rfl
      have e1 := HS.out.cell 4 1 rfl rfl
      have e2 := HS.out.cell 4 2 rfl rfl
      have e3 := HS.out.cell 4 3 rfl rfl
      clear D0 E0 E1 E2 E3 hwz'
      go_wp2_with fail
      have HS2 := hid (HS.out.blk_ wz.heap.size rfl 62 #[.int .i64 f.a, .int .i64 f.b, .int .i64 f.len, .int .i64 f.risk])
      refine (insert1_led HS2.out 3 rfl 0 rfl (by decide) hk hmm (by simp; omega)).mono ?_
      rintro e w3 ⟨A3, c3, rfl, hS3⟩
      rw [hins.out] at hS3
      have p1 := hS3.cell 1 1 rfl rfl
      have z1 := hS3.frozen 1 1 rfl
      have HS4 := hid ((hS3.set 1 rfl 1 (.slice A3 (m + 1) c3)).drop 1)
      have q0 := HS4.out.cell 5 0 rfl rfl
      have q1 := HS4.out.cell 5 1 rfl rfl
      clear HS2 HS hS3 p0 e0 e1 e2 e3
      go_wp2_with fail
      refine (validN _ (HN.out.grow HS4.out.bl)).mono ?_
      rintro e w4 ⟨rfl, hb4⟩
      have HS5 := hid (HS4.out.step hb4)
      clear hb4 q0 q1 p1 z1
      cases g : goodB xs fs
      · have hB : Hid (addB xs fs f = false) := by unfold Hid; rw [addB_eq, g]; rfl
        have HSZ := HS5
        have H : Hid (addX xs fs f = [] ∧ addF xs fs f = [] ∧ addI xs fs f = 0) := by unfold Hid addX addF addI; rw [hB.out]; exact ⟨rfl, rfl, rfl⟩
        have y0 := HSZ.out.cell 3 0 rfl rfl
        have y1 := HSZ.out.cell 3 1 rfl rfl
        have z0 := HSZ.out.frozen 3 0 rfl
        have z1 := HSZ.out.frozen 3 1 rfl
        have HE := hid ((HSZ.out.set 3 rfl 0 (.slice none 0 0)).set 3 rfl 1 (.slice none 0 0))
        go_wp2
        exact bodyPost_ret (v := .tuple #[.agg #[.slice none 0 0, .slice none 0 0], .int .i64 0, .bool false]) (by simp [results, Try.results49, go_sem, y0, y1]) rfl
          ⟨none, 0, none, 0, by rw [hB.out, H.out.1, H.out.2.1, H.out.2.2]; rfl, by rw [H.out.1, H.out.2.1]; exact ⟨Nat.le_refl _, by decide, Nat.le_refl _, by decide, rfl, rfl, World.ownsRow_nil _ _ _ _, World.ownsRow_nil _ _ _ _⟩, HE.out.bl⟩
      · have hm14 := (goodB_bd g).2.2
        rw [hlf] at hm14
        have p0 := HS5.out.cell 0 0 rfl rfl
        have p1 := HS5.out.cell 0 1 rfl rfl
        have hNO := HS5.out.netOwn2 (b0 := w.heap.size) 1 2 rfl rfl hlx.out.symm (show m + 1 = (insF fs f).length by rw [insF_len, hlf]) hbw hbw
        have HNO := hid hNO
        have HNI := hid (NetOwn.is hNO hnn (by omega) hx.out)
        clear hNO
        go_wp2_with fail
        refine (validN _ HNI.out).mono ?_
        rintro e w5 ⟨rfl, hb5⟩
        have HSZ := hid (HS5.out.step hb5)
        clear hb5 p0 p1 HNO HNI
        cases g2 : goodB xs (insF fs f)
        · have hB : Hid (addB xs fs f = false) := by unfold Hid; rw [addB_eq, g2, Bool.and_false]
          have H : Hid (addX xs fs f = [] ∧ addF xs fs f = [] ∧ addI xs fs f = 0) := by unfold Hid addX addF addI; rw [hB.out]; exact ⟨rfl, rfl, rfl⟩
          have y0 := HSZ.out.cell 3 0 rfl rfl
          have y1 := HSZ.out.cell 3 1 rfl rfl
          have z0 := HSZ.out.frozen 3 0 rfl
          have z1 := HSZ.out.frozen 3 1 rfl
          have HE := hid ((HSZ.out.set 3 rfl 0 (.slice none 0 0)).set 3 rfl 1 (.slice none 0 0))
          go_wp2
          exact bodyPost_ret (v := .tuple #[.agg #[.slice none 0 0, .slice none 0 0], .int .i64 0, .bool false]) (by simp [results, Try.results49, go_sem, y0, y1]) rfl
            ⟨none, 0, none, 0, by rw [hB.out, H.out.1, H.out.2.1, H.out.2.2]; rfl, by rw [H.out.1, H.out.2.1]; exact ⟨Nat.le_refl _, by decide, Nat.le_refl _, by decide, rfl, rfl, World.ownsRow_nil _ _ _ _, World.ownsRow_nil _ _ _ _⟩, HE.out.bl⟩
        · have hB : Hid (addB xs fs f = true) := by unfold Hid; rw [addB_eq, g, g2]; rfl
          have H : Hid (addX xs fs f = xs ∧ addF xs fs f = insF fs f ∧ addI xs fs f = (k : Int)) := by unfold Hid addX addF addI; rw [hB.out, hat.out]; exact ⟨rfl, rfl, rfl⟩
          have hil : Hid ((insF fs f).length = m + 1) := by unfold Hid; rw [insF_len, hlf]
          have p0 := HSZ.out.cell 0 0 rfl rfl
          have p1 := HSZ.out.cell 0 1 rfl rfl
          have y0 := HSZ.out.cell 3 0 rfl rfl
          have y1 := HSZ.out.cell 3 1 rfl rfl
          have z0 := HSZ.out.frozen 3 0 rfl
          have z1 := HSZ.out.frozen 3 1 rfl
          have HE := hid ((HSZ.out.set 3 rfl 0 (.slice A1 n c1)).set 3 rfl 1 (.slice A3 (m + 1) c3))
          go_wp2
          exact bodyPost_ret (v := .tuple #[.agg #[.slice A1 n c1, .slice A3 (m + 1) c3], .int .i64 k, .bool true]) (by simp [results, Try.results49, go_sem, y0, y1]) rfl
            ⟨A1, c1, A3, c3, by rw [hB.out, H.out.1, H.out.2.1, H.out.2.2, hlx.out, hil.out], by rw [H.out.1, H.out.2.1, hlx.out, hil.out]; exact HE.out.netOwn2 1 2 rfl rfl hlx.out.symm hil.out.symm hbw hbw, HE.out.bl⟩
end
end Go.Proofs.Ytfepilpllfiegaa
/- FnNetworks, walked. Conditions: none. By wfnet.py. -/
namespace Go.Proofs.Ytfepilpllfiegaa
open Go.RowKit
set_option maxRecDepth 100000 in
theorem specValidN {n c m d : Nat} {A A' : Option Addr} {xs : List ByteArray} {fs : List Fib} (w : World) (h : NetIs w A n c A' m d xs fs) :
    Calls Try.prog 46 #[.agg #[.slice A n c, .slice A' m d]] w fun e w' => e = .returned (.bool (goodB xs fs)) ∧ Below w.heap.size w w' := by
  have hb0 := bl_alloc (Below.refl w.heap.size w) (.cells #[.slice A n c, .slice A' m d] 27)
  have h0 := h.grow hb0
  go_enter Try.func46, Try.ntmps46
  go_wp2_with fail
  refine (goodN _ h0).mono ?_
  rintro e w' ⟨rfl, hb⟩
  go_wp2_with fail
  go_ret
  exact ⟨rfl, bl_then hb0 hb⟩
/-- What the law asks of one fiber of one group. -/
theorem fw_facts {xs : List ByteArray} {fs : List Fib} (hg : goodB xs fs = true) {i k : Nat} {r : List Int} {x : Int} (hr : (groupsL fs)[i]? = some r) (hx : r[k]? = some x) :
    fwB xs fs x = true ∧ fwL xs fs x = r ∧ hasB (((groupsL fs).take i).flatten ++ r.take k) x = false := by
  have hm := List.mem_of_getElem? hr
  have hxm := List.mem_of_getElem? hx
  have hp := group_pos (fs := fs) (i := i) x (by rw [getD_of hr]; exact hxm)
  obtain ⟨j, rfl⟩ : ∃ j : Nat, x = (j : Int) := ⟨x.toNat, by omega⟩
  obtain ⟨hj, hrj⟩ := groupL_only hm hxm
  have h1 : fwB xs fs (j : Int) = true := by
    unfold fwB inB
    rw [hg]
    simp
    omega
  refine ⟨h1, by unfold fwL; rw [h1, if_pos rfl, Int.toNat_natCast]; exact hrj.symm, ?_⟩
  cases h : hasB (((groupsL fs).take i).flatten ++ r.take k) (j : Int)
  · rfl
  · exact absurd (hasB_iff.1 h) (seen_new groups_nodup hr hx)
theorem group_short {fs : List Fib} {r : List Int} (h : r ∈ groupsL fs) : r.length ≤ fs.length := by
  have h1 := nodup_le (l := r) (m := idsTo (fun _ => true) fs.length) ((group_asc h).imp (fun h e => by omega)) (fun x hx => by
    obtain ⟨i, hi, e⟩ := List.mem_iff_getElem.1 h
    have hp := group_pos (fs := fs) (i := i) x (by rw [getD_of (x := r) (by rw [List.getElem?_eq_getElem hi, e])]; exact hx)
    obtain ⟨j, rfl⟩ : ∃ j : Nat, x = (j : Int) := ⟨x.toNat, by omega⟩
    exact idsTo_mem.2 ⟨by omega, rfl⟩)
  rw [ids_all] at h1
  exact h1
theorem seen_short {rows : List (List Int)} {k q : Nat} {r : List Int} (hr : rows[k]? = some r) : ((rows.take k).flatten ++ r.take q).length ≤ rows.flatten.length := by
  have hk := (List.getElem?_eq_some_iff.1 hr).1
  have e : rows = rows.take k ++ (r :: rows.drop (k + 1)) := by
    have h2 := (List.getElem?_eq_some_iff.1 hr).2
    rw [← h2, ← List.drop_eq_getElem_cons hk, List.take_append_drop]
  have e2 : rows.flatten.length = ((rows.take k).flatten ++ (r ++ (rows.drop (k + 1)).flatten)).length := by
    conv => lhs; rw [e]
    rw [List.flatten_append, List.flatten_cons]
  rw [e2, List.length_append, List.length_append, List.length_append, List.length_take]
  omega
set_option maxHeartbeats 400000 in
set_option maxRecDepth 100000 in
theorem walkFnNetworks (w : World) {A : Option Addr} {n c : Nat} {bs : List Int} (hA : BytesArg w A n c bs) : Calls Try.prog 8 #[.slice A n c] w fun e w' => e = .returned (.bool true) ∧ Below w.heap.size w w' := by
  obtain ⟨hcc, hcm, hS, hx⟩ := hA
  unfold maxLen at hcm
  by_cases hn : n ≤ 65536
  · have HS := hid hS
    have HX := hid hx
    clear hS hx
    go_enter Try.func8, Try.ntmps8
    go_wp2_with fail
    go_in
    go_wp2_with fail
    refine (drawAddFiber_any _ HS.out HX.out (by omega)).mono ?_
    rintro e w1 ⟨B, p, cb, E, m, d, xs, fs, f, rfl, hD⟩
    have HN := hid hD.net
    have HB1 := hid hD.bl
    have hp := hD.hp
    have hm := hD.hm
    have HXL := hid hD.xl
    have HFL := hid hD.fl
    have HSH := hid hD.sh
    have H1 := hid (((Led.nil w1).blk_ w1.heap.size rfl 27 #[.slice B p cb, .slice E m d]).blk_ (w1.heap.size + 1) (by simp) 62 #[.int .i64 f.a, .int .i64 f.b, .int .i64 f.len, .int .i64 f.risk])
    clear hD HS HX
    have HP1 := hid (fun w' h => implRiskGroups w' (HN.out.grow h))
    have HP2 := hid (fun w' h => specValidN w' (HN.out.grow h))
    have HP3 := hid (fun w' h => validN w' (HN.out.grow h))
    have HP4 := hid (fun w' h => implAdd (f := f) w' (HN.out.grow h))
    have HP5 := hid (fun w' h => specAdd (f := f) w' (HN.out.grow h))
    go_wp2_with fail
    refine (HP1.out _ H1.out.bl).mono ?_
    rintro e w2 ⟨sA, ss, rfl, ho, hb⟩
    obtain ⟨RA, cR, hv, _, _, _⟩ := ho.1.form
    have hsl : ss.length = (rgL xs fs).length := ho.2.1
    rw [hsl] at hv
    rw [hv] at ho ⊢
    have H2 := hid (H1.out.ss hb ho)
    obtain ⟨b2, hb2⟩ : ∃ b2, b2 = (w1.alloc (.cells #[.slice B p cb, .slice E m d] 27)).alloc (.cells #[.int .i64 f.a, .int .i64 f.b, .int .i64 f.len, .int .i64 f.risk] 62) := ⟨_, rfl⟩
    rw [← hb2] at H2
    obtain ⟨good, hgood⟩ : ∃ good, good = goodB xs fs := ⟨_, rfl⟩
    obtain ⟨rows, hrows⟩ : ∃ rows, rows = rgL xs fs := ⟨_, rfl⟩
    rw [← hgood] at HP2 HP3 ⊢
    rw [← hrows] at H2 hsl ⊢
    have HGD := hid hgood
    have HRW := hid hrows
    have HSL := hid hsl
    clear hsl hv ho hb H1 HP1 hgood hrows hb2
    have q0 := H2.out.cell 2 0 rfl rfl
    have q1 := H2.out.cell 2 1 rfl rfl
    go_wp2_with fail
    refine (HP2.out _ H2.out.bl).mono ?_
    rintro e w3 ⟨rfl, hb⟩
    have H3 := hid (H2.out.step hb)
    clear hb H2 q0 q1 HP2
    have q0 := H3.out.cell 2 0 rfl rfl
    have q1 := H3.out.cell 2 1 rfl rfl
    have nG : (good != good) = false := by simp
    go_wp2_with fail
    refine (HP3.out _ H3.out.bl).mono ?_
    rintro e w4 ⟨rfl, hb⟩
    have H4 := hid ((H3.out.step hb).empty elInt 3 w4.heap.size rfl w1.heap.size (by have := H3.out.bl.size; have := hb.size; omega))
    clear hb H3 q0 q1 HP3
    -- ledger: [seen, groups, fbox, nbox]
    go_wp2_with fail
    go_loopw [7, 8] (fun v i wr => ∃ k : Nat, k ≤ rows.length ∧ i = .int .i64 k ∧ Hid (Led w1 wr [tOwns elInt w1.heap.size 3 v (rows.take k).flatten, tSS b2.heap.size (.slice RA rows.length cR) ss rows, tBlk (w1.heap.size + 1) 62 #[.int .i64 f.a, .int .i64 f.b, .int .i64 f.len, .int .i64 f.risk], tBlk w1.heap.size 27 #[.slice B p cb, .slice E m d]])) (fun _ i _ => rows.length - (intOf i).toNat)
    case atStart => exact ⟨0, Nat.zero_le _, rfl, H4⟩
    case round =>
      clear H4
      obtain ⟨k, hk, rfl, HS⟩ := hrel
      obtain ⟨VS, cS, rfl, _⟩ := HS.out.form 0 rfl
      have hrl : rows.length ≤ 9223372036854775807 := by
        have hss0 : OwnsSS wr b2.heap.size (.slice RA rows.length cR) ss rows := HS.out.get 1 rfl
        obtain ⟨_, _, _, h1, h2, _⟩ := hss0.1.form
        unfold maxLen at h2
        have := HSL.out
        omega
      by_cases hlt : k < rows.length
      · have iz : (k : Int) < (rows.length : Int) := by omega
        have hgd : goodB xs fs = true := by
          cases h : goodB xs fs
          · have e := HRW.out
            unfold rgL at e
            rw [h, if_neg (by decide)] at e
            rw [e] at hlt
            exact absurd hlt (Nat.not_lt_zero _)
          · rfl
        have HG := hid hgd
        have HRG : Hid (rows = groupsL fs) := by unfold Hid; rw [HRW.out]; unfold rgL; rw [hgd, if_pos rfl]
        obtain ⟨r, hr⟩ : ∃ r, rows[k]? = some r := ⟨rows[k]'hlt, List.getElem?_eq_getElem _⟩
        have HR := hid hr
        have HFW : Hid (∀ q x, r[q]? = some x → fwB xs fs x = true ∧ fwL xs fs x = r ∧ hasB ((rows.take k).flatten ++ r.take q) x = false) := by
          unfold Hid
          intro q x hx
          rw [HRG.out]
          exact fw_facts HG.out (i := k) (k := q) (r := r) (x := x) (by rw [← HRG.out]; exact HR.out) hx
        have HNX : Hid ((rows.take (k + 1)).flatten = (rows.take k).flatten ++ r) := seen_next hr
        obtain ⟨s0, hs0⟩ := get_of (k := k) HSL.out hlt
        have HSS := hid (fun wr' (h : OwnsSS wr' b2.heap.size (.slice RA rows.length cR) ss rows) => (⟨(OwnsSS.sees h).1, (OwnsSS.sees h).2.2 k s0 r hs0 hr⟩ : Sees elSl wr' wr'.heap.size RA ss.length ss ∧ s0.n = r.length ∧ Sees elInt wr' wr'.heap.size s0.A s0.n r))
        have hss : OwnsSS wr b2.heap.size (.slice RA rows.length cR) ss rows := HS.out.get 1 rfl
        have hrn : r.length ≤ 1048576 := by
          have h1 := group_short (fs := fs) (r := r) (by rw [← HRG.out]; exact List.mem_of_getElem? hr)
          have := HFL.out
          omega
        have HRW0 : Hid (rows.flatten.length ≤ 15) := by unfold Hid; rw [HRG.out, groups_count HG.out]; have := HFL.out; omega
        obtain ⟨b3, o3, rfl, _, _⟩ := (HSS.out wr hss).1.at_ (k := k) (by rw [HSL.out]; exact hlt)
        have HS0 := hid hs0
        clear hss hgd hr hs0 hk
        go_wp2_with fail
        go_loopw [7, 9] (fun v j wr => ∃ q : Nat, q ≤ r.length ∧ j = .int .i64 q ∧ Hid (Led w1 wr [tOwns elInt w1.heap.size 3 v ((rows.take k).flatten ++ r.take q), tSS b2.heap.size (.slice (some ⟨b3, o3, none⟩) rows.length cR) ss rows, tBlk (w1.heap.size + 1) 62 #[.int .i64 f.a, .int .i64 f.b, .int .i64 f.len, .int .i64 f.risk], tBlk w1.heap.size 27 #[.slice B p cb, .slice E m d]])) (fun _ j _ => r.length - (intOf j).toNat)
        case atStart => exact ⟨0, Nat.zero_le _, rfl, by rw [List.take_zero, List.append_nil]; exact HS⟩
        case round =>
          clear HS
          obtain ⟨q, hq, rfl, HS⟩ := hrel
          obtain ⟨V2, c2, rfl, _⟩ := HS.out.form 0 rfl
          have hss : OwnsSS wr b2.heap.size (.slice (some ⟨b3, o3, none⟩) rows.length cR) ss rows := HS.out.get 1 rfl
          obtain ⟨hse, e1, hrow⟩ := HSS.out wr hss
          have cy := hse.cell HS0.out (j := 0) rfl
          obtain ⟨sA0, sN0, sC0⟩ := s0
          simp only at e1 hrow
          subst e1
          simp only [elSl, Nat.mul_one, Nat.add_zero, slV] at cy
          obtain ⟨SN, hSN⟩ : ∃ SN, SN = (rows.take k).flatten ++ r.take q := ⟨_, rfl⟩
          rw [← hSN] at HS ⊢
          have HSNE := hid hSN
          clear hSN
          by_cases hql : q < r.length
          · have iq : (q : Int) < (r.length : Int) := by omega
            obtain ⟨x, hx⟩ : ∃ x, r[q]? = some x := ⟨r[q]'hql, List.getElem?_eq_getElem _⟩
            obtain ⟨hw1, hw2, hw3⟩ := HFW.out q x hx
            obtain ⟨b4, o4, rfl, _, _⟩ := hrow.at_ hql
            have xc := hrow.cell hx (j := 0) rfl
            simp only [elInt, Nat.mul_one, Nat.add_zero] at xc
            have q0 := HS.out.cell 3 0 rfl rfl
            have q1 := HS.out.cell 3 1 rfl rfl
            have HPF := hid (fun w' h => implFailing x w' (HN.out.grow h))
            rw [hw1, hw2] at HPF
            have HXQ := hid hx
            have HRN := hid hrn
            have HSN := hid (seen_short (q := q) HR.out)
            rw [← HSNE.out] at HSN hw3
            have HW3 := hid hw3
            have hd := HS.out.step (Cls.drew _)
            clear hw1 hw2 hw3 hx hss hse hrow
            go_wp2_with fail
            refine wp_region_held_drew (S := fun w' => ((w'.cell? ⟨w1.heap.size, 0, none⟩ = some (.slice B p cb) ∧ w'.cell? ⟨w1.heap.size, 1, none⟩ = some (.slice E m d)) ∧ w'.cell? ⟨b3, o3 + k, none⟩ = some (.slice (some ⟨b4, o4, none⟩) r.length sC0)) ∧ w'.cell? ⟨b4, o4 + q, none⟩ = some (.int .i64 x)) (by kernel_rfl) (⟨⟨⟨q0, q1⟩, cy⟩, xc⟩) (fun hHeld => ?_)
            refine wpAnyH_take (i := 0) (oi := _) (v := ?_) rfl (by kernel_rfl) (by kernel_rfl) (by kernel_rfl) (fun _ _ _ h => h) (Or.inl ⟨by rfl, ?_⟩) (by assumption) ?_
            rotate_left
            · intro w hSw; go_simp; with_reducible rfl
            simp only [Act.put, List.getElem_toArray, List.getElem_cons_zero, List.setIfInBounds_toArray, List.set_cons_zero, List.set_cons_succ]
            refine wpAnyH_take (i := 1) (oi := _) (v := ?_) rfl (by kernel_rfl) (by kernel_rfl) (by kernel_rfl) (fun _ _ _ h => h) (Or.inl ⟨by rfl, ?_⟩) (by assumption) ?_
            rotate_left
            · intro w hSw; go_simp; with_reducible rfl
            simp only [Act.put, List.getElem_toArray, List.getElem_cons_zero, List.getElem_cons_succ, List.setIfInBounds_toArray, List.set_cons_zero, List.set_cons_succ]
            refine wpAnyH_take (i := 2) (oi := _) (v := ?_) rfl (by kernel_rfl) (by kernel_rfl) (by kernel_rfl) (fun _ _ _ h => h) (Or.inl ⟨by rfl, ?_⟩) (by assumption) ?_
            rotate_left
            · intro w hSw; go_simp; with_reducible rfl
            simp only [Act.put, List.getElem_toArray, List.getElem_cons_zero, List.getElem_cons_succ, List.setIfInBounds_toArray, List.set_cons_zero, List.set_cons_succ]
            refine wpAnyH_take (i := 3) (oi := _) (v := ?_) rfl (by kernel_rfl) (by kernel_rfl) (by kernel_rfl) (fun _ _ _ h => h) (Or.inl ⟨by rfl, ?_⟩) (by assumption) ?_
            rotate_left
            · intro w hSw; go_simp; with_reducible rfl
            simp only [Act.put, List.getElem_toArray, List.getElem_cons_zero, List.getElem_cons_succ, List.setIfInBounds_toArray, List.set_cons_zero, List.set_cons_succ]
            refine wpAnyH_take (i := 4) (oi := _) (v := ?_) rfl (by kernel_rfl) (by kernel_rfl) (by kernel_rfl) (fun _ _ _ h => h) (Or.inl ⟨by rfl, ?_⟩) (by assumption) ?_
            rotate_left
            · intro w hSw; go_simp; with_reducible rfl
            simp only [Act.put, List.getElem_toArray, List.getElem_cons_zero, List.getElem_cons_succ, List.setIfInBounds_toArray, List.set_cons_zero, List.set_cons_succ]
            refine wpAnyH_take (i := 5) (oi := _) (v := ?_) rfl (by kernel_rfl) (by kernel_rfl) (by kernel_rfl) (fun _ _ _ h => h) (Or.inl ⟨by rfl, ?_⟩) (by assumption) ?_
            rotate_left
            · intro w hSw; go_simp; with_reducible rfl
            simp only [Act.put, List.getElem_toArray, List.getElem_cons_zero, List.getElem_cons_succ, List.setIfInBounds_toArray, List.set_cons_zero, List.set_cons_succ]
            refine wpAnyH_take (i := 6) (oi := _) (v := ?_) rfl (by kernel_rfl) (by kernel_rfl) (by kernel_rfl) (fun _ _ _ h => h) (Or.inl ⟨by rfl, ?_⟩) (by assumption) ?_
            rotate_left
            · intro w hSw; go_simp; with_reducible rfl
            simp only [Act.put, List.getElem_toArray, List.getElem_cons_zero, List.getElem_cons_succ, List.setIfInBounds_toArray, List.set_cons_zero, List.set_cons_succ]
            refine wpAnyH_take (i := 7) (oi := _) (v := ?_) rfl (by kernel_rfl) (by kernel_rfl) (by kernel_rfl) (fun _ _ _ h => h) (Or.inl ⟨by rfl, ?_⟩) (by assumption) ?_
            rotate_left
            · intro w hSw; go_simp; with_reducible rfl
            simp only [Act.put, List.getElem_toArray, List.getElem_cons_zero, List.getElem_cons_succ, List.setIfInBounds_toArray, List.set_cons_zero, List.set_cons_succ]
            refine wpAnyH_ready (rs := [8]) (by kernel_rfl) (by simp) ?_
            refine AllReadyH.cons rfl (fun K hK => ?_) AllReadyH.nil
            go_simp
            refine (HPF.out _ hd.bl).mono ?_
            rintro e w9 ⟨v9, rfl, ho, hb⟩
            have h9 := hd.owns_ (b0 := w1.heap.size) hb ho (Nat.le_refl _) hd.bl.size
            obtain ⟨V9, c9, rfl, _⟩ := h9.form 0 rfl
            have hcl : Cls wr w9 := bl_then (Cls.drew _) hb
            have cy9 := hcl.cell cy
            have xc9 := hcl.cell xc
            clear hcl
            go_wp2_with fail
            refine hK.out _ _ (⟨⟨⟨h9.cell 4 0 rfl rfl, h9.cell 4 1 rfl rfl⟩, cy9⟩, xc9⟩) (fun hHeld => ?_)
            clear hK K
            try simp only [Act.put, List.getElem_toArray, List.getElem_cons_zero, List.getElem_cons_succ, List.setIfInBounds_toArray, List.set_cons_zero, List.set_cons_succ]
            refine wpAnyH_take (i := 9) (oi := _) (v := ?_) rfl (by kernel_rfl) (by kernel_rfl) (by kernel_rfl) (fun _ _ _ h => h) (Or.inl ⟨by rfl, ?_⟩) (by assumption) ?_
            rotate_left
            · intro w hSw; go_simp; with_reducible rfl
            simp only [Act.put, List.getElem_toArray, List.getElem_cons_zero, List.getElem_cons_succ, List.setIfInBounds_toArray, List.set_cons_zero, List.set_cons_succ]
            refine wpAnyH_take (i := 10) (oi := _) (v := ?_) rfl (by kernel_rfl) (by kernel_rfl) (by kernel_rfl) (fun _ _ _ h => h) (Or.inl ⟨by rfl, ?_⟩) (by assumption) ?_
            rotate_left
            · intro w hSw; go_simp; with_reducible rfl
            simp only [Act.put, List.getElem_toArray, List.getElem_cons_zero, List.getElem_cons_succ, List.setIfInBounds_toArray, List.set_cons_zero, List.set_cons_succ]
            refine wpAnyH_take (i := 11) (oi := _) (v := ?_) rfl (by kernel_rfl) (by kernel_rfl) (by kernel_rfl) (fun _ _ _ h => h) (Or.inl ⟨by rfl, ?_⟩) (by assumption) ?_
            rotate_left
            · intro w hSw; go_simp; with_reducible rfl
            simp only [Act.put, List.getElem_toArray, List.getElem_cons_zero, List.getElem_cons_succ, List.setIfInBounds_toArray, List.set_cons_zero, List.set_cons_succ]
            refine wpAnyH_take (i := 12) (oi := _) (v := ?_) rfl (by kernel_rfl) (by kernel_rfl) (by kernel_rfl) (fun _ _ _ h => h) (Or.inl ⟨by rfl, ?_⟩) (by assumption) ?_
            rotate_left
            · intro w hSw; go_simp; with_reducible rfl
            simp only [Act.put, List.getElem_toArray, List.getElem_cons_zero, List.getElem_cons_succ, List.setIfInBounds_toArray, List.set_cons_zero, List.set_cons_succ]
            refine wpAnyH_take (i := 13) (oi := _) (v := ?_) rfl (by kernel_rfl) (by kernel_rfl) (by kernel_rfl) (fun _ _ _ h => h) (Or.inl ⟨by rfl, ?_⟩) (by assumption) ?_
            rotate_left
            · intro w hSw; go_simp; with_reducible rfl
            simp only [Act.put, List.getElem_toArray, List.getElem_cons_zero, List.getElem_cons_succ, List.setIfInBounds_toArray, List.set_cons_zero, List.set_cons_succ]
            refine wpAnyH_done (by kernel_rfl) ?_ _
            have H9 := hid h9
            have y9 := cy9
            have x9 := xc9
            clear h9 ho hb hHeld HS hd cy xc cy9 xc9 q0 q1 HPF
            have HVH := hid (vHas_any (c := c2) x _ (H9.out.sees 1 rfl rfl) (by have := HSN.out; have := HRW0.out; unfold maxLen; omega))
            rw [HW3.out] at HVH
            go_wp2_with fail
            refine HVH.out.mono ?_
            rintro e w10 ⟨rfl, rfl⟩
            have hss : OwnsSS w9 b2.heap.size (.slice (some ⟨b3, o3, none⟩) rows.length cR) ss rows := H9.out.get 2 rfl
            have hrow := (HSS.out _ hss).2.2
            have HVI := hid (vInts_same (c := c9) (c' := sC0) _ (H9.out.seesI 0 rfl) hrow HRN.out)
            clear hss hrow HVH
            go_wp2_with fail
            refine HVI.out.mono ?_
            rintro e w11 ⟨rfl, hb⟩
            have h11 := (H9.out.step hb).drop 1
            have hss : OwnsSS w11 b2.heap.size (.slice (some ⟨b3, o3, none⟩) rows.length cR) ss rows := h11.get 1 rfl
            have y11 := (HSS.out _ hss).1.cell HS0.out (j := 0) rfl
            have x11 := (HSS.out _ hss).2.2.cell HXQ.out (j := 0) rfl
            simp only [elSl, elInt, Nat.mul_one, Nat.add_zero, slV] at y11 x11
            have H11 := hid (h11.blk_ w11.heap.size rfl 3 #[.int .i64 x])
            obtain ⟨i0, hi, hz0, hz1, hz2⟩ := info_parts int_info
            clear h11 hss hb H9 HVI y9 x9
            go_wp2_with (first
              | (at_builtin; refine wpList_append_led rfl _ _ 33 rfl H11.out 1 rfl Try.underlying33 hi hz0 hz1 (by rw [hz2]; decide) rfl rfl rfl (show Sees elInt _ _ _ 1 [x] from sees_new elInt _ _ _ _ rfl) (by have := HSN.out; have := HRW0.out; omega) H11.out.bl.size ?_)
              | go_in)
            intro A12 c12 w12 h12
            have hq1 : SN ++ [x] = (rows.take k).flatten ++ r.take (q + 1) := by rw [HSNE.out, List.append_assoc, List.take_add_one, HXQ.out]; rfl
            have H12 := hid (h12.drop 1)
            rw [hq1] at H12
            clear h12 H11 y11 x11 hq1
            go_wp2
            go_roundw
            case rel => first
              | exact ⟨q + 1, by omega, by go_num, H12⟩
              | ((repeat apply Exists.intro); exact ⟨⟨q + 1, by omega, by go_num, H12⟩, rfl⟩)
            case measure => simp [intOf]; omega
          · have iq : ¬ ((q : Int) < (r.length : Int)) := by omega
            have hqe : q = r.length := by omega
            have HS1 : Hid (Led w1 wr [tOwns elInt w1.heap.size 3 (.slice V2 SN.length c2) (rows.take (k + 1)).flatten, tSS b2.heap.size (.slice (some ⟨b3, o3, none⟩) rows.length cR) ss rows, tBlk (w1.heap.size + 1) 62 #[.int .i64 f.a, .int .i64 f.b, .int .i64 f.len, .int .i64 f.risk], tBlk w1.heap.size 27 #[.slice B p cb, .slice E m d]]) := by
              have e : (rows.take (k + 1)).flatten = SN := by rw [HNX.out, HSNE.out, hqe, List.take_length]
              rw [e]
              exact HS
            clear HS hqe hss hse hrow
            go_wp2
            go_roundw
            case rel => first
              | exact ⟨k + 1, by omega, by go_num, HS1⟩
              | ((repeat apply Exists.intro); exact ⟨⟨k + 1, by omega, by go_num, HS1⟩, rfl⟩)
            case measure => simp [intOf]; omega
      · have iz : ¬ ((k : Int) < (rows.length : Int)) := by omega
        obtain rfl : k = rows.length := by omega
        obtain ⟨sn, hsn⟩ : ∃ sn, sn = (rows.take rows.length).flatten.length := ⟨_, rfl⟩
        have hcnt : good = true → sn = m := fun h => by
          have hg : goodB xs fs = true := by rw [← HGD.out]; exact h
          rw [hsn, List.take_length, HRW.out]
          unfold rgL
          rw [hg, if_pos rfl, groups_count hg]
          exact HFL.out
        rw [← hsn] at HS ⊢
        have q0 := HS.out.cell 3 0 rfl rfl
        have q1 := HS.out.cell 3 1 rfl rfl
        have f0 := HS.out.cell 2 0 rfl rfl
        have f1 := HS.out.cell 2 1 rfl rfl
        have f2 := HS.out.cell 2 2 rfl rfl
        have f3 := HS.out.cell 2 3 rfl rfl
        have HAD := hid (rf_back (xs := xs) (fs := fs) (f := f))
        have HAX : Hid (addX xs fs f = if addB xs fs f then xs else []) := rfl
        have HAF : Hid (addF xs fs f = if addB xs fs f then insF fs f else []) := rfl
        have HAI : Hid (addI xs fs f = if addB xs fs f then (atF fs f : Int) else 0) := rfl
        obtain ⟨ad, had⟩ : ∃ ad, ad = addB xs fs f := ⟨_, rfl⟩
        rw [← had] at HP4 HP5 HAD HAX HAF HAI
        obtain ⟨X2, hX2⟩ : ∃ X2, X2 = addX xs fs f := ⟨_, rfl⟩
        obtain ⟨F2, hF2⟩ : ∃ F2, F2 = addF xs fs f := ⟨_, rfl⟩
        obtain ⟨at2, hat2⟩ : ∃ at2, at2 = addI xs fs f := ⟨_, rfl⟩
        rw [← hX2, ← hF2, ← hat2] at HP4 HP5
        rw [← hX2] at HAX
        rw [← hF2] at HAF
        rw [← hat2] at HAI
        have HADD := hid had
        clear had hX2 hF2 hat2 hsn
        have HGO := hid (show good = false ∨ (good = true ∧ ((sn : Int) != (m : Int)) = false) by
          cases good
          · exact .inl rfl
          · exact .inr ⟨rfl, by rw [hcnt rfl]; simp⟩)
        clear hcnt
        rcases HGO.out with hgo | ⟨hgo, hne⟩
        all_goals
          subst hgo
          clear HGO
          go_wp2_with fail
          refine (HP4.out _ HS.out.bl).mono ?_
          rintro e w10 ⟨A1, c1, A2, c2, rfl, ho, hb⟩
          have h10 := HS.out.net hb ho
          obtain ⟨bb, hbb⟩ : ∃ bb, bb = wr.heap.size := ⟨_, rfl⟩
          rw [← hbb] at h10
          have H10 := hid (h10.blk_ w10.heap.size rfl 27 #[.slice A1 X2.length c1, .slice A2 F2.length c2])
          clear h10 ho hb HS q0 q1 f0 f1 f2 f3 hbb
          -- ledger: [mbox, m, seen, groups, fbox, nbox]
          have q0 := H10.out.cell 5 0 rfl rfl
          have q1 := H10.out.cell 5 1 rfl rfl
          have f0 := H10.out.cell 4 0 rfl rfl
          have f1 := H10.out.cell 4 1 rfl rfl
          have f2 := H10.out.cell 4 2 rfl rfl
          have f3 := H10.out.cell 4 3 rfl rfl
          go_wp2_with fail
          refine (HP5.out _ H10.out.bl).mono ?_
          rintro e w11 ⟨A3, c3, A4, c4, rfl, -, hb⟩
          have H11 := hid ((H10.out.step hb).blk_ w11.heap.size rfl 27 #[.slice A3 X2.length c3, .slice A4 F2.length c4])
          clear hb H10 q0 q1 f0 f1 f2 f3
          -- ledger: [sbox, mbox, m, seen, groups, fbox, nbox]
          cases ad
          · have e0 : (at2 == 0) = true := by rw [HAI.out]; rfl
            go_wp2_with fail
            go_ret
            exact ⟨rfl, bl_then HB1.out H11.out.bl⟩
          · obtain ⟨hrB, hrX, hrF, hrI⟩ := HAD.out rfl
            have e1 : X2 = xs := HAX.out
            have e2 : F2 = insF fs f := HAF.out
            have e3 : at2 = (atF fs f : Int) := HAI.out
            rw [← e2, ← e3] at hrB hrX hrF hrI
            rw [← e1] at hrB hrI
            have HX2 := hid e1
            have hgX : goodB X2 F2 = true := by unfold rfB at hrB; rw [Bool.and_eq_true] at hrB; exact hrB.1
            have hb2 := goodB_bd hgX
            have HM := hid (H11.out.netIs 2 rfl (by omega) (by omega) (fun x hx => by rw [e1] at hx; have := HSH.out x hx; unfold maxLen; omega))
            have H12 := hid (H11.out.blk_ (w11.heap.size + 1) (by simp) 3 #[.int .i64 at2])
            have hsee : Sees elInt ((w11.alloc (.cells #[.slice A3 X2.length c3, .slice A4 F2.length c4] 27)).alloc (.cells #[.int .i64 at2] 3)) ((w11.alloc (.cells #[.slice A3 X2.length c3, .slice A4 F2.length c4] 27)).heap.size + 1) (some ⟨w11.heap.size + 1, 0, none⟩) 1 [at2] := sees_new elInt (w11.alloc (.cells #[.slice A3 X2.length c3, .slice A4 F2.length c4] 27)) at2 3 (w11.heap.size + 1) (by simp)
            have HPR := hid (implRemove (c' := 1) _ (HM.out.grow (bl_alloc (Below.refl _ _) (.cells #[.int .i64 at2] 3))) hsee (by decide))
            have hrX2 : rfX X2 F2 [at2] = xs := by rw [e1]; exact hrX
            have hrF2 : rfF X2 F2 [at2] = fs := by rw [e1]; exact hrF
            rw [hrX2, hrF2, hrB, HXL.out, HFL.out] at HPR
            rw [HFL.out] at hrI
            obtain ⟨RI, hRI⟩ : ∃ RI, RI = rfI X2 F2 [at2] := ⟨_, rfl⟩
            rw [← hRI] at HPR hrI
            have HRI := hid hrI
            have HVM := hid (fun w' h => validN w' (HM.out.grow h))
            rw [hgX] at HVM
            have q0 := H11.out.cell 1 0 rfl rfl
            have q1 := H11.out.cell 1 1 rfl rfl
            clear hrB hrX hrF hrI e1 e2 e3 hgX hb2 hsee hrX2 hrF2 hRI
            go_wp2_with fail
            refine HPR.out.mono ?_
            rintro e w13 ⟨A5, c5, E5, d5, v, rfl, hno, hoi, hb⟩
            obtain ⟨V13, c13, rfl, _⟩ := hoi.form
            have HS5 := hid hno.strs
            have HF5 := hid hno.fibs
            have h13 := H12.out.step hb
            have H14 := hid (h13.blk_ w13.heap.size rfl 27 #[.slice A5 p c5, .slice E5 m d5])
            have HB13 := hid hb
            clear h13 hno hoi hb H12 HPR q0 q1
            -- ledger: [bbox, one, sbox, mbox, m, seen, groups, fbox, nbox]
            have q0 := H14.out.cell 8 0 rfl rfl
            have q1 := H14.out.cell 8 1 rfl rfl
            have m0 := H14.out.cell 3 0 rfl rfl
            have m1 := H14.out.cell 3 1 rfl rfl
            have b0 := H14.out.cell 0 0 rfl rfl
            have b1 := H14.out.cell 0 1 rfl rfl
            have HNN := hid (HN.out.grow H14.out.bl)
            have hb1 : Below w13.heap.size w13 (w13.alloc (.cells #[.slice A5 p c5, .slice E5 m d5] 27)) := bl_alloc (Below.refl _ _) _
            have HVN := hid (vNetworks_same (c := c5) (c' := cb) (d := d5) (d' := d) _ (HS5.out.grow hb1) HNN.out.strs (HF5.out.grow hb1) HNN.out.fibs (by simp) (Nat.le_refl _) (by omega) (by omega))
            have eRI : ((RI.length : Int) == (m : Int)) = true := by rw [HRI.out]; simp
            clear hb1 HNN
            go_wp2_with fail
            refine HVN.out.mono ?_
            rintro e w15 ⟨rfl, hb⟩
            have H15 := hid (H14.out.step hb)
            have HB15 := hid hb
            clear hb HVN q0 q1 m0 m1 b0 b1 H14
            have q1 := H15.out.cell 8 1 rfl rfl
            have m0 := H15.out.cell 3 0 rfl rfl
            have m1 := H15.out.cell 3 1 rfl rfl
            go_wp2_with fail
            refine (HVM.out _ (bl_then (show Below (w11.alloc (.cells #[.slice A3 X2.length c3, .slice A4 F2.length c4] 27)).heap.size _ w13 from bl_then (bl_alloc (Below.refl _ _) _) HB13.out) (bl_then (bl_alloc (Below.refl _ _) _) HB15.out))).mono ?_
            rintro e w16 ⟨rfl, hb⟩
            have H16 := hid (H15.out.step hb)
            clear hb H15 q1 m0 m1
            go_wp2
            go_ret
            exact ⟨rfl, bl_then HB1.out H16.out.bl⟩
  · clear hS hx
    go_enter Try.func8, Try.ntmps8
    go_wp2_with go_in
    go_ret
    exact ⟨rfl, Below.refl _ _⟩
end Go.Proofs.Ytfepilpllfiegaa
