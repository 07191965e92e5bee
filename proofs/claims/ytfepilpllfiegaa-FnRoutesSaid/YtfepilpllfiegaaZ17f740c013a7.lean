/- Lemmas and walks that the claim rests on, laid together. Conditions: none. -/
import Derived.Test.YtfepilpllfiegaaZc3e33f13110d
import Derived.Test.YtfepilpllfiegaaZ76d3d4a5ee99
import Derived.BigQuiet
import Derived.Deep.RegionHeld3
import Derived.Test.YtfepilpllfiegaaRows
import Derived.Test.YtfepilpllfiegaaZc731a5b1582e
/- AddFiber of the reference, walked. Conditions: none. -/
namespace Go.Proofs.Ytfepilpllfiegaa
open Go.RowKit
theorem Sees.backE {α : Type} {E : El α} {w : World} {B b o n k : Nat} {l : List α} (h : Sees E w B (some ⟨b, o, none⟩) n l) (hk : k ≤ n) : Sees E w B (some ⟨b, o + k * E.sz, none⟩) (n - k) (l.drop k) := by
  refine ⟨by rw [List.length_drop, h.1], ?_⟩
  rcases h.2 with h0 | ⟨b', o', e, hb, hc⟩
  · exact .inl (by omega)
  · injection e with e
    injection e with e1 e2
    subst e1 e2
    refine .inr ⟨b, _, rfl, hb, fun j x hx i u hu => ?_⟩
    rw [List.getElem?_drop] at hx
    have h1 := hc (k + j) x hx i u hu
    have e : o + (k + j) * E.sz + i = o + k * E.sz + j * E.sz + i := by rw [Nat.add_mul]; omega
    rw [← e]; exact h1
section
variable {n c m d : Nat} {A A' : Option Addr} {xs : List ByteArray} {fs : List Fib} {f : Fib}
set_option maxHeartbeats 1000000 in
set_option maxRecDepth 100000 in
theorem specAdd (w : World) (h : NetIs w A n c A' m d xs fs) :
    Calls Try.prog 50 #[.agg #[.slice A n c, .slice A' m d], .agg #[.int .i64 f.a, .int .i64 f.b, .int .i64 f.len, .int .i64 f.risk]] w fun e w' => ∃ A1 c1 A2 c2, e = .returned (.tuple #[.agg #[.slice A1 (addX xs fs f).length c1, .slice A2 (addF xs fs f).length c2], .int .i64 (addI xs fs f), .bool (addB xs fs f)]) ∧ NetOwn w' w.heap.size A1 (addX xs fs f).length c1 A2 (addF xs fs f).length c2 (addX xs fs f) (addF xs fs f) ∧ Below w.heap.size w w' := by
  have hS := (((Led.nil w).blk_ w.heap.size rfl 27 #[.slice A n c, .slice A' m d]).blk_ (w.heap.size + 1) (by simp) 62 #[.int .i64 f.a, .int .i64 f.b, .int .i64 f.len, .int .i64 f.risk]).blk_ (w.heap.size + 1 + 1) (by simp) 27 #[.slice none 0 0, .slice none 0 0]
  obtain ⟨j0, hj, hy0, hy1, hy2⟩ := info_parts fib_info
  have HN := hid h
  have hlx := hid h.xlen
  have hlf := h.flen
  have hnn := h.nle
  have hmm := h.mle
  have hmd : m ≤ d := h.2.1.1
  clear h
  cases g : goodB xs fs
  · have hB : Hid (addB xs fs f = false) := by unfold Hid addB; rw [g]; rfl
    go_enter Try.func50, Try.ntmps50
    go_wp2_with fail
    refine (goodN _ (HN.out.grow hS.bl)).mono ?_
    rintro e w1 ⟨rfl, hb⟩
    rw [g]
    replace hS := hS.step hb
    clear hb
    have H : Hid (addX xs fs f = [] ∧ addF xs fs f = [] ∧ addI xs fs f = 0) := by unfold Hid addX addF addI; rw [hB.out]; exact ⟨rfl, rfl, rfl⟩
    have y0 := hS.cell 0 0 rfl rfl
    have z0 := hS.frozen 0 0 rfl
    have y1 := hS.cell 0 1 rfl rfl
    have z1 := hS.frozen 0 1 rfl
    have HE := hid ((hS.set 0 rfl 0 (.slice none 0 0)).set 0 rfl 1 (.slice none 0 0))
    go_wp2_with fail
    exact bodyPost_ret (v := .tuple #[.agg #[.slice none 0 0, .slice none 0 0], .int .i64 0, .bool false]) (by simp [results, Try.results50, go_sem, y0, y1]) rfl
      ⟨none, 0, none, 0, by rw [hB.out, H.out.1, H.out.2.1, H.out.2.2]; rfl, by rw [H.out.1, H.out.2.1]; exact ⟨Nat.le_refl _, by decide, Nat.le_refl _, by decide, rfl, rfl, World.ownsRow_nil _ _ _ _, World.ownsRow_nil _ _ _ _⟩, HE.out.bl⟩
  · cases g2 : fibB n f
    · have hB : Hid (addB xs fs f = false) := by unfold Hid addB; rw [g, hlx.out, g2]; rfl
      go_enter Try.func50, Try.ntmps50
      go_wp2_with fail
      refine (goodN _ (HN.out.grow hS.bl)).mono ?_
      rintro e w1 ⟨rfl, hb⟩
      rw [g]
      replace hS := hS.step hb
      clear hb
      have e0 := hS.cell 1 0 rfl rfl
      have e1 := hS.cell 1 1 rfl rfl
      have e2 := hS.cell 1 2 rfl rfl
      have e3 := hS.cell 1 3 rfl rfl
      have p0 := hS.cell 2 0 rfl rfl
      go_wp2_with fail
      refine (l2Fiber_any f n _ hnn).mono ?_
      rintro e w2 ⟨rfl, hb⟩
      rw [g2]
      replace hS := hS.step hb
      clear hb e0 e1 e2 e3 p0
      have H : Hid (addX xs fs f = [] ∧ addF xs fs f = [] ∧ addI xs fs f = 0) := by unfold Hid addX addF addI; rw [hB.out]; exact ⟨rfl, rfl, rfl⟩
      have y0 := hS.cell 0 0 rfl rfl
      have z0 := hS.frozen 0 0 rfl
      have y1 := hS.cell 0 1 rfl rfl
      have z1 := hS.frozen 0 1 rfl
      have HE := hid ((hS.set 0 rfl 0 (.slice none 0 0)).set 0 rfl 1 (.slice none 0 0))
      go_wp2_with fail
      exact bodyPost_ret (v := .tuple #[.agg #[.slice none 0 0, .slice none 0 0], .int .i64 0, .bool false]) (by simp [results, Try.results50, go_sem, y0, y1]) rfl
        ⟨none, 0, none, 0, by rw [hB.out, H.out.1, H.out.2.1, H.out.2.2]; rfl, by rw [H.out.1, H.out.2.1]; exact ⟨Nat.le_refl _, by decide, Nat.le_refl _, by decide, rfl, rfl, World.ownsRow_nil _ _ _ _, World.ownsRow_nil _ _ _ _⟩, HE.out.bl⟩
    · have hm14 := (goodB_bd g).2.2
      rw [hlf] at hm14
      by_cases h14 : m = 14
      · have hB : Hid (addB xs fs f = false) := by unfold Hid addB; rw [g, hlx.out, g2, decide_eq_false (by omega)]; rfl
        have i14 : ((m : Int) == 14) = true := by rw [h14]; rfl
        clear h14
        go_enter Try.func50, Try.ntmps50
        go_wp2_with fail
        refine (goodN _ (HN.out.grow hS.bl)).mono ?_
        rintro e w1 ⟨rfl, hb⟩
        rw [g]
        replace hS := hS.step hb
        clear hb
        have e0 := hS.cell 1 0 rfl rfl
        have e1 := hS.cell 1 1 rfl rfl
        have e2 := hS.cell 1 2 rfl rfl
        have e3 := hS.cell 1 3 rfl rfl
        have p0 := hS.cell 2 0 rfl rfl
        go_wp2_with fail
        refine (l2Fiber_any f n _ hnn).mono ?_
        rintro e w2 ⟨rfl, hb⟩
        rw [g2]
        replace hS := hS.step hb
        clear hb e0 e1 e2 e3 p0
        have p1 := hS.cell 2 1 rfl rfl
        have H : Hid (addX xs fs f = [] ∧ addF xs fs f = [] ∧ addI xs fs f = 0) := by unfold Hid addX addF addI; rw [hB.out]; exact ⟨rfl, rfl, rfl⟩
        have y0 := hS.cell 0 0 rfl rfl
        have z0 := hS.frozen 0 0 rfl
        have y1 := hS.cell 0 1 rfl rfl
        have z1 := hS.frozen 0 1 rfl
        have HE := hid ((hS.set 0 rfl 0 (.slice none 0 0)).set 0 rfl 1 (.slice none 0 0))
        go_wp2_with fail
        exact bodyPost_ret (v := .tuple #[.agg #[.slice none 0 0, .slice none 0 0], .int .i64 0, .bool false]) (by simp [results, Try.results50, go_sem, y0, y1]) rfl
          ⟨none, 0, none, 0, by rw [hB.out, H.out.1, H.out.2.1, H.out.2.2]; rfl, by rw [H.out.1, H.out.2.1]; exact ⟨Nat.le_refl _, by decide, Nat.le_refl _, by decide, rfl, rfl, World.ownsRow_nil _ _ _ _, World.ownsRow_nil _ _ _ _⟩, HE.out.bl⟩
      · have hB : Hid (addB xs fs f = true) := by unfold Hid addB; rw [g, hlx.out, g2, decide_eq_true (by omega)]; rfl
        have i14 : ((m : Int) == 14) = false := by simp; omega
        have hsf := hid (smallF_of hnn g2)
        have hsx : Hid (∀ x ∈ fs, smallF x) := fun x hx => smallF_of (n := n) hnn (by have := goodB_fibB g hx; rw [hlx.out] at this; exact this)
        go_enter Try.func50, Try.ntmps50
        go_wp2_with fail
        refine (goodN _ (HN.out.grow hS.bl)).mono ?_
        rintro e w1 ⟨rfl, hb⟩
        rw [g]
        replace hS := hS.step hb
        clear hb
        have e0 := hS.cell 1 0 rfl rfl
        have e1 := hS.cell 1 1 rfl rfl
        have e2 := hS.cell 1 2 rfl rfl
        have e3 := hS.cell 1 3 rfl rfl
        have p0 := hS.cell 2 0 rfl rfl
        go_wp2_with fail
        refine (l2Fiber_any f n _ hnn).mono ?_
        rintro e w2 ⟨rfl, hb⟩
        rw [g2]
        replace hS := hS.step hb
        clear hb e0 e1 e2 e3 p0
        have p1 := hS.cell 2 1 rfl rfl
        go_wp2_with fail
        have HS := hid hS
        clear hS p1
        go_loopw [7] (fun i wr => ∃ k : Nat, k ≤ m ∧ i = .int .i64 k ∧ allTo (aheadF fs f) k ∧ Hid (Led w wr [tBlk (w.heap.size + 1 + 1) 27 #[.slice none 0 0, .slice none 0 0], tBlk (w.heap.size + 1) 62 #[.int .i64 f.a, .int .i64 f.b, .int .i64 f.len, .int .i64 f.risk], tBlk w.heap.size 27 #[.slice A n c, .slice A' m d]])) (fun i _ => m - (intOf i).toNat)
        case atStart => exact ⟨0, Nat.zero_le _, rfl, allTo_zero _, HS⟩
        case round =>
          clear HS
          obtain ⟨k, hk, rfl, hall, HS⟩ := hrel
          have D0 : ∀ w', Cls wr w' → w'.cell? ⟨w.heap.size, 1, none⟩ = some (.slice A' m d) := fun _ h => h.cell (HS.out.cell 2 1 rfl rfl)
          have E0 : ∀ w', Cls wr w' → w'.cell? ⟨w.heap.size + 1, 0, none⟩ = some (.int .i64 f.a) := fun _ h => h.cell (HS.out.cell 1 0 rfl rfl)
          have E1 : ∀ w', Cls wr w' → w'.cell? ⟨w.heap.size + 1, 1, none⟩ = some (.int .i64 f.b) := fun _ h => h.cell (HS.out.cell 1 1 rfl rfl)
          have E2 : ∀ w', Cls wr w' → w'.cell? ⟨w.heap.size + 1, 2, none⟩ = some (.int .i64 f.len) := fun _ h => h.cell (HS.out.cell 1 2 rfl rfl)
          have E3 : ∀ w', Cls wr w' → w'.cell? ⟨w.heap.size + 1, 3, none⟩ = some (.int .i64 f.risk) := fun _ h => h.cell (HS.out.cell 1 3 rfl rfl)
          by_cases hlt : k < m
          · obtain ⟨b, o, rfl, _, hc⟩ := HN.out.fibs.at_ hlt
            obtain ⟨x, hxk⟩ := get_of (k := k) hlf hlt
            have f0 := bl_cell HS.out.bl (hc k x hxk 0 _ rfl)
            have f1 := bl_cell HS.out.bl (hc k x hxk 1 _ rfl)
            have f2 := bl_cell HS.out.bl (hc k x hxk 2 _ rfl)
            have f3 := bl_cell HS.out.bl (hc k x hxk 3 _ rfl)
            simp only [elFib, Nat.add_zero] at f0 f1 f2 f3
            have F0 : ∀ w', Cls wr w' → w'.cell? ⟨b, o + k * 4, none⟩ = some (.int .i64 x.a) := fun _ h => h.cell f0
            have F1 : ∀ w', Cls wr w' → w'.cell? ⟨b, o + k * 4 + 1, none⟩ = some (.int .i64 x.b) := fun _ h => h.cell f1
            have F2 : ∀ w', Cls wr w' → w'.cell? ⟨b, o + k * 4 + 2, none⟩ = some (.int .i64 x.len) := fun _ h => h.cell f2
            have F3 : ∀ w', Cls wr w' → w'.cell? ⟨b, o + k * 4 + 3, none⟩ = some (.int .i64 x.risk) := fun _ h => h.cell f3
            have iz : (k : Int) < (m : Int) := by omega
            have HA : Hid (aheadF fs f k = decide (cmpFib x f ≤ 0)) := by unfold Hid aheadF; rw [getD_of hxk]
            have hsx1 := hid (hsx.out x (List.mem_of_getElem? hxk))
            have hle := befF_le x f
            clear hc f0 f1 f2 f3
            by_cases hcmp : befF x f ≤ 0
            · have hd : decide (befF x f ≤ 0) = true := decide_eq_true hcmp
              have HY : Hid (allTo (aheadF fs f) (k + 1)) := allTo_succ hall (by rw [HA.out]; exact decide_eq_true (hle.1 hcmp))
              clear hall HA hxk hle
              go_wp2_with fail
              refine region_cls (by kernel_rfl) (by kernel_rfl) ?_
              repeat (first
                | ((with_reducible refine quiet_pos ?_ (fun K hK => ?_))
                   · rfl
                   apply Exists.intro
                   refine ⟨fun w' hw' => ?_, ?_⟩
                   · go_simp
                     first
                       | with_reducible rfl
                       | (go_at_call 114; exact hw'.call (l2Before_any x f _ hsx1.out hsf.out))
                   simp only [Act.put, List.setIfInBounds_toArray, List.set_cons_zero, List.set_cons_succ]
                   refine hK _ ?_; clear hK K)
                | ((with_reducible refine quiet_neg ?_ (fun K hK => ?_))
                   · rfl
                   simp only [Act.put, List.setIfInBounds_toArray, List.set_cons_zero, List.set_cons_succ]
                   refine hK _ ?_; clear hK K))
              with_reducible refine wpQuiet_nil ?_
              intro wz hwz'
              have HS1 := hid (HS.out.step hwz')
              clear HS D0 E0 E1 E2 E3 F0 F1 F2 F3 hwz'
              go_wp2
              go_roundw
              case rel => exact ⟨k + 1, by omega, by go_num, HY.out, HS1⟩
              case measure => simp [intOf]; omega
            · have hd : decide (befF x f ≤ 0) = false := decide_eq_false hcmp
              have hat : Hid (atF fs f = k) := atF_is (by rw [hlf]; exact hk) hall (.inr (by rw [HA.out]; exact decide_eq_false (fun e => hcmp (hle.2 e))))
              have hins : Hid (fs.take k ++ f :: fs.drop k = insF fs f) := by unfold Hid insF; rw [hat.out]
              clear hall HA hxk hle
              go_wp2_with fail
              refine region_cls (by kernel_rfl) (by kernel_rfl) ?_
              repeat (first
                | ((with_reducible refine quiet_pos ?_ (fun K hK => ?_))
                   · rfl
                   apply Exists.intro
                   refine ⟨fun w' hw' => ?_, ?_⟩
                   · go_simp
                     first
                       | with_reducible rfl
                       | (go_at_call 114; exact hw'.call (l2Before_any x f _ hsx1.out hsf.out))
                   simp only [Act.put, List.setIfInBounds_toArray, List.set_cons_zero, List.set_cons_succ]
                   refine hK _ ?_; clear hK K)
                | ((with_reducible refine quiet_neg ?_ (fun K hK => ?_))
                   · rfl
                   simp only [Act.put, List.setIfInBounds_toArray, List.set_cons_zero, List.set_cons_succ]
                   refine hK _ ?_; clear hK K))
              with_reducible refine wpQuiet_nil ?_
              intro wz hwz'
              clear F0 F1 F2 F3
              have hdk : ¬ (d = k) := by omega
              have hkd : (k : Int) ≤ (d : Int) := by omega
              replace HS := hid (HS.out.step hwz')
              have p0 := HS.out.cell 2 0 rfl rfl
              have p1 := HS.out.cell 2 1 rfl rfl
              clear D0 E0 E1 E2 E3 hwz'
              have H : Hid (addX xs fs f = xs ∧ addF xs fs f = insF fs f ∧ addI xs fs f = (k : Int)) := by unfold Hid addX addF addI; rw [hB.out, hat.out]; exact ⟨rfl, rfl, rfl⟩
              have hil : Hid ((insF fs f).length = m + 1) := by unfold Hid; rw [insF_len, hlf]
              obtain ⟨T, hT⟩ : ∃ T, T = fs.take k := ⟨_, rfl⟩
              have HT : Hid (fs.take k = T) := hT.symm
              have hTl : Hid (T.length = k) := by unfold Hid; rw [hT, List.length_take]; omega
              obtain ⟨T2, hT2⟩ : ∃ T2, T2 = T ++ [f] := ⟨_, rfl⟩
              have HT2 : Hid (T ++ [f] = T2) := hT2.symm
              have hT2l : Hid (T2.length = k + 1) := by unfold Hid; rw [hT2, List.length_append, hTl.out]; rfl
              have HT3 : Hid (T2 ++ fs.drop k = insF fs f) := by unfold Hid; rw [← hins.out, hT2, hT, List.append_assoc]; rfl
              have hkm1 : Hid (k + 1 + (m - k) = m + 1) := by unfold Hid; omega
              clear hT hT2
              go_wp2_with fail
              refine (l2Own_any _ (HN.out.grow HS.out.bl)).mono ?_
              rintro e w4 ⟨A1, c1, A2, c2, rfl, hl⟩
              have hW := (HS.out.join hl).blk_ w4.heap.size rfl 27 #[.slice A1 n c1, .slice A2 m c2]
              simp only [List.cons_append, List.nil_append] at hW
              have hbw : w.heap.size ≤ wz.heap.size := HS.out.bl.size
              clear hl p0 p1
              go_wp2_with fail
              generalize w4.alloc (.cells #[.slice A1 n c1, .slice A2 m c2] 27) = WW at *
              have D0 : ∀ w', Led w w' [tBlk (w.heap.size + 1) 62 #[.int .i64 f.a, .int .i64 f.b, .int .i64 f.len, .int .i64 f.risk], tBlk w.heap.size 27 #[.slice A n c, .slice (some ⟨b, o, none⟩) m d]] → w'.cell? ⟨w.heap.size, 1, none⟩ = some (.slice (some ⟨b, o, none⟩) m d) := fun _ h => h.cell 1 1 rfl rfl
              have E0 : ∀ w', Led w w' [tBlk (w.heap.size + 1) 62 #[.int .i64 f.a, .int .i64 f.b, .int .i64 f.len, .int .i64 f.risk], tBlk w.heap.size 27 #[.slice A n c, .slice (some ⟨b, o, none⟩) m d]] → w'.cell? ⟨w.heap.size + 1, 0, none⟩ = some (.int .i64 f.a) := fun _ h => h.cell 0 0 rfl rfl
              have E1 : ∀ w', Led w w' [tBlk (w.heap.size + 1) 62 #[.int .i64 f.a, .int .i64 f.b, .int .i64 f.len, .int .i64 f.risk], tBlk w.heap.size 27 #[.slice A n c, .slice (some ⟨b, o, none⟩) m d]] → w'.cell? ⟨w.heap.size + 1, 1, none⟩ = some (.int .i64 f.b) := fun _ h => h.cell 0 1 rfl rfl
              have E2 : ∀ w', Led w w' [tBlk (w.heap.size + 1) 62 #[.int .i64 f.a, .int .i64 f.b, .int .i64 f.len, .int .i64 f.risk], tBlk w.heap.size 27 #[.slice A n c, .slice (some ⟨b, o, none⟩) m d]] → w'.cell? ⟨w.heap.size + 1, 2, none⟩ = some (.int .i64 f.len) := fun _ h => h.cell 0 2 rfl rfl
              have E3 : ∀ w', Led w w' [tBlk (w.heap.size + 1) 62 #[.int .i64 f.a, .int .i64 f.b, .int .i64 f.len, .int .i64 f.risk], tBlk w.heap.size 27 #[.slice A n c, .slice (some ⟨b, o, none⟩) m d]] → w'.cell? ⟨w.heap.size + 1, 3, none⟩ = some (.int .i64 f.risk) := fun _ h => h.cell 0 3 rfl rfl
              refine wp_region_held_drew (S := fun w' => Led w w' [tBlk (w.heap.size + 1) 62 #[.int .i64 f.a, .int .i64 f.b, .int .i64 f.len, .int .i64 f.risk], tBlk w.heap.size 27 #[.slice A n c, .slice (some ⟨b, o, none⟩) m d]]) (by kernel_rfl) ((hW.step (Cls.drew _)).drop 4) (fun hHeld => ?_)
              refine wpAnyH_take (i := 1) (oi := _) (v := ?_) rfl (by kernel_rfl) (by kernel_rfl) (by kernel_rfl) (fun _ _ _ h => h) (Or.inl ⟨by rfl, ?_⟩) (by assumption) ?_
              rotate_left
              · intro w hSw; go_simp; with_reducible rfl
              simp only [Act.put, List.getElem_toArray, List.getElem_cons_zero, List.getElem_cons_succ, List.setIfInBounds_toArray, List.set_cons_zero, List.set_cons_succ]
              refine wpAnyH_take (i := 2) (oi := _) (v := ?_) rfl (by kernel_rfl) (by kernel_rfl) (by kernel_rfl) (fun _ _ _ h => h) (Or.inl ⟨by rfl, ?_⟩) (by assumption) ?_
              rotate_left
              · intro w hSw; go_simp; with_reducible rfl
              simp only [Act.put, List.getElem_toArray, List.getElem_cons_zero, List.getElem_cons_succ, List.setIfInBounds_toArray, List.set_cons_zero, List.set_cons_succ]
              refine wpAnyH_take (i := 3) (oi := _) (v := ?_) rfl (by kernel_rfl) (by kernel_rfl) (by kernel_rfl) (fun _ _ _ h => h) (Or.inl ⟨by rfl, ?_⟩) (by assumption) ?_
              rotate_left
              · intro w hSw; go_simp; with_reducible rfl
              simp only [Act.put, List.getElem_toArray, List.getElem_cons_zero, List.getElem_cons_succ, List.setIfInBounds_toArray, List.set_cons_zero, List.set_cons_succ]
              refine wpAnyH_take (i := 4) (oi := _) (v := ?_) rfl (by kernel_rfl) (by kernel_rfl) (by kernel_rfl) (fun _ _ _ h => h) (Or.inl ⟨by rfl, ?_⟩) (by assumption) ?_
              rotate_left
              · intro w hSw; go_simp; with_reducible rfl
              simp only [Act.put, List.getElem_toArray, List.getElem_cons_zero, List.getElem_cons_succ, List.setIfInBounds_toArray, List.set_cons_zero, List.set_cons_succ]
              refine wpAnyH_take (i := 6) (oi := _) (v := ?_) rfl (by kernel_rfl) (by kernel_rfl) (by kernel_rfl) (fun _ _ _ h => h) (Or.inl ⟨by rfl, ?_⟩) (by assumption) ?_
              rotate_left
              · intro w hSw; go_simp; with_reducible rfl
              simp only [Act.put, List.getElem_toArray, List.getElem_cons_zero, List.getElem_cons_succ, List.setIfInBounds_toArray, List.set_cons_zero, List.set_cons_succ]
              refine wpAnyH_take (i := 9) (oi := _) (v := ?_) rfl (by kernel_rfl) (by kernel_rfl) (by kernel_rfl) (fun _ _ _ h => h) (Or.inl ⟨by rfl, ?_⟩) (by assumption) ?_
              rotate_left
              · intro w hSw; go_simp; with_reducible rfl
              simp only [Act.put, List.getElem_toArray, List.getElem_cons_zero, List.getElem_cons_succ, List.setIfInBounds_toArray, List.set_cons_zero, List.set_cons_succ]
              refine wpAnyH_take (i := 10) (oi := _) (v := ?_) rfl (by kernel_rfl) (by kernel_rfl) (by kernel_rfl) (fun _ _ _ h => h) (Or.inl ⟨by rfl, ?_⟩) (by assumption) ?_
              rotate_left
              · intro w hSw; go_simp; with_reducible rfl
              simp only [Act.put, List.getElem_toArray, List.getElem_cons_zero, List.getElem_cons_succ, List.setIfInBounds_toArray, List.set_cons_zero, List.set_cons_succ]
              refine wpAnyH_take (i := 11) (oi := _) (v := ?_) rfl (by kernel_rfl) (by kernel_rfl) (by kernel_rfl) (fun _ _ _ h => h) (Or.inl ⟨by rfl, ?_⟩) (by assumption) ?_
              rotate_left
              · intro w hSw; go_simp; with_reducible rfl
              simp only [Act.put, List.getElem_toArray, List.getElem_cons_zero, List.getElem_cons_succ, List.setIfInBounds_toArray, List.set_cons_zero, List.set_cons_succ]
              refine wpAnyH_take (i := 12) (oi := _) (v := ?_) rfl (by kernel_rfl) (by kernel_rfl) (by kernel_rfl) (fun _ _ _ h => h) (Or.inl ⟨by rfl, ?_⟩) (by assumption) ?_
              rotate_left
              · intro w hSw; go_simp; with_reducible rfl
              simp only [Act.put, List.getElem_toArray, List.getElem_cons_zero, List.getElem_cons_succ, List.setIfInBounds_toArray, List.set_cons_zero, List.set_cons_succ]
              refine wpAnyH_ready (rs := [0, 7]) (by kernel_rfl) (by simp) ?_
              refine AllReadyH.cons rfl (fun K hK => ?_) ?_
              · skip
                have a1 := (hW.empty elFib 62 (WW.heap.size) rfl w.heap.size (by have := hW.bl.size; omega)).step (Cls.drew _)
                go_simp
                go_wp2_with fail
                refine hK.out _ _ (a1.drop 5) (fun hHeld => ?_)
                clear hK K
                try simp only [Act.put, List.getElem_toArray, List.getElem_cons_zero, List.getElem_cons_succ, List.setIfInBounds_toArray, List.set_cons_zero, List.set_cons_succ]
                refine wpAnyH_ready (rs := [5, 7]) (by kernel_rfl) (by simp) ?_
                refine AllReadyH.cons rfl (fun K hK => ?_) ?_
                · skip
                  refine step_append_led rfl _ _ 25 rfl a1 0 rfl Try.underlying25 hj hy0 hy1 (by rw [hy2]; decide) rfl rfl rfl ((HN.out.grow a1.bl).fibs.take hk) (by simp; omega) a1.bl.size ?_
                  intro B1 b1 v1 h1
                  simp only [List.length_nil, Nat.zero_add, List.nil_append] at h1 ⊢
                  rw [HT.out] at h1
                  refine hK.out _ _ (h1.drop 5) (fun hHeld => ?_)
                  clear hK K
                  try simp only [Act.put, List.getElem_toArray, List.getElem_cons_zero, List.getElem_cons_succ, List.setIfInBounds_toArray, List.set_cons_zero, List.set_cons_succ]
                  refine wpAnyH_ready (rs := [7]) (by kernel_rfl) (by simp) ?_
                  refine AllReadyH.cons rfl (fun K hK => ?_) AllReadyH.nil
                  have a2 := h1.blk_ v1.heap.size rfl 62 #[.int .i64 f.a, .int .i64 f.b, .int .i64 f.len, .int .i64 f.risk]
                  go_simp
                  go_wp2_with fail
                  refine hK.out _ _ (a2.drop 6) (fun hHeld => ?_)
                  clear hK K
                  try simp only [Act.put, List.getElem_toArray, List.getElem_cons_zero, List.getElem_cons_succ, List.setIfInBounds_toArray, List.set_cons_zero, List.set_cons_succ]
                  refine wpAnyH_ready (rs := [8]) (by kernel_rfl) (by simp) ?_
                  refine AllReadyH.cons rfl (fun K hK => ?_) AllReadyH.nil
                  refine step_append_led rfl _ _ 25 rfl a2 1 rfl Try.underlying25 hj hy0 hy1 (by rw [hy2]; decide) rfl rfl rfl (sees_fib (a2.get 0 rfl)) (by have := hTl.out; omega) a2.bl.size ?_
                  intro B2 b2 v2 h2
                  rw [HT2.out, hTl.out] at h2
                  rw [hTl.out]
                  refine hK.out _ _ (h2.drop 6) (fun hHeld => ?_)
                  clear hK K
                  try simp only [Act.put, List.getElem_toArray, List.getElem_cons_zero, List.getElem_cons_succ, List.setIfInBounds_toArray, List.set_cons_zero, List.set_cons_succ]
                  refine wpAnyH_ready (rs := [13]) (by kernel_rfl) (by simp) ?_
                  refine AllReadyH.cons rfl (fun K hK => ?_) AllReadyH.nil
                  refine step_append_led rfl _ _ 25 rfl h2 1 rfl Try.underlying25 hj hy0 hy1 (by rw [hy2]; decide) rfl rfl rfl ((HN.out.grow h2.bl).fibs.backE hk) (by have := hT2l.out; omega) h2.bl.size ?_
                  intro B3 b3 v3 h3
                  rw [HT3.out, hT2l.out, hkm1.out] at h3
                  rw [hT2l.out, hkm1.out]
                  refine hK.out _ _ (h3.drop 6) (fun hHeld => ?_)
                  clear hK K
                  try simp only [Act.put, List.getElem_toArray, List.getElem_cons_zero, List.getElem_cons_succ, List.setIfInBounds_toArray, List.set_cons_zero, List.set_cons_succ]
                  refine wpAnyH_take (i := 14) (oi := _) (v := ?_) rfl (by kernel_rfl) (by kernel_rfl) (by kernel_rfl) (fun _ _ _ h => h) (Or.inl ⟨by rfl, ?_⟩) (by assumption) ?_
                  rotate_left
                  · intro w hSw; go_simp; with_reducible rfl
                  simp only [Act.put, List.getElem_toArray, List.getElem_cons_zero, List.getElem_cons_succ, List.setIfInBounds_toArray, List.set_cons_zero, List.set_cons_succ]
                  have q1 := h3.cell 2 1 rfl rfl
                  have z1 := h3.frozen 2 1 rfl
                  have h4 := hid (h3.set 2 rfl 1 (.slice B3 (m + 1) b3))
                  refine wpAnyH_ready (rs := [15]) (by kernel_rfl) (by simp) ?_
                  refine AllReadyH.cons rfl (fun K hK => ?_) AllReadyH.nil
                  go_simp
                  go_wp2_with fail
                  refine hK.out _ _ (h4.out.drop 6) (fun hHeld => ?_)
                  clear hK K
                  try simp only [Act.put, List.getElem_toArray, List.getElem_cons_zero, List.getElem_cons_succ, List.setIfInBounds_toArray, List.set_cons_zero, List.set_cons_succ]
                  refine wpAnyH_done (by kernel_rfl) ?_ _
                  have r0 := h4.out.cell 2 0 rfl rfl
                  have r1 := h4.out.cell 2 1 rfl rfl
                  have y0 := h4.out.cell 5 0 rfl rfl
                  have t0 := h4.out.frozen 5 0 rfl
                  have y1 := h4.out.cell 5 1 rfl rfl
                  have t1 := h4.out.frozen 5 1 rfl
                  have HE := hid ((h4.out.set 5 rfl 0 (.slice A1 n c1)).set 5 rfl 1 (.slice B3 (m + 1) b3))
                  clear q1 z1 D0 E0 E1 E2 E3 h1 h2 h3 hHeld
                  go_wp2
                  exact bodyPost_ret (v := .tuple #[.agg #[.slice A1 n c1, .slice B3 (m + 1) b3], .int .i64 k, .bool true]) (by simp [results, Try.results50, go_sem, y0, y1]) rfl
                    ⟨A1, c1, B3, b3, by rw [hB.out, H.out.1, H.out.2.1, H.out.2.2, hlx.out, hil.out], by rw [H.out.1, H.out.2.1, hlx.out, hil.out]; exact HE.out.netOwn2 3 1 rfl rfl hlx.out.symm hil.out.symm hbw (Nat.le_refl _), HE.out.bl⟩
                · skip
                  refine AllReadyH.cons rfl (fun K hK => ?_) AllReadyH.nil
                  have a2 := ((hW.empty elFib 62 (WW.heap.size) rfl w.heap.size (by have := hW.bl.size; omega)).blk_ (WW.heap.size + 1) (by simp) 62 #[.int .i64 f.a, .int .i64 f.b, .int .i64 f.len, .int .i64 f.risk]).step (Cls.drew _)
                  go_simp
                  go_wp2_with fail
                  refine hK.out _ _ (a2.drop 6) (fun hHeld => ?_)
                  clear hK K
                  try simp only [Act.put, List.getElem_toArray, List.getElem_cons_zero, List.getElem_cons_succ, List.setIfInBounds_toArray, List.set_cons_zero, List.set_cons_succ]
                  refine wpAnyH_ready (rs := [5]) (by kernel_rfl) (by simp) ?_
                  refine AllReadyH.cons rfl (fun K hK => ?_) AllReadyH.nil
                  refine step_append_led rfl _ _ 25 rfl a2 1 rfl Try.underlying25 hj hy0 hy1 (by rw [hy2]; decide) rfl rfl rfl ((HN.out.grow a2.bl).fibs.take hk) (by simp; omega) a2.bl.size ?_
                  intro B1 b1 v1 h1
                  simp only [List.length_nil, Nat.zero_add, List.nil_append] at h1 ⊢
                  rw [HT.out] at h1
                  refine hK.out _ _ (h1.drop 6) (fun hHeld => ?_)
                  clear hK K
                  try simp only [Act.put, List.getElem_toArray, List.getElem_cons_zero, List.getElem_cons_succ, List.setIfInBounds_toArray, List.set_cons_zero, List.set_cons_succ]
                  refine wpAnyH_ready (rs := [8]) (by kernel_rfl) (by simp) ?_
                  refine AllReadyH.cons rfl (fun K hK => ?_) AllReadyH.nil
                  refine step_append_led rfl _ _ 25 rfl h1 1 rfl Try.underlying25 hj hy0 hy1 (by rw [hy2]; decide) rfl rfl rfl (sees_fib (h1.get 0 rfl)) (by have := hTl.out; omega) h1.bl.size ?_
                  intro B2 b2 v2 h2
                  rw [HT2.out, hTl.out] at h2
                  rw [hTl.out]
                  refine hK.out _ _ (h2.drop 6) (fun hHeld => ?_)
                  clear hK K
                  try simp only [Act.put, List.getElem_toArray, List.getElem_cons_zero, List.getElem_cons_succ, List.setIfInBounds_toArray, List.set_cons_zero, List.set_cons_succ]
                  refine wpAnyH_ready (rs := [13]) (by kernel_rfl) (by simp) ?_
                  refine AllReadyH.cons rfl (fun K hK => ?_) AllReadyH.nil
                  refine step_append_led rfl _ _ 25 rfl h2 1 rfl Try.underlying25 hj hy0 hy1 (by rw [hy2]; decide) rfl rfl rfl ((HN.out.grow h2.bl).fibs.backE hk) (by have := hT2l.out; omega) h2.bl.size ?_
                  intro B3 b3 v3 h3
                  rw [HT3.out, hT2l.out, hkm1.out] at h3
                  rw [hT2l.out, hkm1.out]
                  refine hK.out _ _ (h3.drop 6) (fun hHeld => ?_)
                  clear hK K
                  try simp only [Act.put, List.getElem_toArray, List.getElem_cons_zero, List.getElem_cons_succ, List.setIfInBounds_toArray, List.set_cons_zero, List.set_cons_succ]
                  refine wpAnyH_take (i := 14) (oi := _) (v := ?_) rfl (by kernel_rfl) (by kernel_rfl) (by kernel_rfl) (fun _ _ _ h => h) (Or.inl ⟨by rfl, ?_⟩) (by assumption) ?_
                  rotate_left
                  · intro w hSw; go_simp; with_reducible rfl
                  simp only [Act.put, List.getElem_toArray, List.getElem_cons_zero, List.getElem_cons_succ, List.setIfInBounds_toArray, List.set_cons_zero, List.set_cons_succ]
                  have q1 := h3.cell 2 1 rfl rfl
                  have z1 := h3.frozen 2 1 rfl
                  have h4 := hid (h3.set 2 rfl 1 (.slice B3 (m + 1) b3))
                  refine wpAnyH_ready (rs := [15]) (by kernel_rfl) (by simp) ?_
                  refine AllReadyH.cons rfl (fun K hK => ?_) AllReadyH.nil
                  go_simp
                  go_wp2_with fail
                  refine hK.out _ _ (h4.out.drop 6) (fun hHeld => ?_)
                  clear hK K
                  try simp only [Act.put, List.getElem_toArray, List.getElem_cons_zero, List.getElem_cons_succ, List.setIfInBounds_toArray, List.set_cons_zero, List.set_cons_succ]
                  refine wpAnyH_done (by kernel_rfl) ?_ _
                  have r0 := h4.out.cell 2 0 rfl rfl
                  have r1 := h4.out.cell 2 1 rfl rfl
                  have y0 := h4.out.cell 5 0 rfl rfl
                  have t0 := h4.out.frozen 5 0 rfl
                  have y1 := h4.out.cell 5 1 rfl rfl
                  have t1 := h4.out.frozen 5 1 rfl
                  have HE := hid ((h4.out.set 5 rfl 0 (.slice A1 n c1)).set 5 rfl 1 (.slice B3 (m + 1) b3))
                  clear q1 z1 D0 E0 E1 E2 E3 h1 h2 h3 hHeld
                  go_wp2
                  exact bodyPost_ret (v := .tuple #[.agg #[.slice A1 n c1, .slice B3 (m + 1) b3], .int .i64 k, .bool true]) (by simp [results, Try.results50, go_sem, y0, y1]) rfl
                    ⟨A1, c1, B3, b3, by rw [hB.out, H.out.1, H.out.2.1, H.out.2.2, hlx.out, hil.out], by rw [H.out.1, H.out.2.1, hlx.out, hil.out]; exact HE.out.netOwn2 3 1 rfl rfl hlx.out.symm hil.out.symm hbw (Nat.le_refl _), HE.out.bl⟩
              · skip
                refine AllReadyH.cons rfl (fun K hK => ?_) AllReadyH.nil
                have a1 := (hW.blk_ WW.heap.size rfl 62 #[.int .i64 f.a, .int .i64 f.b, .int .i64 f.len, .int .i64 f.risk]).step (Cls.drew _)
                go_simp
                go_wp2_with fail
                refine hK.out _ _ (a1.drop 5) (fun hHeld => ?_)
                clear hK K
                try simp only [Act.put, List.getElem_toArray, List.getElem_cons_zero, List.getElem_cons_succ, List.setIfInBounds_toArray, List.set_cons_zero, List.set_cons_succ]
                refine wpAnyH_ready (rs := [0]) (by kernel_rfl) (by simp) ?_
                refine AllReadyH.cons rfl (fun K hK => ?_) AllReadyH.nil
                have a2 := ((hW.blk_ WW.heap.size rfl 62 #[.int .i64 f.a, .int .i64 f.b, .int .i64 f.len, .int .i64 f.risk]).empty elFib 62 (WW.heap.size + 1) (by simp) w.heap.size (by have := hW.bl.size; omega)).step (Cls.drew _)
                go_simp
                go_wp2_with fail
                refine hK.out _ _ (a2.drop 6) (fun hHeld => ?_)
                clear hK K
                try simp only [Act.put, List.getElem_toArray, List.getElem_cons_zero, List.getElem_cons_succ, List.setIfInBounds_toArray, List.set_cons_zero, List.set_cons_succ]
                refine wpAnyH_ready (rs := [5]) (by kernel_rfl) (by simp) ?_
                refine AllReadyH.cons rfl (fun K hK => ?_) AllReadyH.nil
                refine step_append_led rfl _ _ 25 rfl a2 0 rfl Try.underlying25 hj hy0 hy1 (by rw [hy2]; decide) rfl rfl rfl ((HN.out.grow a2.bl).fibs.take hk) (by simp; omega) a2.bl.size ?_
                intro B1 b1 v1 h1
                simp only [List.length_nil, Nat.zero_add, List.nil_append] at h1 ⊢
                rw [HT.out] at h1
                refine hK.out _ _ (h1.drop 6) (fun hHeld => ?_)
                clear hK K
                try simp only [Act.put, List.getElem_toArray, List.getElem_cons_zero, List.getElem_cons_succ, List.setIfInBounds_toArray, List.set_cons_zero, List.set_cons_succ]
                refine wpAnyH_ready (rs := [8]) (by kernel_rfl) (by simp) ?_
                refine AllReadyH.cons rfl (fun K hK => ?_) AllReadyH.nil
                refine step_append_led rfl _ _ 25 rfl h1 0 rfl Try.underlying25 hj hy0 hy1 (by rw [hy2]; decide) rfl rfl rfl (sees_fib (h1.get 1 rfl)) (by have := hTl.out; omega) h1.bl.size ?_
                intro B2 b2 v2 h2
                rw [HT2.out, hTl.out] at h2
                rw [hTl.out]
                refine hK.out _ _ (h2.drop 6) (fun hHeld => ?_)
                clear hK K
                try simp only [Act.put, List.getElem_toArray, List.getElem_cons_zero, List.getElem_cons_succ, List.setIfInBounds_toArray, List.set_cons_zero, List.set_cons_succ]
                refine wpAnyH_ready (rs := [13]) (by kernel_rfl) (by simp) ?_
                refine AllReadyH.cons rfl (fun K hK => ?_) AllReadyH.nil
                refine step_append_led rfl _ _ 25 rfl h2 0 rfl Try.underlying25 hj hy0 hy1 (by rw [hy2]; decide) rfl rfl rfl ((HN.out.grow h2.bl).fibs.backE hk) (by have := hT2l.out; omega) h2.bl.size ?_
                intro B3 b3 v3 h3
                rw [HT3.out, hT2l.out, hkm1.out] at h3
                rw [hT2l.out, hkm1.out]
                refine hK.out _ _ (h3.drop 6) (fun hHeld => ?_)
                clear hK K
                try simp only [Act.put, List.getElem_toArray, List.getElem_cons_zero, List.getElem_cons_succ, List.setIfInBounds_toArray, List.set_cons_zero, List.set_cons_succ]
                refine wpAnyH_take (i := 14) (oi := _) (v := ?_) rfl (by kernel_rfl) (by kernel_rfl) (by kernel_rfl) (fun _ _ _ h => h) (Or.inl ⟨by rfl, ?_⟩) (by assumption) ?_
                rotate_left
                · intro w hSw; go_simp; with_reducible rfl
                simp only [Act.put, List.getElem_toArray, List.getElem_cons_zero, List.getElem_cons_succ, List.setIfInBounds_toArray, List.set_cons_zero, List.set_cons_succ]
                have q1 := h3.cell 2 1 rfl rfl
                have z1 := h3.frozen 2 1 rfl
                have h4 := hid (h3.set 2 rfl 1 (.slice B3 (m + 1) b3))
                refine wpAnyH_ready (rs := [15]) (by kernel_rfl) (by simp) ?_
                refine AllReadyH.cons rfl (fun K hK => ?_) AllReadyH.nil
                go_simp
                go_wp2_with fail
                refine hK.out _ _ (h4.out.drop 6) (fun hHeld => ?_)
                clear hK K
                try simp only [Act.put, List.getElem_toArray, List.getElem_cons_zero, List.getElem_cons_succ, List.setIfInBounds_toArray, List.set_cons_zero, List.set_cons_succ]
                refine wpAnyH_done (by kernel_rfl) ?_ _
                have r0 := h4.out.cell 2 0 rfl rfl
                have r1 := h4.out.cell 2 1 rfl rfl
                have y0 := h4.out.cell 5 0 rfl rfl
                have t0 := h4.out.frozen 5 0 rfl
                have y1 := h4.out.cell 5 1 rfl rfl
                have t1 := h4.out.frozen 5 1 rfl
                have HE := hid ((h4.out.set 5 rfl 0 (.slice A1 n c1)).set 5 rfl 1 (.slice B3 (m + 1) b3))
                clear q1 z1 D0 E0 E1 E2 E3 h1 h2 h3 hHeld
                go_wp2
                exact bodyPost_ret (v := .tuple #[.agg #[.slice A1 n c1, .slice B3 (m + 1) b3], .int .i64 k, .bool true]) (by simp [results, Try.results50, go_sem, y0, y1]) rfl
                  ⟨A1, c1, B3, b3, by rw [hB.out, H.out.1, H.out.2.1, H.out.2.2, hlx.out, hil.out], by rw [H.out.1, H.out.2.1, hlx.out, hil.out]; exact HE.out.netOwn2 3 0 rfl rfl hlx.out.symm hil.out.symm hbw (Nat.le_refl _), HE.out.bl⟩
          · have hkm : k = m := by omega
            have iz : ¬ ((k : Int) < (m : Int)) := by omega
            have hat : Hid (atF fs f = k) := atF_is (by rw [hlf]; exact hk) hall (.inl (by rw [hlf]; exact hkm))
            have hins : Hid (fs.take k ++ f :: fs.drop k = insF fs f) := by unfold Hid insF; rw [hat.out]
            have hkd : (k : Int) ≤ (d : Int) := by omega
            have HKM := hid hkm
            clear hall hkm
            go_wp2_with fail
            refine region_cls (by kernel_rfl) (by kernel_rfl) ?_
            repeat (first
              | ((with_reducible refine quiet_pos ?_ (fun K hK => ?_))
                 · rfl
                 apply Exists.intro
                 refine ⟨fun w' hw' => ?_, ?_⟩
                 · go_simp
                   with_reducible rfl
                 simp only [Act.put, List.setIfInBounds_toArray, List.set_cons_zero, List.set_cons_succ]
                 refine hK _ ?_; clear hK K)
              | ((with_reducible refine quiet_neg ?_ (fun K hK => ?_))
                 · rfl
                 simp only [Act.put, List.setIfInBounds_toArray, List.set_cons_zero, List.set_cons_succ]
                 refine hK _ ?_; clear hK K))
            with_reducible refine wpQuiet_nil ?_
            intro wz hwz'
            by_cases hdk : d = k
            · have hdk2 := hdk.symm; clear hdk; subst hdk2
              replace HS := hid (HS.out.step hwz')
              have p0 := HS.out.cell 2 0 rfl rfl
              have p1 := HS.out.cell 2 1 rfl rfl
              clear D0 E0 E1 E2 E3 hwz'
              have H : Hid (addX xs fs f = xs ∧ addF xs fs f = insF fs f ∧ addI xs fs f = (k : Int)) := by unfold Hid addX addF addI; rw [hB.out, hat.out]; exact ⟨rfl, rfl, rfl⟩
              have hil : Hid ((insF fs f).length = m + 1) := by unfold Hid; rw [insF_len, hlf]
              obtain ⟨T, hT⟩ : ∃ T, T = fs.take k := ⟨_, rfl⟩
              have HT : Hid (fs.take k = T) := hT.symm
              have hTl : Hid (T.length = k) := by unfold Hid; rw [hT, List.length_take]; omega
              obtain ⟨T2, hT2⟩ : ∃ T2, T2 = T ++ [f] := ⟨_, rfl⟩
              have HT2 : Hid (T ++ [f] = T2) := hT2.symm
              have hT2l : Hid (T2.length = k + 1) := by unfold Hid; rw [hT2, List.length_append, hTl.out]; rfl
              have HT3 : Hid (T2 ++ [] = insF fs f) := by unfold Hid; rw [← hins.out, hT2, hT, List.append_nil, List.drop_of_length_le (by have := HKM.out; omega)]
              have hkm1 : Hid (k + 1 + 0 = m + 1) := by unfold Hid; have := HKM.out; omega
              have hmk : m - k = 0 := by have := HKM.out; omega
              clear hT hT2
              go_wp2_with fail
              refine (l2Own_any _ (HN.out.grow HS.out.bl)).mono ?_
              rintro e w4 ⟨A1, c1, A2, c2, rfl, hl⟩
              have hW := (HS.out.join hl).blk_ w4.heap.size rfl 27 #[.slice A1 n c1, .slice A2 m c2]
              simp only [List.cons_append, List.nil_append] at hW
              have hbw : w.heap.size ≤ wz.heap.size := HS.out.bl.size
              clear hl p0 p1
              go_wp2_with fail
              generalize w4.alloc (.cells #[.slice A1 n c1, .slice A2 m c2] 27) = WW at *
              have D0 : ∀ w', Led w w' [tBlk (w.heap.size + 1) 62 #[.int .i64 f.a, .int .i64 f.b, .int .i64 f.len, .int .i64 f.risk], tBlk w.heap.size 27 #[.slice A n c, .slice A' m k]] → w'.cell? ⟨w.heap.size, 1, none⟩ = some (.slice A' m k) := fun _ h => h.cell 1 1 rfl rfl
              have E0 : ∀ w', Led w w' [tBlk (w.heap.size + 1) 62 #[.int .i64 f.a, .int .i64 f.b, .int .i64 f.len, .int .i64 f.risk], tBlk w.heap.size 27 #[.slice A n c, .slice A' m k]] → w'.cell? ⟨w.heap.size + 1, 0, none⟩ = some (.int .i64 f.a) := fun _ h => h.cell 0 0 rfl rfl
              have E1 : ∀ w', Led w w' [tBlk (w.heap.size + 1) 62 #[.int .i64 f.a, .int .i64 f.b, .int .i64 f.len, .int .i64 f.risk], tBlk w.heap.size 27 #[.slice A n c, .slice A' m k]] → w'.cell? ⟨w.heap.size + 1, 1, none⟩ = some (.int .i64 f.b) := fun _ h => h.cell 0 1 rfl rfl
              have E2 : ∀ w', Led w w' [tBlk (w.heap.size + 1) 62 #[.int .i64 f.a, .int .i64 f.b, .int .i64 f.len, .int .i64 f.risk], tBlk w.heap.size 27 #[.slice A n c, .slice A' m k]] → w'.cell? ⟨w.heap.size + 1, 2, none⟩ = some (.int .i64 f.len) := fun _ h => h.cell 0 2 rfl rfl
              have E3 : ∀ w', Led w w' [tBlk (w.heap.size + 1) 62 #[.int .i64 f.a, .int .i64 f.b, .int .i64 f.len, .int .i64 f.risk], tBlk w.heap.size 27 #[.slice A n c, .slice A' m k]] → w'.cell? ⟨w.heap.size + 1, 3, none⟩ = some (.int .i64 f.risk) := fun _ h => h.cell 0 3 rfl rfl
              refine wp_region_held_drew (S := fun w' => Led w w' [tBlk (w.heap.size + 1) 62 #[.int .i64 f.a, .int .i64 f.b, .int .i64 f.len, .int .i64 f.risk], tBlk w.heap.size 27 #[.slice A n c, .slice A' m k]]) (by kernel_rfl) ((hW.step (Cls.drew _)).drop 4) (fun hHeld => ?_)
              refine wpAnyH_take (i := 1) (oi := _) (v := ?_) rfl (by kernel_rfl) (by kernel_rfl) (by kernel_rfl) (fun _ _ _ h => h) (Or.inl ⟨by rfl, ?_⟩) (by assumption) ?_
              rotate_left
              · intro w hSw; go_simp; with_reducible rfl
              simp only [Act.put, List.getElem_toArray, List.getElem_cons_zero, List.getElem_cons_succ, List.setIfInBounds_toArray, List.set_cons_zero, List.set_cons_succ]
              refine wpAnyH_take (i := 2) (oi := _) (v := ?_) rfl (by kernel_rfl) (by kernel_rfl) (by kernel_rfl) (fun _ _ _ h => h) (Or.inl ⟨by rfl, ?_⟩) (by assumption) ?_
              rotate_left
              · intro w hSw; go_simp; with_reducible rfl
              simp only [Act.put, List.getElem_toArray, List.getElem_cons_zero, List.getElem_cons_succ, List.setIfInBounds_toArray, List.set_cons_zero, List.set_cons_succ]
              refine wpAnyH_take (i := 3) (oi := _) (v := ?_) rfl (by kernel_rfl) (by kernel_rfl) (by kernel_rfl) (fun _ _ _ h => h) (Or.inl ⟨by rfl, ?_⟩) (by assumption) ?_
              rotate_left
              · intro w hSw; go_simp; with_reducible rfl
              simp only [Act.put, List.getElem_toArray, List.getElem_cons_zero, List.getElem_cons_succ, List.setIfInBounds_toArray, List.set_cons_zero, List.set_cons_succ]
              refine wpAnyH_take (i := 4) (oi := _) (v := ?_) rfl (by kernel_rfl) (by kernel_rfl) (by kernel_rfl) (fun _ _ _ h => h) (Or.inl ⟨by rfl, ?_⟩) (by assumption) ?_
              rotate_left
              · intro w hSw; go_simp; with_reducible rfl
              simp only [Act.put, List.getElem_toArray, List.getElem_cons_zero, List.getElem_cons_succ, List.setIfInBounds_toArray, List.set_cons_zero, List.set_cons_succ]
              refine wpAnyH_take (i := 6) (oi := _) (v := ?_) rfl (by kernel_rfl) (by kernel_rfl) (by kernel_rfl) (fun _ _ _ h => h) (Or.inl ⟨by rfl, ?_⟩) (by assumption) ?_
              rotate_left
              · intro w hSw; go_simp; with_reducible rfl
              simp only [Act.put, List.getElem_toArray, List.getElem_cons_zero, List.getElem_cons_succ, List.setIfInBounds_toArray, List.set_cons_zero, List.set_cons_succ]
              refine wpAnyH_take (i := 9) (oi := _) (v := ?_) rfl (by kernel_rfl) (by kernel_rfl) (by kernel_rfl) (fun _ _ _ h => h) (Or.inl ⟨by rfl, ?_⟩) (by assumption) ?_
              rotate_left
              · intro w hSw; go_simp; with_reducible rfl
              simp only [Act.put, List.getElem_toArray, List.getElem_cons_zero, List.getElem_cons_succ, List.setIfInBounds_toArray, List.set_cons_zero, List.set_cons_succ]
              refine wpAnyH_take (i := 10) (oi := _) (v := ?_) rfl (by kernel_rfl) (by kernel_rfl) (by kernel_rfl) (fun _ _ _ h => h) (Or.inl ⟨by rfl, ?_⟩) (by assumption) ?_
              rotate_left
              · intro w hSw; go_simp; with_reducible rfl
              simp only [Act.put, List.getElem_toArray, List.getElem_cons_zero, List.getElem_cons_succ, List.setIfInBounds_toArray, List.set_cons_zero, List.set_cons_succ]
              refine wpAnyH_take (i := 11) (oi := _) (v := ?_) rfl (by kernel_rfl) (by kernel_rfl) (by kernel_rfl) (fun _ _ _ h => h) (Or.inl ⟨by rfl, ?_⟩) (by assumption) ?_
              rotate_left
              · intro w hSw; go_simp; with_reducible rfl
              simp only [Act.put, List.getElem_toArray, List.getElem_cons_zero, List.getElem_cons_succ, List.setIfInBounds_toArray, List.set_cons_zero, List.set_cons_succ]
              refine wpAnyH_take (i := 12) (oi := _) (v := ?_) rfl (by kernel_rfl) (by kernel_rfl) (by kernel_rfl) (fun _ _ _ h => h) (Or.inl ⟨by rfl, ?_⟩) (by assumption) ?_
              rotate_left
              · intro w hSw; go_simp; with_reducible rfl
              simp only [Act.put, List.getElem_toArray, List.getElem_cons_zero, List.getElem_cons_succ, List.setIfInBounds_toArray, List.set_cons_zero, List.set_cons_succ]
              refine wpAnyH_ready (rs := [0, 7]) (by kernel_rfl) (by simp) ?_
              refine AllReadyH.cons rfl (fun K hK => ?_) ?_
              · skip
                have a1 := (hW.empty elFib 62 (WW.heap.size) rfl w.heap.size (by have := hW.bl.size; omega)).step (Cls.drew _)
                go_simp
                go_wp2_with fail
                refine hK.out _ _ (a1.drop 5) (fun hHeld => ?_)
                clear hK K
                try simp only [Act.put, List.getElem_toArray, List.getElem_cons_zero, List.getElem_cons_succ, List.setIfInBounds_toArray, List.set_cons_zero, List.set_cons_succ]
                refine wpAnyH_ready (rs := [5, 7]) (by kernel_rfl) (by simp) ?_
                refine AllReadyH.cons rfl (fun K hK => ?_) ?_
                · skip
                  refine step_append_led rfl _ _ 25 rfl a1 0 rfl Try.underlying25 hj hy0 hy1 (by rw [hy2]; decide) rfl rfl rfl ((HN.out.grow a1.bl).fibs.take hk) (by simp; omega) a1.bl.size ?_
                  intro B1 b1 v1 h1
                  simp only [List.length_nil, Nat.zero_add, List.nil_append] at h1 ⊢
                  rw [HT.out] at h1
                  refine hK.out _ _ (h1.drop 5) (fun hHeld => ?_)
                  clear hK K
                  try simp only [Act.put, List.getElem_toArray, List.getElem_cons_zero, List.getElem_cons_succ, List.setIfInBounds_toArray, List.set_cons_zero, List.set_cons_succ]
                  refine wpAnyH_ready (rs := [7]) (by kernel_rfl) (by simp) ?_
                  refine AllReadyH.cons rfl (fun K hK => ?_) AllReadyH.nil
                  have a2 := h1.blk_ v1.heap.size rfl 62 #[.int .i64 f.a, .int .i64 f.b, .int .i64 f.len, .int .i64 f.risk]
                  go_simp
                  go_wp2_with fail
                  refine hK.out _ _ (a2.drop 6) (fun hHeld => ?_)
                  clear hK K
                  try simp only [Act.put, List.getElem_toArray, List.getElem_cons_zero, List.getElem_cons_succ, List.setIfInBounds_toArray, List.set_cons_zero, List.set_cons_succ]
                  refine wpAnyH_ready (rs := [8]) (by kernel_rfl) (by simp) ?_
                  refine AllReadyH.cons rfl (fun K hK => ?_) AllReadyH.nil
                  refine step_append_led rfl _ _ 25 rfl a2 1 rfl Try.underlying25 hj hy0 hy1 (by rw [hy2]; decide) rfl rfl rfl (sees_fib (a2.get 0 rfl)) (by have := hTl.out; omega) a2.bl.size ?_
                  intro B2 b2 v2 h2
                  rw [HT2.out, hTl.out] at h2
                  rw [hTl.out]
                  refine hK.out _ _ (h2.drop 6) (fun hHeld => ?_)
                  clear hK K
                  try simp only [Act.put, List.getElem_toArray, List.getElem_cons_zero, List.getElem_cons_succ, List.setIfInBounds_toArray, List.set_cons_zero, List.set_cons_succ]
                  refine wpAnyH_ready (rs := [13]) (by kernel_rfl) (by simp) ?_
                  refine AllReadyH.cons rfl (fun K hK => ?_) AllReadyH.nil
                  refine step_append_led rfl _ _ 25 rfl h2 1 rfl Try.underlying25 hj hy0 hy1 (by rw [hy2]; decide) rfl rfl rfl (Sees.nil elFib _ 0 _) (by have := hT2l.out; omega) h2.bl.size ?_
                  intro B3 b3 v3 h3
                  rw [HT3.out, hT2l.out, hkm1.out] at h3
                  rw [hT2l.out, hkm1.out]
                  refine hK.out _ _ (h3.drop 6) (fun hHeld => ?_)
                  clear hK K
                  try simp only [Act.put, List.getElem_toArray, List.getElem_cons_zero, List.getElem_cons_succ, List.setIfInBounds_toArray, List.set_cons_zero, List.set_cons_succ]
                  refine wpAnyH_take (i := 14) (oi := _) (v := ?_) rfl (by kernel_rfl) (by kernel_rfl) (by kernel_rfl) (fun _ _ _ h => h) (Or.inl ⟨by rfl, ?_⟩) (by assumption) ?_
                  rotate_left
                  · intro w hSw; go_simp; with_reducible rfl
                  simp only [Act.put, List.getElem_toArray, List.getElem_cons_zero, List.getElem_cons_succ, List.setIfInBounds_toArray, List.set_cons_zero, List.set_cons_succ]
                  have q1 := h3.cell 2 1 rfl rfl
                  have z1 := h3.frozen 2 1 rfl
                  have h4 := hid (h3.set 2 rfl 1 (.slice B3 (m + 1) b3))
                  refine wpAnyH_ready (rs := [15]) (by kernel_rfl) (by simp) ?_
                  refine AllReadyH.cons rfl (fun K hK => ?_) AllReadyH.nil
                  go_simp
                  go_wp2_with fail
                  refine hK.out _ _ (h4.out.drop 6) (fun hHeld => ?_)
                  clear hK K
                  try simp only [Act.put, List.getElem_toArray, List.getElem_cons_zero, List.getElem_cons_succ, List.setIfInBounds_toArray, List.set_cons_zero, List.set_cons_succ]
                  refine wpAnyH_done (by kernel_rfl) ?_ _
                  have r0 := h4.out.cell 2 0 rfl rfl
                  have r1 := h4.out.cell 2 1 rfl rfl
                  have y0 := h4.out.cell 5 0 rfl rfl
                  have t0 := h4.out.frozen 5 0 rfl
                  have y1 := h4.out.cell 5 1 rfl rfl
                  have t1 := h4.out.frozen 5 1 rfl
                  have HE := hid ((h4.out.set 5 rfl 0 (.slice A1 n c1)).set 5 rfl 1 (.slice B3 (m + 1) b3))
                  clear q1 z1 D0 E0 E1 E2 E3 h1 h2 h3 hHeld
                  go_wp2
                  exact bodyPost_ret (v := .tuple #[.agg #[.slice A1 n c1, .slice B3 (m + 1) b3], .int .i64 k, .bool true]) (by simp [results, Try.results50, go_sem, y0, y1]) rfl
                    ⟨A1, c1, B3, b3, by rw [hB.out, H.out.1, H.out.2.1, H.out.2.2, hlx.out, hil.out], by rw [H.out.1, H.out.2.1, hlx.out, hil.out]; exact HE.out.netOwn2 3 1 rfl rfl hlx.out.symm hil.out.symm hbw (Nat.le_refl _), HE.out.bl⟩
                · skip
                  refine AllReadyH.cons rfl (fun K hK => ?_) AllReadyH.nil
                  have a2 := ((hW.empty elFib 62 (WW.heap.size) rfl w.heap.size (by have := hW.bl.size; omega)).blk_ (WW.heap.size + 1) (by simp) 62 #[.int .i64 f.a, .int .i64 f.b, .int .i64 f.len, .int .i64 f.risk]).step (Cls.drew _)
                  go_simp
                  go_wp2_with fail
                  refine hK.out _ _ (a2.drop 6) (fun hHeld => ?_)
                  clear hK K
                  try simp only [Act.put, List.getElem_toArray, List.getElem_cons_zero, List.getElem_cons_succ, List.setIfInBounds_toArray, List.set_cons_zero, List.set_cons_succ]
                  refine wpAnyH_ready (rs := [5]) (by kernel_rfl) (by simp) ?_
                  refine AllReadyH.cons rfl (fun K hK => ?_) AllReadyH.nil
                  refine step_append_led rfl _ _ 25 rfl a2 1 rfl Try.underlying25 hj hy0 hy1 (by rw [hy2]; decide) rfl rfl rfl ((HN.out.grow a2.bl).fibs.take hk) (by simp; omega) a2.bl.size ?_
                  intro B1 b1 v1 h1
                  simp only [List.length_nil, Nat.zero_add, List.nil_append] at h1 ⊢
                  rw [HT.out] at h1
                  refine hK.out _ _ (h1.drop 6) (fun hHeld => ?_)
                  clear hK K
                  try simp only [Act.put, List.getElem_toArray, List.getElem_cons_zero, List.getElem_cons_succ, List.setIfInBounds_toArray, List.set_cons_zero, List.set_cons_succ]
                  refine wpAnyH_ready (rs := [8]) (by kernel_rfl) (by simp) ?_
                  refine AllReadyH.cons rfl (fun K hK => ?_) AllReadyH.nil
                  refine step_append_led rfl _ _ 25 rfl h1 1 rfl Try.underlying25 hj hy0 hy1 (by rw [hy2]; decide) rfl rfl rfl (sees_fib (h1.get 0 rfl)) (by have := hTl.out; omega) h1.bl.size ?_
                  intro B2 b2 v2 h2
                  rw [HT2.out, hTl.out] at h2
                  rw [hTl.out]
                  refine hK.out _ _ (h2.drop 6) (fun hHeld => ?_)
                  clear hK K
                  try simp only [Act.put, List.getElem_toArray, List.getElem_cons_zero, List.getElem_cons_succ, List.setIfInBounds_toArray, List.set_cons_zero, List.set_cons_succ]
                  refine wpAnyH_ready (rs := [13]) (by kernel_rfl) (by simp) ?_
                  refine AllReadyH.cons rfl (fun K hK => ?_) AllReadyH.nil
                  refine step_append_led rfl _ _ 25 rfl h2 1 rfl Try.underlying25 hj hy0 hy1 (by rw [hy2]; decide) rfl rfl rfl (Sees.nil elFib _ 0 _) (by have := hT2l.out; omega) h2.bl.size ?_
                  intro B3 b3 v3 h3
                  rw [HT3.out, hT2l.out, hkm1.out] at h3
                  rw [hT2l.out, hkm1.out]
                  refine hK.out _ _ (h3.drop 6) (fun hHeld => ?_)
                  clear hK K
                  try simp only [Act.put, List.getElem_toArray, List.getElem_cons_zero, List.getElem_cons_succ, List.setIfInBounds_toArray, List.set_cons_zero, List.set_cons_succ]
                  refine wpAnyH_take (i := 14) (oi := _) (v := ?_) rfl (by kernel_rfl) (by kernel_rfl) (by kernel_rfl) (fun _ _ _ h => h) (Or.inl ⟨by rfl, ?_⟩) (by assumption) ?_
                  rotate_left
                  · intro w hSw; go_simp; with_reducible rfl
                  simp only [Act.put, List.getElem_toArray, List.getElem_cons_zero, List.getElem_cons_succ, List.setIfInBounds_toArray, List.set_cons_zero, List.set_cons_succ]
                  have q1 := h3.cell 2 1 rfl rfl
                  have z1 := h3.frozen 2 1 rfl
                  have h4 := hid (h3.set 2 rfl 1 (.slice B3 (m + 1) b3))
                  refine wpAnyH_ready (rs := [15]) (by kernel_rfl) (by simp) ?_
                  refine AllReadyH.cons rfl (fun K hK => ?_) AllReadyH.nil
                  go_simp
                  go_wp2_with fail
                  refine hK.out _ _ (h4.out.drop 6) (fun hHeld => ?_)
                  clear hK K
                  try simp only [Act.put, List.getElem_toArray, List.getElem_cons_zero, List.getElem_cons_succ, List.setIfInBounds_toArray, List.set_cons_zero, List.set_cons_succ]
                  refine wpAnyH_done (by kernel_rfl) ?_ _
                  have r0 := h4.out.cell 2 0 rfl rfl
                  have r1 := h4.out.cell 2 1 rfl rfl
                  have y0 := h4.out.cell 5 0 rfl rfl
                  have t0 := h4.out.frozen 5 0 rfl
                  have y1 := h4.out.cell 5 1 rfl rfl
                  have t1 := h4.out.frozen 5 1 rfl
                  have HE := hid ((h4.out.set 5 rfl 0 (.slice A1 n c1)).set 5 rfl 1 (.slice B3 (m + 1) b3))
                  clear q1 z1 D0 E0 E1 E2 E3 h1 h2 h3 hHeld
                  go_wp2
                  exact bodyPost_ret (v := .tuple #[.agg #[.slice A1 n c1, .slice B3 (m + 1) b3], .int .i64 k, .bool true]) (by simp [results, Try.results50, go_sem, y0, y1]) rfl
                    ⟨A1, c1, B3, b3, by rw [hB.out, H.out.1, H.out.2.1, H.out.2.2, hlx.out, hil.out], by rw [H.out.1, H.out.2.1, hlx.out, hil.out]; exact HE.out.netOwn2 3 1 rfl rfl hlx.out.symm hil.out.symm hbw (Nat.le_refl _), HE.out.bl⟩
              · skip
                refine AllReadyH.cons rfl (fun K hK => ?_) AllReadyH.nil
                have a1 := (hW.blk_ WW.heap.size rfl 62 #[.int .i64 f.a, .int .i64 f.b, .int .i64 f.len, .int .i64 f.risk]).step (Cls.drew _)
                go_simp
                go_wp2_with fail
                refine hK.out _ _ (a1.drop 5) (fun hHeld => ?_)
                clear hK K
                try simp only [Act.put, List.getElem_toArray, List.getElem_cons_zero, List.getElem_cons_succ, List.setIfInBounds_toArray, List.set_cons_zero, List.set_cons_succ]
                refine wpAnyH_ready (rs := [0]) (by kernel_rfl) (by simp) ?_
                refine AllReadyH.cons rfl (fun K hK => ?_) AllReadyH.nil
                have a2 := ((hW.blk_ WW.heap.size rfl 62 #[.int .i64 f.a, .int .i64 f.b, .int .i64 f.len, .int .i64 f.risk]).empty elFib 62 (WW.heap.size + 1) (by simp) w.heap.size (by have := hW.bl.size; omega)).step (Cls.drew _)
                go_simp
                go_wp2_with fail
                refine hK.out _ _ (a2.drop 6) (fun hHeld => ?_)
                clear hK K
                try simp only [Act.put, List.getElem_toArray, List.getElem_cons_zero, List.getElem_cons_succ, List.setIfInBounds_toArray, List.set_cons_zero, List.set_cons_succ]
                refine wpAnyH_ready (rs := [5]) (by kernel_rfl) (by simp) ?_
                refine AllReadyH.cons rfl (fun K hK => ?_) AllReadyH.nil
                refine step_append_led rfl _ _ 25 rfl a2 0 rfl Try.underlying25 hj hy0 hy1 (by rw [hy2]; decide) rfl rfl rfl ((HN.out.grow a2.bl).fibs.take hk) (by simp; omega) a2.bl.size ?_
                intro B1 b1 v1 h1
                simp only [List.length_nil, Nat.zero_add, List.nil_append] at h1 ⊢
                rw [HT.out] at h1
                refine hK.out _ _ (h1.drop 6) (fun hHeld => ?_)
                clear hK K
                try simp only [Act.put, List.getElem_toArray, List.getElem_cons_zero, List.getElem_cons_succ, List.setIfInBounds_toArray, List.set_cons_zero, List.set_cons_succ]
                refine wpAnyH_ready (rs := [8]) (by kernel_rfl) (by simp) ?_
                refine AllReadyH.cons rfl (fun K hK => ?_) AllReadyH.nil
                refine step_append_led rfl _ _ 25 rfl h1 0 rfl Try.underlying25 hj hy0 hy1 (by rw [hy2]; decide) rfl rfl rfl (sees_fib (h1.get 1 rfl)) (by have := hTl.out; omega) h1.bl.size ?_
                intro B2 b2 v2 h2
                rw [HT2.out, hTl.out] at h2
                rw [hTl.out]
                refine hK.out _ _ (h2.drop 6) (fun hHeld => ?_)
                clear hK K
                try simp only [Act.put, List.getElem_toArray, List.getElem_cons_zero, List.getElem_cons_succ, List.setIfInBounds_toArray, List.set_cons_zero, List.set_cons_succ]
                refine wpAnyH_ready (rs := [13]) (by kernel_rfl) (by simp) ?_
                refine AllReadyH.cons rfl (fun K hK => ?_) AllReadyH.nil
                refine step_append_led rfl _ _ 25 rfl h2 0 rfl Try.underlying25 hj hy0 hy1 (by rw [hy2]; decide) rfl rfl rfl (Sees.nil elFib _ 0 _) (by have := hT2l.out; omega) h2.bl.size ?_
                intro B3 b3 v3 h3
                rw [HT3.out, hT2l.out, hkm1.out] at h3
                rw [hT2l.out, hkm1.out]
                refine hK.out _ _ (h3.drop 6) (fun hHeld => ?_)
                clear hK K
                try simp only [Act.put, List.getElem_toArray, List.getElem_cons_zero, List.getElem_cons_succ, List.setIfInBounds_toArray, List.set_cons_zero, List.set_cons_succ]
                refine wpAnyH_take (i := 14) (oi := _) (v := ?_) rfl (by kernel_rfl) (by kernel_rfl) (by kernel_rfl) (fun _ _ _ h => h) (Or.inl ⟨by rfl, ?_⟩) (by assumption) ?_
                rotate_left
                · intro w hSw; go_simp; with_reducible rfl
                simp only [Act.put, List.getElem_toArray, List.getElem_cons_zero, List.getElem_cons_succ, List.setIfInBounds_toArray, List.set_cons_zero, List.set_cons_succ]
                have q1 := h3.cell 2 1 rfl rfl
                have z1 := h3.frozen 2 1 rfl
                have h4 := hid (h3.set 2 rfl 1 (.slice B3 (m + 1) b3))
                refine wpAnyH_ready (rs := [15]) (by kernel_rfl) (by simp) ?_
                refine AllReadyH.cons rfl (fun K hK => ?_) AllReadyH.nil
                go_simp
                go_wp2_with fail
                refine hK.out _ _ (h4.out.drop 6) (fun hHeld => ?_)
                clear hK K
                try simp only [Act.put, List.getElem_toArray, List.getElem_cons_zero, List.getElem_cons_succ, List.setIfInBounds_toArray, List.set_cons_zero, List.set_cons_succ]
                refine wpAnyH_done (by kernel_rfl) ?_ _
                have r0 := h4.out.cell 2 0 rfl rfl
                have r1 := h4.out.cell 2 1 rfl rfl
                have y0 := h4.out.cell 5 0 rfl rfl
                have t0 := h4.out.frozen 5 0 rfl
                have y1 := h4.out.cell 5 1 rfl rfl
                have t1 := h4.out.frozen 5 1 rfl
                have HE := hid ((h4.out.set 5 rfl 0 (.slice A1 n c1)).set 5 rfl 1 (.slice B3 (m + 1) b3))
                clear q1 z1 D0 E0 E1 E2 E3 h1 h2 h3 hHeld
                go_wp2
                exact bodyPost_ret (v := .tuple #[.agg #[.slice A1 n c1, .slice B3 (m + 1) b3], .int .i64 k, .bool true]) (by simp [results, Try.results50, go_sem, y0, y1]) rfl
                  ⟨A1, c1, B3, b3, by rw [hB.out, H.out.1, H.out.2.1, H.out.2.2, hlx.out, hil.out], by rw [H.out.1, H.out.2.1, hlx.out, hil.out]; exact HE.out.netOwn2 3 0 rfl rfl hlx.out.symm hil.out.symm hbw (Nat.le_refl _), HE.out.bl⟩
            · skip
              replace HS := hid (HS.out.step hwz')
              have p0 := HS.out.cell 2 0 rfl rfl
              have p1 := HS.out.cell 2 1 rfl rfl
              clear D0 E0 E1 E2 E3 hwz'
              have H : Hid (addX xs fs f = xs ∧ addF xs fs f = insF fs f ∧ addI xs fs f = (k : Int)) := by unfold Hid addX addF addI; rw [hB.out, hat.out]; exact ⟨rfl, rfl, rfl⟩
              have hil : Hid ((insF fs f).length = m + 1) := by unfold Hid; rw [insF_len, hlf]
              obtain ⟨T, hT⟩ : ∃ T, T = fs.take k := ⟨_, rfl⟩
              have HT : Hid (fs.take k = T) := hT.symm
              have hTl : Hid (T.length = k) := by unfold Hid; rw [hT, List.length_take]; omega
              obtain ⟨T2, hT2⟩ : ∃ T2, T2 = T ++ [f] := ⟨_, rfl⟩
              have HT2 : Hid (T ++ [f] = T2) := hT2.symm
              have hT2l : Hid (T2.length = k + 1) := by unfold Hid; rw [hT2, List.length_append, hTl.out]; rfl
              have HT3 : Hid (T2 ++ [] = insF fs f) := by unfold Hid; rw [← hins.out, hT2, hT, List.append_nil, List.drop_of_length_le (by have := HKM.out; omega)]
              have hkm1 : Hid (k + 1 + 0 = m + 1) := by unfold Hid; have := HKM.out; omega
              have hmk : m - k = 0 := by have := HKM.out; omega
              clear hT hT2
              go_wp2_with fail
              refine (l2Own_any _ (HN.out.grow HS.out.bl)).mono ?_
              rintro e w4 ⟨A1, c1, A2, c2, rfl, hl⟩
              have hW := (HS.out.join hl).blk_ w4.heap.size rfl 27 #[.slice A1 n c1, .slice A2 m c2]
              simp only [List.cons_append, List.nil_append] at hW
              have hbw : w.heap.size ≤ wz.heap.size := HS.out.bl.size
              clear hl p0 p1
              go_wp2_with fail
              generalize w4.alloc (.cells #[.slice A1 n c1, .slice A2 m c2] 27) = WW at *
              have D0 : ∀ w', Led w w' [tBlk (w.heap.size + 1) 62 #[.int .i64 f.a, .int .i64 f.b, .int .i64 f.len, .int .i64 f.risk], tBlk w.heap.size 27 #[.slice A n c, .slice A' m d]] → w'.cell? ⟨w.heap.size, 1, none⟩ = some (.slice A' m d) := fun _ h => h.cell 1 1 rfl rfl
              have E0 : ∀ w', Led w w' [tBlk (w.heap.size + 1) 62 #[.int .i64 f.a, .int .i64 f.b, .int .i64 f.len, .int .i64 f.risk], tBlk w.heap.size 27 #[.slice A n c, .slice A' m d]] → w'.cell? ⟨w.heap.size + 1, 0, none⟩ = some (.int .i64 f.a) := fun _ h => h.cell 0 0 rfl rfl
              have E1 : ∀ w', Led w w' [tBlk (w.heap.size + 1) 62 #[.int .i64 f.a, .int .i64 f.b, .int .i64 f.len, .int .i64 f.risk], tBlk w.heap.size 27 #[.slice A n c, .slice A' m d]] → w'.cell? ⟨w.heap.size + 1, 1, none⟩ = some (.int .i64 f.b) := fun _ h => h.cell 0 1 rfl rfl
              have E2 : ∀ w', Led w w' [tBlk (w.heap.size + 1) 62 #[.int .i64 f.a, .int .i64 f.b, .int .i64 f.len, .int .i64 f.risk], tBlk w.heap.size 27 #[.slice A n c, .slice A' m d]] → w'.cell? ⟨w.heap.size + 1, 2, none⟩ = some (.int .i64 f.len) := fun _ h => h.cell 0 2 rfl rfl
              have E3 : ∀ w', Led w w' [tBlk (w.heap.size + 1) 62 #[.int .i64 f.a, .int .i64 f.b, .int .i64 f.len, .int .i64 f.risk], tBlk w.heap.size 27 #[.slice A n c, .slice A' m d]] → w'.cell? ⟨w.heap.size + 1, 3, none⟩ = some (.int .i64 f.risk) := fun _ h => h.cell 0 3 rfl rfl
              refine wp_region_held_drew (S := fun w' => Led w w' [tBlk (w.heap.size + 1) 62 #[.int .i64 f.a, .int .i64 f.b, .int .i64 f.len, .int .i64 f.risk], tBlk w.heap.size 27 #[.slice A n c, .slice A' m d]]) (by kernel_rfl) ((hW.step (Cls.drew _)).drop 4) (fun hHeld => ?_)
              refine wpAnyH_take (i := 1) (oi := _) (v := ?_) rfl (by kernel_rfl) (by kernel_rfl) (by kernel_rfl) (fun _ _ _ h => h) (Or.inl ⟨by rfl, ?_⟩) (by assumption) ?_
              rotate_left
              · intro w hSw; go_simp; with_reducible rfl
              simp only [Act.put, List.getElem_toArray, List.getElem_cons_zero, List.getElem_cons_succ, List.setIfInBounds_toArray, List.set_cons_zero, List.set_cons_succ]
              refine wpAnyH_take (i := 2) (oi := _) (v := ?_) rfl (by kernel_rfl) (by kernel_rfl) (by kernel_rfl) (fun _ _ _ h => h) (Or.inl ⟨by rfl, ?_⟩) (by assumption) ?_
              rotate_left
              · intro w hSw; go_simp; with_reducible rfl
              simp only [Act.put, List.getElem_toArray, List.getElem_cons_zero, List.getElem_cons_succ, List.setIfInBounds_toArray, List.set_cons_zero, List.set_cons_succ]
              refine wpAnyH_take (i := 3) (oi := _) (v := ?_) rfl (by kernel_rfl) (by kernel_rfl) (by kernel_rfl) (fun _ _ _ h => h) (Or.inl ⟨by rfl, ?_⟩) (by assumption) ?_
              rotate_left
              · intro w hSw; go_simp; with_reducible rfl
              simp only [Act.put, List.getElem_toArray, List.getElem_cons_zero, List.getElem_cons_succ, List.setIfInBounds_toArray, List.set_cons_zero, List.set_cons_succ]
              refine wpAnyH_take (i := 4) (oi := _) (v := ?_) rfl (by kernel_rfl) (by kernel_rfl) (by kernel_rfl) (fun _ _ _ h => h) (Or.inl ⟨by rfl, ?_⟩) (by assumption) ?_
              rotate_left
              · intro w hSw; go_simp; with_reducible rfl
              simp only [Act.put, List.getElem_toArray, List.getElem_cons_zero, List.getElem_cons_succ, List.setIfInBounds_toArray, List.set_cons_zero, List.set_cons_succ]
              refine wpAnyH_take (i := 6) (oi := _) (v := ?_) rfl (by kernel_rfl) (by kernel_rfl) (by kernel_rfl) (fun _ _ _ h => h) (Or.inl ⟨by rfl, ?_⟩) (by assumption) ?_
              rotate_left
              · intro w hSw; go_simp; with_reducible rfl
              simp only [Act.put, List.getElem_toArray, List.getElem_cons_zero, List.getElem_cons_succ, List.setIfInBounds_toArray, List.set_cons_zero, List.set_cons_succ]
              refine wpAnyH_take (i := 9) (oi := _) (v := ?_) rfl (by kernel_rfl) (by kernel_rfl) (by kernel_rfl) (fun _ _ _ h => h) (Or.inl ⟨by rfl, ?_⟩) (by assumption) ?_
              rotate_left
              · intro w hSw; go_simp; with_reducible rfl
              simp only [Act.put, List.getElem_toArray, List.getElem_cons_zero, List.getElem_cons_succ, List.setIfInBounds_toArray, List.set_cons_zero, List.set_cons_succ]
              refine wpAnyH_take (i := 10) (oi := _) (v := ?_) rfl (by kernel_rfl) (by kernel_rfl) (by kernel_rfl) (fun _ _ _ h => h) (Or.inl ⟨by rfl, ?_⟩) (by assumption) ?_
              rotate_left
              · intro w hSw; go_simp; with_reducible rfl
              simp only [Act.put, List.getElem_toArray, List.getElem_cons_zero, List.getElem_cons_succ, List.setIfInBounds_toArray, List.set_cons_zero, List.set_cons_succ]
              refine wpAnyH_take (i := 11) (oi := _) (v := ?_) rfl (by kernel_rfl) (by kernel_rfl) (by kernel_rfl) (fun _ _ _ h => h) (Or.inl ⟨by rfl, ?_⟩) (by assumption) ?_
              rotate_left
              · intro w hSw; go_simp; with_reducible rfl
              simp only [Act.put, List.getElem_toArray, List.getElem_cons_zero, List.getElem_cons_succ, List.setIfInBounds_toArray, List.set_cons_zero, List.set_cons_succ]
              refine wpAnyH_take (i := 12) (oi := _) (v := ?_) rfl (by kernel_rfl) (by kernel_rfl) (by kernel_rfl) (fun _ _ _ h => h) (Or.inl ⟨by rfl, ?_⟩) (by assumption) ?_
              rotate_left
              · intro w hSw; go_simp; with_reducible rfl
              simp only [Act.put, List.getElem_toArray, List.getElem_cons_zero, List.getElem_cons_succ, List.setIfInBounds_toArray, List.set_cons_zero, List.set_cons_succ]
              refine wpAnyH_ready (rs := [0, 7]) (by kernel_rfl) (by simp) ?_
              refine AllReadyH.cons rfl (fun K hK => ?_) ?_
              · skip
                have a1 := (hW.empty elFib 62 (WW.heap.size) rfl w.heap.size (by have := hW.bl.size; omega)).step (Cls.drew _)
                go_simp
                go_wp2_with fail
                refine hK.out _ _ (a1.drop 5) (fun hHeld => ?_)
                clear hK K
                try simp only [Act.put, List.getElem_toArray, List.getElem_cons_zero, List.getElem_cons_succ, List.setIfInBounds_toArray, List.set_cons_zero, List.set_cons_succ]
                refine wpAnyH_ready (rs := [5, 7]) (by kernel_rfl) (by simp) ?_
                refine AllReadyH.cons rfl (fun K hK => ?_) ?_
                · skip
                  refine step_append_led rfl _ _ 25 rfl a1 0 rfl Try.underlying25 hj hy0 hy1 (by rw [hy2]; decide) rfl rfl rfl ((HN.out.grow a1.bl).fibs.take hk) (by simp; omega) a1.bl.size ?_
                  intro B1 b1 v1 h1
                  simp only [List.length_nil, Nat.zero_add, List.nil_append] at h1 ⊢
                  rw [HT.out] at h1
                  refine hK.out _ _ (h1.drop 5) (fun hHeld => ?_)
                  clear hK K
                  try simp only [Act.put, List.getElem_toArray, List.getElem_cons_zero, List.getElem_cons_succ, List.setIfInBounds_toArray, List.set_cons_zero, List.set_cons_succ]
                  refine wpAnyH_ready (rs := [7]) (by kernel_rfl) (by simp) ?_
                  refine AllReadyH.cons rfl (fun K hK => ?_) AllReadyH.nil
                  have a2 := h1.blk_ v1.heap.size rfl 62 #[.int .i64 f.a, .int .i64 f.b, .int .i64 f.len, .int .i64 f.risk]
                  go_simp
                  go_wp2_with fail
                  refine hK.out _ _ (a2.drop 6) (fun hHeld => ?_)
                  clear hK K
                  try simp only [Act.put, List.getElem_toArray, List.getElem_cons_zero, List.getElem_cons_succ, List.setIfInBounds_toArray, List.set_cons_zero, List.set_cons_succ]
                  refine wpAnyH_ready (rs := [8]) (by kernel_rfl) (by simp) ?_
                  refine AllReadyH.cons rfl (fun K hK => ?_) AllReadyH.nil
                  refine step_append_led rfl _ _ 25 rfl a2 1 rfl Try.underlying25 hj hy0 hy1 (by rw [hy2]; decide) rfl rfl rfl (sees_fib (a2.get 0 rfl)) (by have := hTl.out; omega) a2.bl.size ?_
                  intro B2 b2 v2 h2
                  rw [HT2.out, hTl.out] at h2
                  rw [hTl.out]
                  refine hK.out _ _ (h2.drop 6) (fun hHeld => ?_)
                  clear hK K
                  try simp only [Act.put, List.getElem_toArray, List.getElem_cons_zero, List.getElem_cons_succ, List.setIfInBounds_toArray, List.set_cons_zero, List.set_cons_succ]
                  refine wpAnyH_ready (rs := [13]) (by kernel_rfl) (by simp) ?_
                  refine AllReadyH.cons rfl (fun K hK => ?_) AllReadyH.nil
                  refine step_append_led rfl _ _ 25 rfl h2 1 rfl Try.underlying25 hj hy0 hy1 (by rw [hy2]; decide) rfl rfl rfl (Sees.nil elFib _ 0 _) (by have := hT2l.out; omega) h2.bl.size ?_
                  intro B3 b3 v3 h3
                  rw [HT3.out, hT2l.out, hkm1.out] at h3
                  rw [hT2l.out, hkm1.out]
                  refine hK.out _ _ (h3.drop 6) (fun hHeld => ?_)
                  clear hK K
                  try simp only [Act.put, List.getElem_toArray, List.getElem_cons_zero, List.getElem_cons_succ, List.setIfInBounds_toArray, List.set_cons_zero, List.set_cons_succ]
                  refine wpAnyH_take (i := 14) (oi := _) (v := ?_) rfl (by kernel_rfl) (by kernel_rfl) (by kernel_rfl) (fun _ _ _ h => h) (Or.inl ⟨by rfl, ?_⟩) (by assumption) ?_
                  rotate_left
                  · intro w hSw; go_simp; with_reducible rfl
                  simp only [Act.put, List.getElem_toArray, List.getElem_cons_zero, List.getElem_cons_succ, List.setIfInBounds_toArray, List.set_cons_zero, List.set_cons_succ]
                  have q1 := h3.cell 2 1 rfl rfl
                  have z1 := h3.frozen 2 1 rfl
                  have h4 := hid (h3.set 2 rfl 1 (.slice B3 (m + 1) b3))
                  refine wpAnyH_ready (rs := [15]) (by kernel_rfl) (by simp) ?_
                  refine AllReadyH.cons rfl (fun K hK => ?_) AllReadyH.nil
                  go_simp
                  go_wp2_with fail
                  refine hK.out _ _ (h4.out.drop 6) (fun hHeld => ?_)
                  clear hK K
                  try simp only [Act.put, List.getElem_toArray, List.getElem_cons_zero, List.getElem_cons_succ, List.setIfInBounds_toArray, List.set_cons_zero, List.set_cons_succ]
                  refine wpAnyH_done (by kernel_rfl) ?_ _
                  have r0 := h4.out.cell 2 0 rfl rfl
                  have r1 := h4.out.cell 2 1 rfl rfl
                  have y0 := h4.out.cell 5 0 rfl rfl
                  have t0 := h4.out.frozen 5 0 rfl
                  have y1 := h4.out.cell 5 1 rfl rfl
                  have t1 := h4.out.frozen 5 1 rfl
                  have HE := hid ((h4.out.set 5 rfl 0 (.slice A1 n c1)).set 5 rfl 1 (.slice B3 (m + 1) b3))
                  clear q1 z1 D0 E0 E1 E2 E3 h1 h2 h3 hHeld
                  go_wp2
                  exact bodyPost_ret (v := .tuple #[.agg #[.slice A1 n c1, .slice B3 (m + 1) b3], .int .i64 k, .bool true]) (by simp [results, Try.results50, go_sem, y0, y1]) rfl
                    ⟨A1, c1, B3, b3, by rw [hB.out, H.out.1, H.out.2.1, H.out.2.2, hlx.out, hil.out], by rw [H.out.1, H.out.2.1, hlx.out, hil.out]; exact HE.out.netOwn2 3 1 rfl rfl hlx.out.symm hil.out.symm hbw (Nat.le_refl _), HE.out.bl⟩
                · skip
                  refine AllReadyH.cons rfl (fun K hK => ?_) AllReadyH.nil
                  have a2 := ((hW.empty elFib 62 (WW.heap.size) rfl w.heap.size (by have := hW.bl.size; omega)).blk_ (WW.heap.size + 1) (by simp) 62 #[.int .i64 f.a, .int .i64 f.b, .int .i64 f.len, .int .i64 f.risk]).step (Cls.drew _)
                  go_simp
                  go_wp2_with fail
                  refine hK.out _ _ (a2.drop 6) (fun hHeld => ?_)
                  clear hK K
                  try simp only [Act.put, List.getElem_toArray, List.getElem_cons_zero, List.getElem_cons_succ, List.setIfInBounds_toArray, List.set_cons_zero, List.set_cons_succ]
                  refine wpAnyH_ready (rs := [5]) (by kernel_rfl) (by simp) ?_
                  refine AllReadyH.cons rfl (fun K hK => ?_) AllReadyH.nil
                  refine step_append_led rfl _ _ 25 rfl a2 1 rfl Try.underlying25 hj hy0 hy1 (by rw [hy2]; decide) rfl rfl rfl ((HN.out.grow a2.bl).fibs.take hk) (by simp; omega) a2.bl.size ?_
                  intro B1 b1 v1 h1
                  simp only [List.length_nil, Nat.zero_add, List.nil_append] at h1 ⊢
                  rw [HT.out] at h1
                  refine hK.out _ _ (h1.drop 6) (fun hHeld => ?_)
                  clear hK K
                  try simp only [Act.put, List.getElem_toArray, List.getElem_cons_zero, List.getElem_cons_succ, List.setIfInBounds_toArray, List.set_cons_zero, List.set_cons_succ]
                  refine wpAnyH_ready (rs := [8]) (by kernel_rfl) (by simp) ?_
                  refine AllReadyH.cons rfl (fun K hK => ?_) AllReadyH.nil
                  refine step_append_led rfl _ _ 25 rfl h1 1 rfl Try.underlying25 hj hy0 hy1 (by rw [hy2]; decide) rfl rfl rfl (sees_fib (h1.get 0 rfl)) (by have := hTl.out; omega) h1.bl.size ?_
                  intro B2 b2 v2 h2
                  rw [HT2.out, hTl.out] at h2
                  rw [hTl.out]
                  refine hK.out _ _ (h2.drop 6) (fun hHeld => ?_)
                  clear hK K
                  try simp only [Act.put, List.getElem_toArray, List.getElem_cons_zero, List.getElem_cons_succ, List.setIfInBounds_toArray, List.set_cons_zero, List.set_cons_succ]
                  refine wpAnyH_ready (rs := [13]) (by kernel_rfl) (by simp) ?_
                  refine AllReadyH.cons rfl (fun K hK => ?_) AllReadyH.nil
                  refine step_append_led rfl _ _ 25 rfl h2 1 rfl Try.underlying25 hj hy0 hy1 (by rw [hy2]; decide) rfl rfl rfl (Sees.nil elFib _ 0 _) (by have := hT2l.out; omega) h2.bl.size ?_
                  intro B3 b3 v3 h3
                  rw [HT3.out, hT2l.out, hkm1.out] at h3
                  rw [hT2l.out, hkm1.out]
                  refine hK.out _ _ (h3.drop 6) (fun hHeld => ?_)
                  clear hK K
                  try simp only [Act.put, List.getElem_toArray, List.getElem_cons_zero, List.getElem_cons_succ, List.setIfInBounds_toArray, List.set_cons_zero, List.set_cons_succ]
                  refine wpAnyH_take (i := 14) (oi := _) (v := ?_) rfl (by kernel_rfl) (by kernel_rfl) (by kernel_rfl) (fun _ _ _ h => h) (Or.inl ⟨by rfl, ?_⟩) (by assumption) ?_
                  rotate_left
                  · intro w hSw; go_simp; with_reducible rfl
                  simp only [Act.put, List.getElem_toArray, List.getElem_cons_zero, List.getElem_cons_succ, List.setIfInBounds_toArray, List.set_cons_zero, List.set_cons_succ]
                  have q1 := h3.cell 2 1 rfl rfl
                  have z1 := h3.frozen 2 1 rfl
                  have h4 := hid (h3.set 2 rfl 1 (.slice B3 (m + 1) b3))
                  refine wpAnyH_ready (rs := [15]) (by kernel_rfl) (by simp) ?_
                  refine AllReadyH.cons rfl (fun K hK => ?_) AllReadyH.nil
                  go_simp
                  go_wp2_with fail
                  refine hK.out _ _ (h4.out.drop 6) (fun hHeld => ?_)
                  clear hK K
                  try simp only [Act.put, List.getElem_toArray, List.getElem_cons_zero, List.getElem_cons_succ, List.setIfInBounds_toArray, List.set_cons_zero, List.set_cons_succ]
                  refine wpAnyH_done (by kernel_rfl) ?_ _
                  have r0 := h4.out.cell 2 0 rfl rfl
                  have r1 := h4.out.cell 2 1 rfl rfl
                  have y0 := h4.out.cell 5 0 rfl rfl
                  have t0 := h4.out.frozen 5 0 rfl
                  have y1 := h4.out.cell 5 1 rfl rfl
                  have t1 := h4.out.frozen 5 1 rfl
                  have HE := hid ((h4.out.set 5 rfl 0 (.slice A1 n c1)).set 5 rfl 1 (.slice B3 (m + 1) b3))
                  clear q1 z1 D0 E0 E1 E2 E3 h1 h2 h3 hHeld
                  go_wp2
                  exact bodyPost_ret (v := .tuple #[.agg #[.slice A1 n c1, .slice B3 (m + 1) b3], .int .i64 k, .bool true]) (by simp [results, Try.results50, go_sem, y0, y1]) rfl
                    ⟨A1, c1, B3, b3, by rw [hB.out, H.out.1, H.out.2.1, H.out.2.2, hlx.out, hil.out], by rw [H.out.1, H.out.2.1, hlx.out, hil.out]; exact HE.out.netOwn2 3 1 rfl rfl hlx.out.symm hil.out.symm hbw (Nat.le_refl _), HE.out.bl⟩
              · skip
                refine AllReadyH.cons rfl (fun K hK => ?_) AllReadyH.nil
                have a1 := (hW.blk_ WW.heap.size rfl 62 #[.int .i64 f.a, .int .i64 f.b, .int .i64 f.len, .int .i64 f.risk]).step (Cls.drew _)
                go_simp
                go_wp2_with fail
                refine hK.out _ _ (a1.drop 5) (fun hHeld => ?_)
                clear hK K
                try simp only [Act.put, List.getElem_toArray, List.getElem_cons_zero, List.getElem_cons_succ, List.setIfInBounds_toArray, List.set_cons_zero, List.set_cons_succ]
                refine wpAnyH_ready (rs := [0]) (by kernel_rfl) (by simp) ?_
                refine AllReadyH.cons rfl (fun K hK => ?_) AllReadyH.nil
                have a2 := ((hW.blk_ WW.heap.size rfl 62 #[.int .i64 f.a, .int .i64 f.b, .int .i64 f.len, .int .i64 f.risk]).empty elFib 62 (WW.heap.size + 1) (by simp) w.heap.size (by have := hW.bl.size; omega)).step (Cls.drew _)
                go_simp
                go_wp2_with fail
                refine hK.out _ _ (a2.drop 6) (fun hHeld => ?_)
                clear hK K
                try simp only [Act.put, List.getElem_toArray, List.getElem_cons_zero, List.getElem_cons_succ, List.setIfInBounds_toArray, List.set_cons_zero, List.set_cons_succ]
                refine wpAnyH_ready (rs := [5]) (by kernel_rfl) (by simp) ?_
                refine AllReadyH.cons rfl (fun K hK => ?_) AllReadyH.nil
                refine step_append_led rfl _ _ 25 rfl a2 0 rfl Try.underlying25 hj hy0 hy1 (by rw [hy2]; decide) rfl rfl rfl ((HN.out.grow a2.bl).fibs.take hk) (by simp; omega) a2.bl.size ?_
                intro B1 b1 v1 h1
                simp only [List.length_nil, Nat.zero_add, List.nil_append] at h1 ⊢
                rw [HT.out] at h1
                refine hK.out _ _ (h1.drop 6) (fun hHeld => ?_)
                clear hK K
                try simp only [Act.put, List.getElem_toArray, List.getElem_cons_zero, List.getElem_cons_succ, List.setIfInBounds_toArray, List.set_cons_zero, List.set_cons_succ]
                refine wpAnyH_ready (rs := [8]) (by kernel_rfl) (by simp) ?_
                refine AllReadyH.cons rfl (fun K hK => ?_) AllReadyH.nil
                refine step_append_led rfl _ _ 25 rfl h1 0 rfl Try.underlying25 hj hy0 hy1 (by rw [hy2]; decide) rfl rfl rfl (sees_fib (h1.get 1 rfl)) (by have := hTl.out; omega) h1.bl.size ?_
                intro B2 b2 v2 h2
                rw [HT2.out, hTl.out] at h2
                rw [hTl.out]
                refine hK.out _ _ (h2.drop 6) (fun hHeld => ?_)
                clear hK K
                try simp only [Act.put, List.getElem_toArray, List.getElem_cons_zero, List.getElem_cons_succ, List.setIfInBounds_toArray, List.set_cons_zero, List.set_cons_succ]
                refine wpAnyH_ready (rs := [13]) (by kernel_rfl) (by simp) ?_
                refine AllReadyH.cons rfl (fun K hK => ?_) AllReadyH.nil
                refine step_append_led rfl _ _ 25 rfl h2 0 rfl Try.underlying25 hj hy0 hy1 (by rw [hy2]; decide) rfl rfl rfl (Sees.nil elFib _ 0 _) (by have := hT2l.out; omega) h2.bl.size ?_
                intro B3 b3 v3 h3
                rw [HT3.out, hT2l.out, hkm1.out] at h3
                rw [hT2l.out, hkm1.out]
                refine hK.out _ _ (h3.drop 6) (fun hHeld => ?_)
                clear hK K
                try simp only [Act.put, List.getElem_toArray, List.getElem_cons_zero, List.getElem_cons_succ, List.setIfInBounds_toArray, List.set_cons_zero, List.set_cons_succ]
                refine wpAnyH_take (i := 14) (oi := _) (v := ?_) rfl (by kernel_rfl) (by kernel_rfl) (by kernel_rfl) (fun _ _ _ h => h) (Or.inl ⟨by rfl, ?_⟩) (by assumption) ?_
                rotate_left
                · intro w hSw; go_simp; with_reducible rfl
                simp only [Act.put, List.getElem_toArray, List.getElem_cons_zero, List.getElem_cons_succ, List.setIfInBounds_toArray, List.set_cons_zero, List.set_cons_succ]
                have q1 := h3.cell 2 1 rfl rfl
                have z1 := h3.frozen 2 1 rfl
                have h4 := hid (h3.set 2 rfl 1 (.slice B3 (m + 1) b3))
                refine wpAnyH_ready (rs := [15]) (by kernel_rfl) (by simp) ?_
                refine AllReadyH.cons rfl (fun K hK => ?_) AllReadyH.nil
                go_simp
                go_wp2_with fail
                refine hK.out _ _ (h4.out.drop 6) (fun hHeld => ?_)
                clear hK K
                try simp only [Act.put, List.getElem_toArray, List.getElem_cons_zero, List.getElem_cons_succ, List.setIfInBounds_toArray, List.set_cons_zero, List.set_cons_succ]
                refine wpAnyH_done (by kernel_rfl) ?_ _
                have r0 := h4.out.cell 2 0 rfl rfl
                have r1 := h4.out.cell 2 1 rfl rfl
                have y0 := h4.out.cell 5 0 rfl rfl
                have t0 := h4.out.frozen 5 0 rfl
                have y1 := h4.out.cell 5 1 rfl rfl
                have t1 := h4.out.frozen 5 1 rfl
                have HE := hid ((h4.out.set 5 rfl 0 (.slice A1 n c1)).set 5 rfl 1 (.slice B3 (m + 1) b3))
                clear q1 z1 D0 E0 E1 E2 E3 h1 h2 h3 hHeld
                go_wp2
                exact bodyPost_ret (v := .tuple #[.agg #[.slice A1 n c1, .slice B3 (m + 1) b3], .int .i64 k, .bool true]) (by simp [results, Try.results50, go_sem, y0, y1]) rfl
                  ⟨A1, c1, B3, b3, by rw [hB.out, H.out.1, H.out.2.1, H.out.2.2, hlx.out, hil.out], by rw [H.out.1, H.out.2.1, hlx.out, hil.out]; exact HE.out.netOwn2 3 0 rfl rfl hlx.out.symm hil.out.symm hbw (Nat.le_refl _), HE.out.bl⟩
end
end Go.Proofs.Ytfepilpllfiegaa
/- l1Least, l1Most, l2Put of the reference, walked. Conditions: as each states. By put2.py. -/
namespace Go.Proofs.Ytfepilpllfiegaa
open Go.RowKit
theorem l1Least_any (a b : Int) (w : World) : Calls Try.prog 152 #[.int .i64 a, .int .i64 b] w fun e w' => ∃ v : Int, e = .returned (.int .i64 v) ∧ (v = a ∨ v = b) ∧ w = w' := by
  by_cases h : a < b
  all_goals
    go_enter Try.func152, Try.ntmps152
    go_wp2
    go_ret
  · exact ⟨a, rfl, .inl rfl, rfl⟩
  · exact ⟨b, rfl, .inr rfl, rfl⟩
theorem l1Most_any (a b : Int) (w : World) : Calls Try.prog 135 #[.int .i64 a, .int .i64 b] w fun e w' => ∃ v : Int, e = .returned (.int .i64 v) ∧ (v = a ∨ v = b) ∧ (a ≤ v ∧ b ≤ v) ∧ w = w' := by
  by_cases h : a > b
  all_goals
    go_enter Try.func135, Try.ntmps135
    go_wp2
    go_ret
  · exact ⟨a, rfl, .inl rfl, ⟨by omega, by omega⟩, rfl⟩
  · exact ⟨b, rfl, .inr rfl, ⟨by omega, by omega⟩, rfl⟩
section
variable {m d : Nat} {A' : Option Addr} {fs : List Fib} {f : Fib}
set_option maxHeartbeats 2000000 in
set_option maxRecDepth 100000 in
theorem l2Put_any (w : World) (hA : Sees elFib w w.heap.size A' m fs) (hmd : m ≤ d) (hm : m ≤ 1048576) (hsf : smallF f) (hsx : ∀ x ∈ fs, smallF x) :
    Calls Try.prog 151 #[.slice A' m d, .agg #[.int .i64 f.a, .int .i64 f.b, .int .i64 f.len, .int .i64 f.risk]] w fun e w' => ∃ A1 c1 gs, e = .returned (.slice A1 (m + 1) c1) ∧ gs.length = m + 1 ∧ (∀ x ∈ gs, smallF x) ∧ Owns elFib w' w.heap.size 62 (.slice A1 (m + 1) c1) gs ∧ Below w.heap.size w w' := by
  have hS := (Led.nil w).blk_ w.heap.size rfl 62 #[.int .i64 f.a, .int .i64 f.b, .int .i64 f.len, .int .i64 f.risk]
  obtain ⟨j0, hj, hy0, hy1, hy2⟩ := info_parts fib_info
  have HN := hid hA
  have hlf := hA.len
  replace hsf := hid hsf
  replace hsx := hid hsx
  have HS := hid hS
  clear hS hA
  go_enter Try.func151, Try.ntmps151
  go_wp2_with fail
  go_loopw [5] (fun i wr => ∃ k : Nat, k ≤ m ∧ i = .int .i64 k ∧ Hid (Led w wr [tBlk w.heap.size 62 #[.int .i64 f.a, .int .i64 f.b, .int .i64 f.len, .int .i64 f.risk]])) (fun i _ => m - (intOf i).toNat)
  case atStart => exact ⟨0, Nat.zero_le _, rfl, HS⟩
  case round =>
    clear HS
    obtain ⟨k, hk, rfl, HS⟩ := hrel
    have E0 : ∀ w', Cls wr w' → w'.cell? ⟨w.heap.size, 0, none⟩ = some (.int .i64 f.a) := fun _ h => h.cell (HS.out.cell 0 0 rfl rfl)
    have E1 : ∀ w', Cls wr w' → w'.cell? ⟨w.heap.size, 1, none⟩ = some (.int .i64 f.b) := fun _ h => h.cell (HS.out.cell 0 1 rfl rfl)
    have E2 : ∀ w', Cls wr w' → w'.cell? ⟨w.heap.size, 2, none⟩ = some (.int .i64 f.len) := fun _ h => h.cell (HS.out.cell 0 2 rfl rfl)
    have E3 : ∀ w', Cls wr w' → w'.cell? ⟨w.heap.size, 3, none⟩ = some (.int .i64 f.risk) := fun _ h => h.cell (HS.out.cell 0 3 rfl rfl)
    by_cases hlt : k < m
    · obtain ⟨b, o, rfl, _, hc⟩ := HN.out.at_ hlt
      obtain ⟨x, hxk⟩ := get_of (k := k) hlf hlt
      have f0 := bl_cell HS.out.bl (hc k x hxk 0 _ rfl)
      have f1 := bl_cell HS.out.bl (hc k x hxk 1 _ rfl)
      have f2 := bl_cell HS.out.bl (hc k x hxk 2 _ rfl)
      have f3 := bl_cell HS.out.bl (hc k x hxk 3 _ rfl)
      simp only [elFib, Nat.add_zero] at f0 f1 f2 f3
      have F0 : ∀ w', Cls wr w' → w'.cell? ⟨b, o + k * 4, none⟩ = some (.int .i64 x.a) := fun _ h => h.cell f0
      have F1 : ∀ w', Cls wr w' → w'.cell? ⟨b, o + k * 4 + 1, none⟩ = some (.int .i64 x.b) := fun _ h => h.cell f1
      have F2 : ∀ w', Cls wr w' → w'.cell? ⟨b, o + k * 4 + 2, none⟩ = some (.int .i64 x.len) := fun _ h => h.cell f2
      have F3 : ∀ w', Cls wr w' → w'.cell? ⟨b, o + k * 4 + 3, none⟩ = some (.int .i64 x.risk) := fun _ h => h.cell f3
      have iz : (k : Int) < (m : Int) := by omega
      have hsx1 := hid (hsx.out x (List.mem_of_getElem? hxk))
      clear hc f0 f1 f2 f3 hxk
      by_cases hcmp : befF x f ≤ 0
      · have hd : decide (befF x f ≤ 0) = true := decide_eq_true hcmp
        go_wp2_with fail
        refine region_cls (by kernel_rfl) (by kernel_rfl) ?_
        repeat (first
          | ((with_reducible refine quiet_pos ?_ (fun K hK => ?_))
             · rfl
             apply Exists.intro
             refine ⟨fun w' hw' => ?_, ?_⟩
             · go_simp
               first
                 | with_reducible rfl
                 | (go_at_call 114; exact hw'.call (l2Before_any x f _ hsx1.out hsf.out))
             simp only [Act.put, List.setIfInBounds_toArray, List.set_cons_zero, List.set_cons_succ]
             refine hK _ ?_; clear hK K)
          | ((with_reducible refine quiet_neg ?_ (fun K hK => ?_))
             · rfl
             simp only [Act.put, List.setIfInBounds_toArray, List.set_cons_zero, List.set_cons_succ]
             refine hK _ ?_; clear hK K))
        with_reducible refine wpQuiet_nil ?_
        intro wz hwz'
        have HS1 := hid (HS.out.step hwz')
        clear HS E0 E1 E2 E3 F0 F1 F2 F3 hwz'
        go_wp2
        go_roundw
        case rel => exact ⟨k + 1, by omega, by go_num, HS1⟩
        case measure => simp [intOf]; omega
      · have hd : decide (befF x f ≤ 0) = false := decide_eq_false hcmp
        go_wp2_with fail
        refine region_cls (by kernel_rfl) (by kernel_rfl) ?_
        repeat (first
          | ((with_reducible refine quiet_pos ?_ (fun K hK => ?_))
             · rfl
             apply Exists.intro
             refine ⟨fun w' hw' => ?_, ?_⟩
             · go_simp
               first
                 | with_reducible rfl
                 | (go_at_call 114; exact hw'.call (l2Before_any x f _ hsx1.out hsf.out))
             simp only [Act.put, List.setIfInBounds_toArray, List.set_cons_zero, List.set_cons_succ]
             refine hK _ ?_; clear hK K)
          | ((with_reducible refine quiet_neg ?_ (fun K hK => ?_))
             · rfl
             simp only [Act.put, List.setIfInBounds_toArray, List.set_cons_zero, List.set_cons_succ]
             refine hK _ ?_; clear hK K))
        with_reducible refine wpQuiet_nil ?_
        intro wz hwz'
        clear F0 F1 F2 F3
        have hdk : ¬ (d = k) := by omega
        have hkd : (k : Int) ≤ (d : Int) := by omega
        replace HS := hid (HS.out.step hwz')
        clear E0 E1 E2 E3 hwz'
        obtain ⟨T, hT⟩ : ∃ T, T = fs.take k := ⟨_, rfl⟩
        have HT : Hid (fs.take k = T) := hT.symm
        have hTl : Hid (T.length = k) := by unfold Hid; rw [hT, List.length_take]; omega
        obtain ⟨T2, hT2⟩ : ∃ T2, T2 = T ++ [f] := ⟨_, rfl⟩
        have HT2 : Hid (T ++ [f] = T2) := hT2.symm
        have hT2l : Hid (T2.length = k + 1) := by unfold Hid; rw [hT2, List.length_append, hTl.out]; rfl
        have hkm1 : Hid (k + 1 + (m - k) = m + 1) := by unfold Hid; omega
        have HG : Hid ((T2 ++ fs.drop k).length = m + 1 ∧ ∀ x ∈ T2 ++ fs.drop k, smallF x) := by
          refine ⟨by rw [List.length_append, hT2l.out]; rw [List.length_drop, hlf]; omega, fun x hx => ?_⟩
          rcases List.mem_append.1 hx with hx | hx
          · rw [hT2] at hx
            rcases List.mem_append.1 hx with hx | hx
            · rw [hT] at hx; exact hsx.out x (List.mem_of_mem_take hx)
            · rw [List.mem_singleton.1 hx]; exact hsf.out
          · exact hsx.out x (List.mem_of_mem_drop hx)
        clear hT hT2
        have hW := HS.out
        go_wp2_with fail
        obtain ⟨WW, hWW⟩ : ∃ WW, WW = wz := ⟨_, rfl⟩
        rw [← hWW] at hW ⊢
        clear HS hWW
        have p0 : ∀ w', Led w w' [tBlk w.heap.size 62 #[.int .i64 f.a, .int .i64 f.b, .int .i64 f.len, .int .i64 f.risk]] → w'.cell? ⟨w.heap.size, 0, none⟩ = some (.int .i64 f.a) := fun _ h => h.cell 0 0 rfl rfl
        have p1 : ∀ w', Led w w' [tBlk w.heap.size 62 #[.int .i64 f.a, .int .i64 f.b, .int .i64 f.len, .int .i64 f.risk]] → w'.cell? ⟨w.heap.size, 1, none⟩ = some (.int .i64 f.b) := fun _ h => h.cell 0 1 rfl rfl
        have p2 : ∀ w', Led w w' [tBlk w.heap.size 62 #[.int .i64 f.a, .int .i64 f.b, .int .i64 f.len, .int .i64 f.risk]] → w'.cell? ⟨w.heap.size, 2, none⟩ = some (.int .i64 f.len) := fun _ h => h.cell 0 2 rfl rfl
        have p3 : ∀ w', Led w w' [tBlk w.heap.size 62 #[.int .i64 f.a, .int .i64 f.b, .int .i64 f.len, .int .i64 f.risk]] → w'.cell? ⟨w.heap.size, 3, none⟩ = some (.int .i64 f.risk) := fun _ h => h.cell 0 3 rfl rfl
        refine wp_region_held_drew (S := fun w' => Led w w' [tBlk w.heap.size 62 #[.int .i64 f.a, .int .i64 f.b, .int .i64 f.len, .int .i64 f.risk]]) (by kernel_rfl) (hW.step (Cls.drew _)) (fun hHeld => ?_)
        refine wpAnyH_take (i := 1) (oi := _) (v := ?_) rfl (by kernel_rfl) (by kernel_rfl) (by kernel_rfl) (fun _ _ _ h => h) (Or.inl ⟨by rfl, ?_⟩) (by assumption) ?_
        rotate_left
        · intro w hSw; go_simp; with_reducible rfl
        simp only [Act.put, List.getElem_toArray, List.getElem_cons_zero, List.getElem_cons_succ, List.setIfInBounds_toArray, List.set_cons_zero, List.set_cons_succ]
        refine wpAnyH_take (i := 2) (oi := _) (v := ?_) rfl (by kernel_rfl) (by kernel_rfl) (by kernel_rfl) (fun _ _ _ h => h) (Or.inl ⟨by rfl, ?_⟩) (by assumption) ?_
        rotate_left
        · intro w hSw; go_simp; with_reducible rfl
        simp only [Act.put, List.getElem_toArray, List.getElem_cons_zero, List.getElem_cons_succ, List.setIfInBounds_toArray, List.set_cons_zero, List.set_cons_succ]
        refine wpAnyH_take (i := 3) (oi := _) (v := ?_) rfl (by kernel_rfl) (by kernel_rfl) (by kernel_rfl) (fun _ _ _ h => h) (Or.inl ⟨by rfl, ?_⟩) (by assumption) ?_
        rotate_left
        · intro w hSw; go_simp; with_reducible rfl
        simp only [Act.put, List.getElem_toArray, List.getElem_cons_zero, List.getElem_cons_succ, List.setIfInBounds_toArray, List.set_cons_zero, List.set_cons_succ]
        refine wpAnyH_take (i := 5) (oi := _) (v := ?_) rfl (by kernel_rfl) (by kernel_rfl) (by kernel_rfl) (fun _ _ _ h => h) (Or.inl ⟨by rfl, ?_⟩) (by assumption) ?_
        rotate_left
        · intro w hSw; go_simp; with_reducible rfl
        simp only [Act.put, List.getElem_toArray, List.getElem_cons_zero, List.getElem_cons_succ, List.setIfInBounds_toArray, List.set_cons_zero, List.set_cons_succ]
        refine wpAnyH_take (i := 8) (oi := _) (v := ?_) rfl (by kernel_rfl) (by kernel_rfl) (by kernel_rfl) (fun _ _ _ h => h) (Or.inl ⟨by rfl, ?_⟩) (by assumption) ?_
        rotate_left
        · intro w hSw; go_simp; with_reducible rfl
        simp only [Act.put, List.getElem_toArray, List.getElem_cons_zero, List.getElem_cons_succ, List.setIfInBounds_toArray, List.set_cons_zero, List.set_cons_succ]
        refine wpAnyH_take (i := 9) (oi := _) (v := ?_) rfl (by kernel_rfl) (by kernel_rfl) (by kernel_rfl) (fun _ _ _ h => h) (Or.inl ⟨by rfl, ?_⟩) (by assumption) ?_
        rotate_left
        · intro w hSw; go_simp; with_reducible rfl
        simp only [Act.put, List.getElem_toArray, List.getElem_cons_zero, List.getElem_cons_succ, List.setIfInBounds_toArray, List.set_cons_zero, List.set_cons_succ]
        refine wpAnyH_take (i := 10) (oi := _) (v := ?_) rfl (by kernel_rfl) (by kernel_rfl) (by kernel_rfl) (fun _ _ _ h => h) (Or.inl ⟨by rfl, ?_⟩) (by assumption) ?_
        rotate_left
        · intro w hSw; go_simp; with_reducible rfl
        simp only [Act.put, List.getElem_toArray, List.getElem_cons_zero, List.getElem_cons_succ, List.setIfInBounds_toArray, List.set_cons_zero, List.set_cons_succ]
        refine wpAnyH_ready (rs := [0, 6]) (by kernel_rfl) (by simp) ?_
        refine AllReadyH.cons rfl (fun K hK => ?_) ?_
        · skip
          have a1 := (hW.empty elFib 62 (WW.heap.size) rfl w.heap.size (by have := hW.bl.size; omega)).step (Cls.drew _)
          go_simp
          go_wp2_with fail
          refine hK.out _ _ (a1.drop 1) (fun hHeld => ?_)
          clear hK K
          try simp only [Act.put, List.getElem_toArray, List.getElem_cons_zero, List.getElem_cons_succ, List.setIfInBounds_toArray, List.set_cons_zero, List.set_cons_succ]
          refine wpAnyH_ready (rs := [4, 6]) (by kernel_rfl) (by simp) ?_
          refine AllReadyH.cons rfl (fun K hK => ?_) ?_
          · skip
            refine step_append_led rfl _ _ 25 rfl a1 0 rfl Try.underlying25 hj hy0 hy1 (by rw [hy2]; decide) rfl rfl rfl ((HN.out.grow a1.bl).take hk) (by simp; omega) a1.bl.size ?_
            intro B1 b1 v1 h1
            simp only [List.length_nil, Nat.zero_add, List.nil_append] at h1 ⊢
            rw [HT.out] at h1
            refine hK.out _ _ (h1.drop 1) (fun hHeld => ?_)
            clear hK K
            try simp only [Act.put, List.getElem_toArray, List.getElem_cons_zero, List.getElem_cons_succ, List.setIfInBounds_toArray, List.set_cons_zero, List.set_cons_succ]
            refine wpAnyH_ready (rs := [6]) (by kernel_rfl) (by simp) ?_
            refine AllReadyH.cons rfl (fun K hK => ?_) AllReadyH.nil
            have a2 := h1.blk_ v1.heap.size rfl 62 #[.int .i64 f.a, .int .i64 f.b, .int .i64 f.len, .int .i64 f.risk]
            go_simp
            go_wp2_with fail
            refine hK.out _ _ (a2.drop 2) (fun hHeld => ?_)
            clear hK K
            try simp only [Act.put, List.getElem_toArray, List.getElem_cons_zero, List.getElem_cons_succ, List.setIfInBounds_toArray, List.set_cons_zero, List.set_cons_succ]
            refine wpAnyH_ready (rs := [7]) (by kernel_rfl) (by simp) ?_
            refine AllReadyH.cons rfl (fun K hK => ?_) AllReadyH.nil
            refine step_append_led rfl _ _ 25 rfl a2 1 rfl Try.underlying25 hj hy0 hy1 (by rw [hy2]; decide) rfl rfl rfl (sees_fib (a2.get 0 rfl)) (by have := hTl.out; omega) a2.bl.size ?_
            intro B2 b2 v2 h2
            rw [HT2.out, hTl.out] at h2
            rw [hTl.out]
            refine hK.out _ _ (h2.drop 2) (fun hHeld => ?_)
            clear hK K
            try simp only [Act.put, List.getElem_toArray, List.getElem_cons_zero, List.getElem_cons_succ, List.setIfInBounds_toArray, List.set_cons_zero, List.set_cons_succ]
            refine wpAnyH_ready (rs := [11]) (by kernel_rfl) (by simp) ?_
            refine AllReadyH.cons rfl (fun K hK => ?_) AllReadyH.nil
            refine step_append_led rfl _ _ 25 rfl h2 1 rfl Try.underlying25 hj hy0 hy1 (by rw [hy2]; decide) rfl rfl rfl ((HN.out.grow h2.bl).backE hk) (by have := hT2l.out; omega) h2.bl.size ?_
            intro B3 b3 v3 h3
            rw [hT2l.out, hkm1.out] at h3
            rw [hT2l.out, hkm1.out]
            refine hK.out _ _ (h3.drop 2) (fun hHeld => ?_)
            clear hK K
            try simp only [Act.put, List.getElem_toArray, List.getElem_cons_zero, List.getElem_cons_succ, List.setIfInBounds_toArray, List.set_cons_zero, List.set_cons_succ]
            refine wpAnyH_take (i := 12) (oi := _) (v := ?_) rfl (by kernel_rfl) (by kernel_rfl) (by kernel_rfl) (fun _ _ _ h => h) (Or.inl ⟨by rfl, ?_⟩) (by assumption) ?_
            rotate_left
            · intro w hSw; go_simp; with_reducible rfl
            simp only [Act.put, List.getElem_toArray, List.getElem_cons_zero, List.getElem_cons_succ, List.setIfInBounds_toArray, List.set_cons_zero, List.set_cons_succ]
            have HE := hid h3
            clear p0 p1 p2 p3 h1 h2 h3 hHeld
            refine wpAnyH_done (by kernel_rfl) ?_ _
            go_wp2_with fail
            go_ret
            exact ⟨B3, b3, _, rfl, HG.out.1, HG.out.2, HE.out.own 1 rfl, HE.out.bl⟩
          · skip
            refine AllReadyH.cons rfl (fun K hK => ?_) AllReadyH.nil
            have a2 := ((hW.empty elFib 62 (WW.heap.size) rfl w.heap.size (by have := hW.bl.size; omega)).blk_ (WW.heap.size + 1) (by simp) 62 #[.int .i64 f.a, .int .i64 f.b, .int .i64 f.len, .int .i64 f.risk]).step (Cls.drew _)
            go_simp
            go_wp2_with fail
            refine hK.out _ _ (a2.drop 2) (fun hHeld => ?_)
            clear hK K
            try simp only [Act.put, List.getElem_toArray, List.getElem_cons_zero, List.getElem_cons_succ, List.setIfInBounds_toArray, List.set_cons_zero, List.set_cons_succ]
            refine wpAnyH_ready (rs := [4]) (by kernel_rfl) (by simp) ?_
            refine AllReadyH.cons rfl (fun K hK => ?_) AllReadyH.nil
            refine step_append_led rfl _ _ 25 rfl a2 1 rfl Try.underlying25 hj hy0 hy1 (by rw [hy2]; decide) rfl rfl rfl ((HN.out.grow a2.bl).take hk) (by simp; omega) a2.bl.size ?_
            intro B1 b1 v1 h1
            simp only [List.length_nil, Nat.zero_add, List.nil_append] at h1 ⊢
            rw [HT.out] at h1
            refine hK.out _ _ (h1.drop 2) (fun hHeld => ?_)
            clear hK K
            try simp only [Act.put, List.getElem_toArray, List.getElem_cons_zero, List.getElem_cons_succ, List.setIfInBounds_toArray, List.set_cons_zero, List.set_cons_succ]
            refine wpAnyH_ready (rs := [7]) (by kernel_rfl) (by simp) ?_
            refine AllReadyH.cons rfl (fun K hK => ?_) AllReadyH.nil
            refine step_append_led rfl _ _ 25 rfl h1 1 rfl Try.underlying25 hj hy0 hy1 (by rw [hy2]; decide) rfl rfl rfl (sees_fib (h1.get 0 rfl)) (by have := hTl.out; omega) h1.bl.size ?_
            intro B2 b2 v2 h2
            rw [HT2.out, hTl.out] at h2
            rw [hTl.out]
            refine hK.out _ _ (h2.drop 2) (fun hHeld => ?_)
            clear hK K
            try simp only [Act.put, List.getElem_toArray, List.getElem_cons_zero, List.getElem_cons_succ, List.setIfInBounds_toArray, List.set_cons_zero, List.set_cons_succ]
            refine wpAnyH_ready (rs := [11]) (by kernel_rfl) (by simp) ?_
            refine AllReadyH.cons rfl (fun K hK => ?_) AllReadyH.nil
            refine step_append_led rfl _ _ 25 rfl h2 1 rfl Try.underlying25 hj hy0 hy1 (by rw [hy2]; decide) rfl rfl rfl ((HN.out.grow h2.bl).backE hk) (by have := hT2l.out; omega) h2.bl.size ?_
            intro B3 b3 v3 h3
            rw [hT2l.out, hkm1.out] at h3
            rw [hT2l.out, hkm1.out]
            refine hK.out _ _ (h3.drop 2) (fun hHeld => ?_)
            clear hK K
            try simp only [Act.put, List.getElem_toArray, List.getElem_cons_zero, List.getElem_cons_succ, List.setIfInBounds_toArray, List.set_cons_zero, List.set_cons_succ]
            refine wpAnyH_take (i := 12) (oi := _) (v := ?_) rfl (by kernel_rfl) (by kernel_rfl) (by kernel_rfl) (fun _ _ _ h => h) (Or.inl ⟨by rfl, ?_⟩) (by assumption) ?_
            rotate_left
            · intro w hSw; go_simp; with_reducible rfl
            simp only [Act.put, List.getElem_toArray, List.getElem_cons_zero, List.getElem_cons_succ, List.setIfInBounds_toArray, List.set_cons_zero, List.set_cons_succ]
            have HE := hid h3
            clear p0 p1 p2 p3 h1 h2 h3 hHeld
            refine wpAnyH_done (by kernel_rfl) ?_ _
            go_wp2_with fail
            go_ret
            exact ⟨B3, b3, _, rfl, HG.out.1, HG.out.2, HE.out.own 1 rfl, HE.out.bl⟩
        · skip
          refine AllReadyH.cons rfl (fun K hK => ?_) AllReadyH.nil
          have a1 := (hW.blk_ WW.heap.size rfl 62 #[.int .i64 f.a, .int .i64 f.b, .int .i64 f.len, .int .i64 f.risk]).step (Cls.drew _)
          go_simp
          go_wp2_with fail
          refine hK.out _ _ (a1.drop 1) (fun hHeld => ?_)
          clear hK K
          try simp only [Act.put, List.getElem_toArray, List.getElem_cons_zero, List.getElem_cons_succ, List.setIfInBounds_toArray, List.set_cons_zero, List.set_cons_succ]
          refine wpAnyH_ready (rs := [0]) (by kernel_rfl) (by simp) ?_
          refine AllReadyH.cons rfl (fun K hK => ?_) AllReadyH.nil
          have a2 := ((hW.blk_ WW.heap.size rfl 62 #[.int .i64 f.a, .int .i64 f.b, .int .i64 f.len, .int .i64 f.risk]).empty elFib 62 (WW.heap.size + 1) (by simp) w.heap.size (by have := hW.bl.size; omega)).step (Cls.drew _)
          go_simp
          go_wp2_with fail
          refine hK.out _ _ (a2.drop 2) (fun hHeld => ?_)
          clear hK K
          try simp only [Act.put, List.getElem_toArray, List.getElem_cons_zero, List.getElem_cons_succ, List.setIfInBounds_toArray, List.set_cons_zero, List.set_cons_succ]
          refine wpAnyH_ready (rs := [4]) (by kernel_rfl) (by simp) ?_
          refine AllReadyH.cons rfl (fun K hK => ?_) AllReadyH.nil
          refine step_append_led rfl _ _ 25 rfl a2 0 rfl Try.underlying25 hj hy0 hy1 (by rw [hy2]; decide) rfl rfl rfl ((HN.out.grow a2.bl).take hk) (by simp; omega) a2.bl.size ?_
          intro B1 b1 v1 h1
          simp only [List.length_nil, Nat.zero_add, List.nil_append] at h1 ⊢
          rw [HT.out] at h1
          refine hK.out _ _ (h1.drop 2) (fun hHeld => ?_)
          clear hK K
          try simp only [Act.put, List.getElem_toArray, List.getElem_cons_zero, List.getElem_cons_succ, List.setIfInBounds_toArray, List.set_cons_zero, List.set_cons_succ]
          refine wpAnyH_ready (rs := [7]) (by kernel_rfl) (by simp) ?_
          refine AllReadyH.cons rfl (fun K hK => ?_) AllReadyH.nil
          refine step_append_led rfl _ _ 25 rfl h1 0 rfl Try.underlying25 hj hy0 hy1 (by rw [hy2]; decide) rfl rfl rfl (sees_fib (h1.get 1 rfl)) (by have := hTl.out; omega) h1.bl.size ?_
          intro B2 b2 v2 h2
          rw [HT2.out, hTl.out] at h2
          rw [hTl.out]
          refine hK.out _ _ (h2.drop 2) (fun hHeld => ?_)
          clear hK K
          try simp only [Act.put, List.getElem_toArray, List.getElem_cons_zero, List.getElem_cons_succ, List.setIfInBounds_toArray, List.set_cons_zero, List.set_cons_succ]
          refine wpAnyH_ready (rs := [11]) (by kernel_rfl) (by simp) ?_
          refine AllReadyH.cons rfl (fun K hK => ?_) AllReadyH.nil
          refine step_append_led rfl _ _ 25 rfl h2 0 rfl Try.underlying25 hj hy0 hy1 (by rw [hy2]; decide) rfl rfl rfl ((HN.out.grow h2.bl).backE hk) (by have := hT2l.out; omega) h2.bl.size ?_
          intro B3 b3 v3 h3
          rw [hT2l.out, hkm1.out] at h3
          rw [hT2l.out, hkm1.out]
          refine hK.out _ _ (h3.drop 2) (fun hHeld => ?_)
          clear hK K
          try simp only [Act.put, List.getElem_toArray, List.getElem_cons_zero, List.getElem_cons_succ, List.setIfInBounds_toArray, List.set_cons_zero, List.set_cons_succ]
          refine wpAnyH_take (i := 12) (oi := _) (v := ?_) rfl (by kernel_rfl) (by kernel_rfl) (by kernel_rfl) (fun _ _ _ h => h) (Or.inl ⟨by rfl, ?_⟩) (by assumption) ?_
          rotate_left
          · intro w hSw; go_simp; with_reducible rfl
          simp only [Act.put, List.getElem_toArray, List.getElem_cons_zero, List.getElem_cons_succ, List.setIfInBounds_toArray, List.set_cons_zero, List.set_cons_succ]
          have HE := hid h3
          clear p0 p1 p2 p3 h1 h2 h3 hHeld
          refine wpAnyH_done (by kernel_rfl) ?_ _
          go_wp2_with fail
          go_ret
          exact ⟨B3, b3, _, rfl, HG.out.1, HG.out.2, HE.out.own 0 rfl, HE.out.bl⟩
    · have hkm : k = m := by omega
      have iz : ¬ ((k : Int) < (m : Int)) := by omega
      have hkd : (k : Int) ≤ (d : Int) := by omega
      have HKM := hid hkm
      clear hkm
      go_wp2_with fail
      refine region_cls (by kernel_rfl) (by kernel_rfl) ?_
      repeat (first
        | ((with_reducible refine quiet_pos ?_ (fun K hK => ?_))
           · rfl
           apply Exists.intro
           refine ⟨fun w' hw' => ?_, ?_⟩
           · go_simp
             with_reducible rfl
           simp only [Act.put, List.setIfInBounds_toArray, List.set_cons_zero, List.set_cons_succ]
           refine hK _ ?_; clear hK K)
        | ((with_reducible refine quiet_neg ?_ (fun K hK => ?_))
           · rfl
           simp only [Act.put, List.setIfInBounds_toArray, List.set_cons_zero, List.set_cons_succ]
           refine hK _ ?_; clear hK K))
      with_reducible refine wpQuiet_nil ?_
      intro wz hwz'
      by_cases hdk : d = k
      · have hdk2 := hdk.symm; clear hdk; subst hdk2
        replace HS := hid (HS.out.step hwz')
        clear E0 E1 E2 E3 hwz'
        obtain ⟨T, hT⟩ : ∃ T, T = fs.take k := ⟨_, rfl⟩
        have HT : Hid (fs.take k = T) := hT.symm
        have hTl : Hid (T.length = k) := by unfold Hid; rw [hT, List.length_take]; omega
        obtain ⟨T2, hT2⟩ : ∃ T2, T2 = T ++ [f] := ⟨_, rfl⟩
        have HT2 : Hid (T ++ [f] = T2) := hT2.symm
        have hT2l : Hid (T2.length = k + 1) := by unfold Hid; rw [hT2, List.length_append, hTl.out]; rfl
        have hkm1 : Hid (k + 1 + 0 = m + 1) := by unfold Hid; have := HKM.out; omega
        have hmk : m - k = 0 := by have := HKM.out; omega
        have HG : Hid ((T2 ++ ([] : List Fib)).length = m + 1 ∧ ∀ x ∈ T2 ++ ([] : List Fib), smallF x) := by
          refine ⟨by rw [List.length_append, hT2l.out]; exact hkm1.out, fun x hx => ?_⟩
          rcases List.mem_append.1 hx with hx | hx
          · rw [hT2] at hx
            rcases List.mem_append.1 hx with hx | hx
            · rw [hT] at hx; exact hsx.out x (List.mem_of_mem_take hx)
            · rw [List.mem_singleton.1 hx]; exact hsf.out
          · cases hx
        clear hT hT2
        have hW := HS.out
        go_wp2_with fail
        obtain ⟨WW, hWW⟩ : ∃ WW, WW = wz := ⟨_, rfl⟩
        rw [← hWW] at hW ⊢
        clear HS hWW
        have p0 : ∀ w', Led w w' [tBlk w.heap.size 62 #[.int .i64 f.a, .int .i64 f.b, .int .i64 f.len, .int .i64 f.risk]] → w'.cell? ⟨w.heap.size, 0, none⟩ = some (.int .i64 f.a) := fun _ h => h.cell 0 0 rfl rfl
        have p1 : ∀ w', Led w w' [tBlk w.heap.size 62 #[.int .i64 f.a, .int .i64 f.b, .int .i64 f.len, .int .i64 f.risk]] → w'.cell? ⟨w.heap.size, 1, none⟩ = some (.int .i64 f.b) := fun _ h => h.cell 0 1 rfl rfl
        have p2 : ∀ w', Led w w' [tBlk w.heap.size 62 #[.int .i64 f.a, .int .i64 f.b, .int .i64 f.len, .int .i64 f.risk]] → w'.cell? ⟨w.heap.size, 2, none⟩ = some (.int .i64 f.len) := fun _ h => h.cell 0 2 rfl rfl
        have p3 : ∀ w', Led w w' [tBlk w.heap.size 62 #[.int .i64 f.a, .int .i64 f.b, .int .i64 f.len, .int .i64 f.risk]] → w'.cell? ⟨w.heap.size, 3, none⟩ = some (.int .i64 f.risk) := fun _ h => h.cell 0 3 rfl rfl
        refine wp_region_held_drew (S := fun w' => Led w w' [tBlk w.heap.size 62 #[.int .i64 f.a, .int .i64 f.b, .int .i64 f.len, .int .i64 f.risk]]) (by kernel_rfl) (hW.step (Cls.drew _)) (fun hHeld => ?_)
        refine wpAnyH_take (i := 1) (oi := _) (v := ?_) rfl (by kernel_rfl) (by kernel_rfl) (by kernel_rfl) (fun _ _ _ h => h) (Or.inl ⟨by rfl, ?_⟩) (by assumption) ?_
        rotate_left
        · intro w hSw; go_simp; with_reducible rfl
        simp only [Act.put, List.getElem_toArray, List.getElem_cons_zero, List.getElem_cons_succ, List.setIfInBounds_toArray, List.set_cons_zero, List.set_cons_succ]
        refine wpAnyH_take (i := 2) (oi := _) (v := ?_) rfl (by kernel_rfl) (by kernel_rfl) (by kernel_rfl) (fun _ _ _ h => h) (Or.inl ⟨by rfl, ?_⟩) (by assumption) ?_
        rotate_left
        · intro w hSw; go_simp; with_reducible rfl
        simp only [Act.put, List.getElem_toArray, List.getElem_cons_zero, List.getElem_cons_succ, List.setIfInBounds_toArray, List.set_cons_zero, List.set_cons_succ]
        refine wpAnyH_take (i := 3) (oi := _) (v := ?_) rfl (by kernel_rfl) (by kernel_rfl) (by kernel_rfl) (fun _ _ _ h => h) (Or.inl ⟨by rfl, ?_⟩) (by assumption) ?_
        rotate_left
        · intro w hSw; go_simp; with_reducible rfl
        simp only [Act.put, List.getElem_toArray, List.getElem_cons_zero, List.getElem_cons_succ, List.setIfInBounds_toArray, List.set_cons_zero, List.set_cons_succ]
        refine wpAnyH_take (i := 5) (oi := _) (v := ?_) rfl (by kernel_rfl) (by kernel_rfl) (by kernel_rfl) (fun _ _ _ h => h) (Or.inl ⟨by rfl, ?_⟩) (by assumption) ?_
        rotate_left
        · intro w hSw; go_simp; with_reducible rfl
        simp only [Act.put, List.getElem_toArray, List.getElem_cons_zero, List.getElem_cons_succ, List.setIfInBounds_toArray, List.set_cons_zero, List.set_cons_succ]
        refine wpAnyH_take (i := 8) (oi := _) (v := ?_) rfl (by kernel_rfl) (by kernel_rfl) (by kernel_rfl) (fun _ _ _ h => h) (Or.inl ⟨by rfl, ?_⟩) (by assumption) ?_
        rotate_left
        · intro w hSw; go_simp; with_reducible rfl
        simp only [Act.put, List.getElem_toArray, List.getElem_cons_zero, List.getElem_cons_succ, List.setIfInBounds_toArray, List.set_cons_zero, List.set_cons_succ]
        refine wpAnyH_take (i := 9) (oi := _) (v := ?_) rfl (by kernel_rfl) (by kernel_rfl) (by kernel_rfl) (fun _ _ _ h => h) (Or.inl ⟨by rfl, ?_⟩) (by assumption) ?_
        rotate_left
        · intro w hSw; go_simp; with_reducible rfl
        simp only [Act.put, List.getElem_toArray, List.getElem_cons_zero, List.getElem_cons_succ, List.setIfInBounds_toArray, List.set_cons_zero, List.set_cons_succ]
        refine wpAnyH_take (i := 10) (oi := _) (v := ?_) rfl (by kernel_rfl) (by kernel_rfl) (by kernel_rfl) (fun _ _ _ h => h) (Or.inl ⟨by rfl, ?_⟩) (by assumption) ?_
        rotate_left
        · intro w hSw; go_simp; with_reducible rfl
        simp only [Act.put, List.getElem_toArray, List.getElem_cons_zero, List.getElem_cons_succ, List.setIfInBounds_toArray, List.set_cons_zero, List.set_cons_succ]
        refine wpAnyH_ready (rs := [0, 6]) (by kernel_rfl) (by simp) ?_
        refine AllReadyH.cons rfl (fun K hK => ?_) ?_
        · skip
          have a1 := (hW.empty elFib 62 (WW.heap.size) rfl w.heap.size (by have := hW.bl.size; omega)).step (Cls.drew _)
          go_simp
          go_wp2_with fail
          refine hK.out _ _ (a1.drop 1) (fun hHeld => ?_)
          clear hK K
          try simp only [Act.put, List.getElem_toArray, List.getElem_cons_zero, List.getElem_cons_succ, List.setIfInBounds_toArray, List.set_cons_zero, List.set_cons_succ]
          refine wpAnyH_ready (rs := [4, 6]) (by kernel_rfl) (by simp) ?_
          refine AllReadyH.cons rfl (fun K hK => ?_) ?_
          · skip
            refine step_append_led rfl _ _ 25 rfl a1 0 rfl Try.underlying25 hj hy0 hy1 (by rw [hy2]; decide) rfl rfl rfl ((HN.out.grow a1.bl).take hk) (by simp; omega) a1.bl.size ?_
            intro B1 b1 v1 h1
            simp only [List.length_nil, Nat.zero_add, List.nil_append] at h1 ⊢
            rw [HT.out] at h1
            refine hK.out _ _ (h1.drop 1) (fun hHeld => ?_)
            clear hK K
            try simp only [Act.put, List.getElem_toArray, List.getElem_cons_zero, List.getElem_cons_succ, List.setIfInBounds_toArray, List.set_cons_zero, List.set_cons_succ]
            refine wpAnyH_ready (rs := [6]) (by kernel_rfl) (by simp) ?_
            refine AllReadyH.cons rfl (fun K hK => ?_) AllReadyH.nil
            have a2 := h1.blk_ v1.heap.size rfl 62 #[.int .i64 f.a, .int .i64 f.b, .int .i64 f.len, .int .i64 f.risk]
            go_simp
            go_wp2_with fail
            refine hK.out _ _ (a2.drop 2) (fun hHeld => ?_)
            clear hK K
            try simp only [Act.put, List.getElem_toArray, List.getElem_cons_zero, List.getElem_cons_succ, List.setIfInBounds_toArray, List.set_cons_zero, List.set_cons_succ]
            refine wpAnyH_ready (rs := [7]) (by kernel_rfl) (by simp) ?_
            refine AllReadyH.cons rfl (fun K hK => ?_) AllReadyH.nil
            refine step_append_led rfl _ _ 25 rfl a2 1 rfl Try.underlying25 hj hy0 hy1 (by rw [hy2]; decide) rfl rfl rfl (sees_fib (a2.get 0 rfl)) (by have := hTl.out; omega) a2.bl.size ?_
            intro B2 b2 v2 h2
            rw [HT2.out, hTl.out] at h2
            rw [hTl.out]
            refine hK.out _ _ (h2.drop 2) (fun hHeld => ?_)
            clear hK K
            try simp only [Act.put, List.getElem_toArray, List.getElem_cons_zero, List.getElem_cons_succ, List.setIfInBounds_toArray, List.set_cons_zero, List.set_cons_succ]
            refine wpAnyH_ready (rs := [11]) (by kernel_rfl) (by simp) ?_
            refine AllReadyH.cons rfl (fun K hK => ?_) AllReadyH.nil
            refine step_append_led rfl _ _ 25 rfl h2 1 rfl Try.underlying25 hj hy0 hy1 (by rw [hy2]; decide) rfl rfl rfl (Sees.nil elFib _ 0 _) (by have := hT2l.out; omega) h2.bl.size ?_
            intro B3 b3 v3 h3
            rw [hT2l.out, hkm1.out] at h3
            rw [hT2l.out, hkm1.out]
            refine hK.out _ _ (h3.drop 2) (fun hHeld => ?_)
            clear hK K
            try simp only [Act.put, List.getElem_toArray, List.getElem_cons_zero, List.getElem_cons_succ, List.setIfInBounds_toArray, List.set_cons_zero, List.set_cons_succ]
            refine wpAnyH_take (i := 12) (oi := _) (v := ?_) rfl (by kernel_rfl) (by kernel_rfl) (by kernel_rfl) (fun _ _ _ h => h) (Or.inl ⟨by rfl, ?_⟩) (by assumption) ?_
            rotate_left
            · intro w hSw; go_simp; with_reducible rfl
            simp only [Act.put, List.getElem_toArray, List.getElem_cons_zero, List.getElem_cons_succ, List.setIfInBounds_toArray, List.set_cons_zero, List.set_cons_succ]
            have HE := hid h3
            clear p0 p1 p2 p3 h1 h2 h3 hHeld
            refine wpAnyH_done (by kernel_rfl) ?_ _
            go_wp2_with fail
            go_ret
            exact ⟨B3, b3, _, rfl, HG.out.1, HG.out.2, HE.out.own 1 rfl, HE.out.bl⟩
          · skip
            refine AllReadyH.cons rfl (fun K hK => ?_) AllReadyH.nil
            have a2 := ((hW.empty elFib 62 (WW.heap.size) rfl w.heap.size (by have := hW.bl.size; omega)).blk_ (WW.heap.size + 1) (by simp) 62 #[.int .i64 f.a, .int .i64 f.b, .int .i64 f.len, .int .i64 f.risk]).step (Cls.drew _)
            go_simp
            go_wp2_with fail
            refine hK.out _ _ (a2.drop 2) (fun hHeld => ?_)
            clear hK K
            try simp only [Act.put, List.getElem_toArray, List.getElem_cons_zero, List.getElem_cons_succ, List.setIfInBounds_toArray, List.set_cons_zero, List.set_cons_succ]
            refine wpAnyH_ready (rs := [4]) (by kernel_rfl) (by simp) ?_
            refine AllReadyH.cons rfl (fun K hK => ?_) AllReadyH.nil
            refine step_append_led rfl _ _ 25 rfl a2 1 rfl Try.underlying25 hj hy0 hy1 (by rw [hy2]; decide) rfl rfl rfl ((HN.out.grow a2.bl).take hk) (by simp; omega) a2.bl.size ?_
            intro B1 b1 v1 h1
            simp only [List.length_nil, Nat.zero_add, List.nil_append] at h1 ⊢
            rw [HT.out] at h1
            refine hK.out _ _ (h1.drop 2) (fun hHeld => ?_)
            clear hK K
            try simp only [Act.put, List.getElem_toArray, List.getElem_cons_zero, List.getElem_cons_succ, List.setIfInBounds_toArray, List.set_cons_zero, List.set_cons_succ]
            refine wpAnyH_ready (rs := [7]) (by kernel_rfl) (by simp) ?_
            refine AllReadyH.cons rfl (fun K hK => ?_) AllReadyH.nil
            refine step_append_led rfl _ _ 25 rfl h1 1 rfl Try.underlying25 hj hy0 hy1 (by rw [hy2]; decide) rfl rfl rfl (sees_fib (h1.get 0 rfl)) (by have := hTl.out; omega) h1.bl.size ?_
            intro B2 b2 v2 h2
            rw [HT2.out, hTl.out] at h2
            rw [hTl.out]
            refine hK.out _ _ (h2.drop 2) (fun hHeld => ?_)
            clear hK K
            try simp only [Act.put, List.getElem_toArray, List.getElem_cons_zero, List.getElem_cons_succ, List.setIfInBounds_toArray, List.set_cons_zero, List.set_cons_succ]
            refine wpAnyH_ready (rs := [11]) (by kernel_rfl) (by simp) ?_
            refine AllReadyH.cons rfl (fun K hK => ?_) AllReadyH.nil
            refine step_append_led rfl _ _ 25 rfl h2 1 rfl Try.underlying25 hj hy0 hy1 (by rw [hy2]; decide) rfl rfl rfl (Sees.nil elFib _ 0 _) (by have := hT2l.out; omega) h2.bl.size ?_
            intro B3 b3 v3 h3
            rw [hT2l.out, hkm1.out] at h3
            rw [hT2l.out, hkm1.out]
            refine hK.out _ _ (h3.drop 2) (fun hHeld => ?_)
            clear hK K
            try simp only [Act.put, List.getElem_toArray, List.getElem_cons_zero, List.getElem_cons_succ, List.setIfInBounds_toArray, List.set_cons_zero, List.set_cons_succ]
            refine wpAnyH_take (i := 12) (oi := _) (v := ?_) rfl (by kernel_rfl) (by kernel_rfl) (by kernel_rfl) (fun _ _ _ h => h) (Or.inl ⟨by rfl, ?_⟩) (by assumption) ?_
            rotate_left
            · intro w hSw; go_simp; with_reducible rfl
            simp only [Act.put, List.getElem_toArray, List.getElem_cons_zero, List.getElem_cons_succ, List.setIfInBounds_toArray, List.set_cons_zero, List.set_cons_succ]
            have HE := hid h3
            clear p0 p1 p2 p3 h1 h2 h3 hHeld
            refine wpAnyH_done (by kernel_rfl) ?_ _
            go_wp2_with fail
            go_ret
            exact ⟨B3, b3, _, rfl, HG.out.1, HG.out.2, HE.out.own 1 rfl, HE.out.bl⟩
        · skip
          refine AllReadyH.cons rfl (fun K hK => ?_) AllReadyH.nil
          have a1 := (hW.blk_ WW.heap.size rfl 62 #[.int .i64 f.a, .int .i64 f.b, .int .i64 f.len, .int .i64 f.risk]).step (Cls.drew _)
          go_simp
          go_wp2_with fail
          refine hK.out _ _ (a1.drop 1) (fun hHeld => ?_)
          clear hK K
          try simp only [Act.put, List.getElem_toArray, List.getElem_cons_zero, List.getElem_cons_succ, List.setIfInBounds_toArray, List.set_cons_zero, List.set_cons_succ]
          refine wpAnyH_ready (rs := [0]) (by kernel_rfl) (by simp) ?_
          refine AllReadyH.cons rfl (fun K hK => ?_) AllReadyH.nil
          have a2 := ((hW.blk_ WW.heap.size rfl 62 #[.int .i64 f.a, .int .i64 f.b, .int .i64 f.len, .int .i64 f.risk]).empty elFib 62 (WW.heap.size + 1) (by simp) w.heap.size (by have := hW.bl.size; omega)).step (Cls.drew _)
          go_simp
          go_wp2_with fail
          refine hK.out _ _ (a2.drop 2) (fun hHeld => ?_)
          clear hK K
          try simp only [Act.put, List.getElem_toArray, List.getElem_cons_zero, List.getElem_cons_succ, List.setIfInBounds_toArray, List.set_cons_zero, List.set_cons_succ]
          refine wpAnyH_ready (rs := [4]) (by kernel_rfl) (by simp) ?_
          refine AllReadyH.cons rfl (fun K hK => ?_) AllReadyH.nil
          refine step_append_led rfl _ _ 25 rfl a2 0 rfl Try.underlying25 hj hy0 hy1 (by rw [hy2]; decide) rfl rfl rfl ((HN.out.grow a2.bl).take hk) (by simp; omega) a2.bl.size ?_
          intro B1 b1 v1 h1
          simp only [List.length_nil, Nat.zero_add, List.nil_append] at h1 ⊢
          rw [HT.out] at h1
          refine hK.out _ _ (h1.drop 2) (fun hHeld => ?_)
          clear hK K
          try simp only [Act.put, List.getElem_toArray, List.getElem_cons_zero, List.getElem_cons_succ, List.setIfInBounds_toArray, List.set_cons_zero, List.set_cons_succ]
          refine wpAnyH_ready (rs := [7]) (by kernel_rfl) (by simp) ?_
          refine AllReadyH.cons rfl (fun K hK => ?_) AllReadyH.nil
          refine step_append_led rfl _ _ 25 rfl h1 0 rfl Try.underlying25 hj hy0 hy1 (by rw [hy2]; decide) rfl rfl rfl (sees_fib (h1.get 1 rfl)) (by have := hTl.out; omega) h1.bl.size ?_
          intro B2 b2 v2 h2
          rw [HT2.out, hTl.out] at h2
          rw [hTl.out]
          refine hK.out _ _ (h2.drop 2) (fun hHeld => ?_)
          clear hK K
          try simp only [Act.put, List.getElem_toArray, List.getElem_cons_zero, List.getElem_cons_succ, List.setIfInBounds_toArray, List.set_cons_zero, List.set_cons_succ]
          refine wpAnyH_ready (rs := [11]) (by kernel_rfl) (by simp) ?_
          refine AllReadyH.cons rfl (fun K hK => ?_) AllReadyH.nil
          refine step_append_led rfl _ _ 25 rfl h2 0 rfl Try.underlying25 hj hy0 hy1 (by rw [hy2]; decide) rfl rfl rfl (Sees.nil elFib _ 0 _) (by have := hT2l.out; omega) h2.bl.size ?_
          intro B3 b3 v3 h3
          rw [hT2l.out, hkm1.out] at h3
          rw [hT2l.out, hkm1.out]
          refine hK.out _ _ (h3.drop 2) (fun hHeld => ?_)
          clear hK K
          try simp only [Act.put, List.getElem_toArray, List.getElem_cons_zero, List.getElem_cons_succ, List.setIfInBounds_toArray, List.set_cons_zero, List.set_cons_succ]
          refine wpAnyH_take (i := 12) (oi := _) (v := ?_) rfl (by kernel_rfl) (by kernel_rfl) (by kernel_rfl) (fun _ _ _ h => h) (Or.inl ⟨by rfl, ?_⟩) (by assumption) ?_
          rotate_left
          · intro w hSw; go_simp; with_reducible rfl
          simp only [Act.put, List.getElem_toArray, List.getElem_cons_zero, List.getElem_cons_succ, List.setIfInBounds_toArray, List.set_cons_zero, List.set_cons_succ]
          have HE := hid h3
          clear p0 p1 p2 p3 h1 h2 h3 hHeld
          refine wpAnyH_done (by kernel_rfl) ?_ _
          go_wp2_with fail
          go_ret
          exact ⟨B3, b3, _, rfl, HG.out.1, HG.out.2, HE.out.own 0 rfl, HE.out.bl⟩
      · skip
        replace HS := hid (HS.out.step hwz')
        clear E0 E1 E2 E3 hwz'
        obtain ⟨T, hT⟩ : ∃ T, T = fs.take k := ⟨_, rfl⟩
        have HT : Hid (fs.take k = T) := hT.symm
        have hTl : Hid (T.length = k) := by unfold Hid; rw [hT, List.length_take]; omega
        obtain ⟨T2, hT2⟩ : ∃ T2, T2 = T ++ [f] := ⟨_, rfl⟩
        have HT2 : Hid (T ++ [f] = T2) := hT2.symm
        have hT2l : Hid (T2.length = k + 1) := by unfold Hid; rw [hT2, List.length_append, hTl.out]; rfl
        have hkm1 : Hid (k + 1 + 0 = m + 1) := by unfold Hid; have := HKM.out; omega
        have hmk : m - k = 0 := by have := HKM.out; omega
        have HG : Hid ((T2 ++ ([] : List Fib)).length = m + 1 ∧ ∀ x ∈ T2 ++ ([] : List Fib), smallF x) := by
          refine ⟨by rw [List.length_append, hT2l.out]; exact hkm1.out, fun x hx => ?_⟩
          rcases List.mem_append.1 hx with hx | hx
          · rw [hT2] at hx
            rcases List.mem_append.1 hx with hx | hx
            · rw [hT] at hx; exact hsx.out x (List.mem_of_mem_take hx)
            · rw [List.mem_singleton.1 hx]; exact hsf.out
          · cases hx
        clear hT hT2
        have hW := HS.out
        go_wp2_with fail
        obtain ⟨WW, hWW⟩ : ∃ WW, WW = wz := ⟨_, rfl⟩
        rw [← hWW] at hW ⊢
        clear HS hWW
        have p0 : ∀ w', Led w w' [tBlk w.heap.size 62 #[.int .i64 f.a, .int .i64 f.b, .int .i64 f.len, .int .i64 f.risk]] → w'.cell? ⟨w.heap.size, 0, none⟩ = some (.int .i64 f.a) := fun _ h => h.cell 0 0 rfl rfl
        have p1 : ∀ w', Led w w' [tBlk w.heap.size 62 #[.int .i64 f.a, .int .i64 f.b, .int .i64 f.len, .int .i64 f.risk]] → w'.cell? ⟨w.heap.size, 1, none⟩ = some (.int .i64 f.b) := fun _ h => h.cell 0 1 rfl rfl
        have p2 : ∀ w', Led w w' [tBlk w.heap.size 62 #[.int .i64 f.a, .int .i64 f.b, .int .i64 f.len, .int .i64 f.risk]] → w'.cell? ⟨w.heap.size, 2, none⟩ = some (.int .i64 f.len) := fun _ h => h.cell 0 2 rfl rfl
        have p3 : ∀ w', Led w w' [tBlk w.heap.size 62 #[.int .i64 f.a, .int .i64 f.b, .int .i64 f.len, .int .i64 f.risk]] → w'.cell? ⟨w.heap.size, 3, none⟩ = some (.int .i64 f.risk) := fun _ h => h.cell 0 3 rfl rfl
        refine wp_region_held_drew (S := fun w' => Led w w' [tBlk w.heap.size 62 #[.int .i64 f.a, .int .i64 f.b, .int .i64 f.len, .int .i64 f.risk]]) (by kernel_rfl) (hW.step (Cls.drew _)) (fun hHeld => ?_)
        refine wpAnyH_take (i := 1) (oi := _) (v := ?_) rfl (by kernel_rfl) (by kernel_rfl) (by kernel_rfl) (fun _ _ _ h => h) (Or.inl ⟨by rfl, ?_⟩) (by assumption) ?_
        rotate_left
        · intro w hSw; go_simp; with_reducible rfl
        simp only [Act.put, List.getElem_toArray, List.getElem_cons_zero, List.getElem_cons_succ, List.setIfInBounds_toArray, List.set_cons_zero, List.set_cons_succ]
        refine wpAnyH_take (i := 2) (oi := _) (v := ?_) rfl (by kernel_rfl) (by kernel_rfl) (by kernel_rfl) (fun _ _ _ h => h) (Or.inl ⟨by rfl, ?_⟩) (by assumption) ?_
        rotate_left
        · intro w hSw; go_simp; with_reducible rfl
        simp only [Act.put, List.getElem_toArray, List.getElem_cons_zero, List.getElem_cons_succ, List.setIfInBounds_toArray, List.set_cons_zero, List.set_cons_succ]
        refine wpAnyH_take (i := 3) (oi := _) (v := ?_) rfl (by kernel_rfl) (by kernel_rfl) (by kernel_rfl) (fun _ _ _ h => h) (Or.inl ⟨by rfl, ?_⟩) (by assumption) ?_
        rotate_left
        · intro w hSw; go_simp; with_reducible rfl
        simp only [Act.put, List.getElem_toArray, List.getElem_cons_zero, List.getElem_cons_succ, List.setIfInBounds_toArray, List.set_cons_zero, List.set_cons_succ]
        refine wpAnyH_take (i := 5) (oi := _) (v := ?_) rfl (by kernel_rfl) (by kernel_rfl) (by kernel_rfl) (fun _ _ _ h => h) (Or.inl ⟨by rfl, ?_⟩) (by assumption) ?_
        rotate_left
        · intro w hSw; go_simp; with_reducible rfl
        simp only [Act.put, List.getElem_toArray, List.getElem_cons_zero, List.getElem_cons_succ, List.setIfInBounds_toArray, List.set_cons_zero, List.set_cons_succ]
        refine wpAnyH_take (i := 8) (oi := _) (v := ?_) rfl (by kernel_rfl) (by kernel_rfl) (by kernel_rfl) (fun _ _ _ h => h) (Or.inl ⟨by rfl, ?_⟩) (by assumption) ?_
        rotate_left
        · intro w hSw; go_simp; with_reducible rfl
        simp only [Act.put, List.getElem_toArray, List.getElem_cons_zero, List.getElem_cons_succ, List.setIfInBounds_toArray, List.set_cons_zero, List.set_cons_succ]
        refine wpAnyH_take (i := 9) (oi := _) (v := ?_) rfl (by kernel_rfl) (by kernel_rfl) (by kernel_rfl) (fun _ _ _ h => h) (Or.inl ⟨by rfl, ?_⟩) (by assumption) ?_
        rotate_left
        · intro w hSw; go_simp; with_reducible rfl
        simp only [Act.put, List.getElem_toArray, List.getElem_cons_zero, List.getElem_cons_succ, List.setIfInBounds_toArray, List.set_cons_zero, List.set_cons_succ]
        refine wpAnyH_take (i := 10) (oi := _) (v := ?_) rfl (by kernel_rfl) (by kernel_rfl) (by kernel_rfl) (fun _ _ _ h => h) (Or.inl ⟨by rfl, ?_⟩) (by assumption) ?_
        rotate_left
        · intro w hSw; go_simp; with_reducible rfl
        simp only [Act.put, List.getElem_toArray, List.getElem_cons_zero, List.getElem_cons_succ, List.setIfInBounds_toArray, List.set_cons_zero, List.set_cons_succ]
        refine wpAnyH_ready (rs := [0, 6]) (by kernel_rfl) (by simp) ?_
        refine AllReadyH.cons rfl (fun K hK => ?_) ?_
        · skip
          have a1 := (hW.empty elFib 62 (WW.heap.size) rfl w.heap.size (by have := hW.bl.size; omega)).step (Cls.drew _)
          go_simp
          go_wp2_with fail
          refine hK.out _ _ (a1.drop 1) (fun hHeld => ?_)
          clear hK K
          try simp only [Act.put, List.getElem_toArray, List.getElem_cons_zero, List.getElem_cons_succ, List.setIfInBounds_toArray, List.set_cons_zero, List.set_cons_succ]
          refine wpAnyH_ready (rs := [4, 6]) (by kernel_rfl) (by simp) ?_
          refine AllReadyH.cons rfl (fun K hK => ?_) ?_
          · skip
            refine step_append_led rfl _ _ 25 rfl a1 0 rfl Try.underlying25 hj hy0 hy1 (by rw [hy2]; decide) rfl rfl rfl ((HN.out.grow a1.bl).take hk) (by simp; omega) a1.bl.size ?_
            intro B1 b1 v1 h1
            simp only [List.length_nil, Nat.zero_add, List.nil_append] at h1 ⊢
            rw [HT.out] at h1
            refine hK.out _ _ (h1.drop 1) (fun hHeld => ?_)
            clear hK K
            try simp only [Act.put, List.getElem_toArray, List.getElem_cons_zero, List.getElem_cons_succ, List.setIfInBounds_toArray, List.set_cons_zero, List.set_cons_succ]
            refine wpAnyH_ready (rs := [6]) (by kernel_rfl) (by simp) ?_
            refine AllReadyH.cons rfl (fun K hK => ?_) AllReadyH.nil
            have a2 := h1.blk_ v1.heap.size rfl 62 #[.int .i64 f.a, .int .i64 f.b, .int .i64 f.len, .int .i64 f.risk]
            go_simp
            go_wp2_with fail
            refine hK.out _ _ (a2.drop 2) (fun hHeld => ?_)
            clear hK K
            try simp only [Act.put, List.getElem_toArray, List.getElem_cons_zero, List.getElem_cons_succ, List.setIfInBounds_toArray, List.set_cons_zero, List.set_cons_succ]
            refine wpAnyH_ready (rs := [7]) (by kernel_rfl) (by simp) ?_
            refine AllReadyH.cons rfl (fun K hK => ?_) AllReadyH.nil
            refine step_append_led rfl _ _ 25 rfl a2 1 rfl Try.underlying25 hj hy0 hy1 (by rw [hy2]; decide) rfl rfl rfl (sees_fib (a2.get 0 rfl)) (by have := hTl.out; omega) a2.bl.size ?_
            intro B2 b2 v2 h2
            rw [HT2.out, hTl.out] at h2
            rw [hTl.out]
            refine hK.out _ _ (h2.drop 2) (fun hHeld => ?_)
            clear hK K
            try simp only [Act.put, List.getElem_toArray, List.getElem_cons_zero, List.getElem_cons_succ, List.setIfInBounds_toArray, List.set_cons_zero, List.set_cons_succ]
            refine wpAnyH_ready (rs := [11]) (by kernel_rfl) (by simp) ?_
            refine AllReadyH.cons rfl (fun K hK => ?_) AllReadyH.nil
            refine step_append_led rfl _ _ 25 rfl h2 1 rfl Try.underlying25 hj hy0 hy1 (by rw [hy2]; decide) rfl rfl rfl (Sees.nil elFib _ 0 _) (by have := hT2l.out; omega) h2.bl.size ?_
            intro B3 b3 v3 h3
            rw [hT2l.out, hkm1.out] at h3
            rw [hT2l.out, hkm1.out]
            refine hK.out _ _ (h3.drop 2) (fun hHeld => ?_)
            clear hK K
            try simp only [Act.put, List.getElem_toArray, List.getElem_cons_zero, List.getElem_cons_succ, List.setIfInBounds_toArray, List.set_cons_zero, List.set_cons_succ]
            refine wpAnyH_take (i := 12) (oi := _) (v := ?_) rfl (by kernel_rfl) (by kernel_rfl) (by kernel_rfl) (fun _ _ _ h => h) (Or.inl ⟨by rfl, ?_⟩) (by assumption) ?_
            rotate_left
            · intro w hSw; go_simp; with_reducible rfl
            simp only [Act.put, List.getElem_toArray, List.getElem_cons_zero, List.getElem_cons_succ, List.setIfInBounds_toArray, List.set_cons_zero, List.set_cons_succ]
            have HE := hid h3
            clear p0 p1 p2 p3 h1 h2 h3 hHeld
            refine wpAnyH_done (by kernel_rfl) ?_ _
            go_wp2_with fail
            go_ret
            exact ⟨B3, b3, _, rfl, HG.out.1, HG.out.2, HE.out.own 1 rfl, HE.out.bl⟩
          · skip
            refine AllReadyH.cons rfl (fun K hK => ?_) AllReadyH.nil
            have a2 := ((hW.empty elFib 62 (WW.heap.size) rfl w.heap.size (by have := hW.bl.size; omega)).blk_ (WW.heap.size + 1) (by simp) 62 #[.int .i64 f.a, .int .i64 f.b, .int .i64 f.len, .int .i64 f.risk]).step (Cls.drew _)
            go_simp
            go_wp2_with fail
            refine hK.out _ _ (a2.drop 2) (fun hHeld => ?_)
            clear hK K
            try simp only [Act.put, List.getElem_toArray, List.getElem_cons_zero, List.getElem_cons_succ, List.setIfInBounds_toArray, List.set_cons_zero, List.set_cons_succ]
            refine wpAnyH_ready (rs := [4]) (by kernel_rfl) (by simp) ?_
            refine AllReadyH.cons rfl (fun K hK => ?_) AllReadyH.nil
            refine step_append_led rfl _ _ 25 rfl a2 1 rfl Try.underlying25 hj hy0 hy1 (by rw [hy2]; decide) rfl rfl rfl ((HN.out.grow a2.bl).take hk) (by simp; omega) a2.bl.size ?_
            intro B1 b1 v1 h1
            simp only [List.length_nil, Nat.zero_add, List.nil_append] at h1 ⊢
            rw [HT.out] at h1
            refine hK.out _ _ (h1.drop 2) (fun hHeld => ?_)
            clear hK K
            try simp only [Act.put, List.getElem_toArray, List.getElem_cons_zero, List.getElem_cons_succ, List.setIfInBounds_toArray, List.set_cons_zero, List.set_cons_succ]
            refine wpAnyH_ready (rs := [7]) (by kernel_rfl) (by simp) ?_
            refine AllReadyH.cons rfl (fun K hK => ?_) AllReadyH.nil
            refine step_append_led rfl _ _ 25 rfl h1 1 rfl Try.underlying25 hj hy0 hy1 (by rw [hy2]; decide) rfl rfl rfl (sees_fib (h1.get 0 rfl)) (by have := hTl.out; omega) h1.bl.size ?_
            intro B2 b2 v2 h2
            rw [HT2.out, hTl.out] at h2
            rw [hTl.out]
            refine hK.out _ _ (h2.drop 2) (fun hHeld => ?_)
            clear hK K
            try simp only [Act.put, List.getElem_toArray, List.getElem_cons_zero, List.getElem_cons_succ, List.setIfInBounds_toArray, List.set_cons_zero, List.set_cons_succ]
            refine wpAnyH_ready (rs := [11]) (by kernel_rfl) (by simp) ?_
            refine AllReadyH.cons rfl (fun K hK => ?_) AllReadyH.nil
            refine step_append_led rfl _ _ 25 rfl h2 1 rfl Try.underlying25 hj hy0 hy1 (by rw [hy2]; decide) rfl rfl rfl (Sees.nil elFib _ 0 _) (by have := hT2l.out; omega) h2.bl.size ?_
            intro B3 b3 v3 h3
            rw [hT2l.out, hkm1.out] at h3
            rw [hT2l.out, hkm1.out]
            refine hK.out _ _ (h3.drop 2) (fun hHeld => ?_)
            clear hK K
            try simp only [Act.put, List.getElem_toArray, List.getElem_cons_zero, List.getElem_cons_succ, List.setIfInBounds_toArray, List.set_cons_zero, List.set_cons_succ]
            refine wpAnyH_take (i := 12) (oi := _) (v := ?_) rfl (by kernel_rfl) (by kernel_rfl) (by kernel_rfl) (fun _ _ _ h => h) (Or.inl ⟨by rfl, ?_⟩) (by assumption) ?_
            rotate_left
            · intro w hSw; go_simp; with_reducible rfl
            simp only [Act.put, List.getElem_toArray, List.getElem_cons_zero, List.getElem_cons_succ, List.setIfInBounds_toArray, List.set_cons_zero, List.set_cons_succ]
            have HE := hid h3
            clear p0 p1 p2 p3 h1 h2 h3 hHeld
            refine wpAnyH_done (by kernel_rfl) ?_ _
            go_wp2_with fail
            go_ret
            exact ⟨B3, b3, _, rfl, HG.out.1, HG.out.2, HE.out.own 1 rfl, HE.out.bl⟩
        · skip
          refine AllReadyH.cons rfl (fun K hK => ?_) AllReadyH.nil
          have a1 := (hW.blk_ WW.heap.size rfl 62 #[.int .i64 f.a, .int .i64 f.b, .int .i64 f.len, .int .i64 f.risk]).step (Cls.drew _)
          go_simp
          go_wp2_with fail
          refine hK.out _ _ (a1.drop 1) (fun hHeld => ?_)
          clear hK K
          try simp only [Act.put, List.getElem_toArray, List.getElem_cons_zero, List.getElem_cons_succ, List.setIfInBounds_toArray, List.set_cons_zero, List.set_cons_succ]
          refine wpAnyH_ready (rs := [0]) (by kernel_rfl) (by simp) ?_
          refine AllReadyH.cons rfl (fun K hK => ?_) AllReadyH.nil
          have a2 := ((hW.blk_ WW.heap.size rfl 62 #[.int .i64 f.a, .int .i64 f.b, .int .i64 f.len, .int .i64 f.risk]).empty elFib 62 (WW.heap.size + 1) (by simp) w.heap.size (by have := hW.bl.size; omega)).step (Cls.drew _)
          go_simp
          go_wp2_with fail
          refine hK.out _ _ (a2.drop 2) (fun hHeld => ?_)
          clear hK K
          try simp only [Act.put, List.getElem_toArray, List.getElem_cons_zero, List.getElem_cons_succ, List.setIfInBounds_toArray, List.set_cons_zero, List.set_cons_succ]
          refine wpAnyH_ready (rs := [4]) (by kernel_rfl) (by simp) ?_
          refine AllReadyH.cons rfl (fun K hK => ?_) AllReadyH.nil
          refine step_append_led rfl _ _ 25 rfl a2 0 rfl Try.underlying25 hj hy0 hy1 (by rw [hy2]; decide) rfl rfl rfl ((HN.out.grow a2.bl).take hk) (by simp; omega) a2.bl.size ?_
          intro B1 b1 v1 h1
          simp only [List.length_nil, Nat.zero_add, List.nil_append] at h1 ⊢
          rw [HT.out] at h1
          refine hK.out _ _ (h1.drop 2) (fun hHeld => ?_)
          clear hK K
          try simp only [Act.put, List.getElem_toArray, List.getElem_cons_zero, List.getElem_cons_succ, List.setIfInBounds_toArray, List.set_cons_zero, List.set_cons_succ]
          refine wpAnyH_ready (rs := [7]) (by kernel_rfl) (by simp) ?_
          refine AllReadyH.cons rfl (fun K hK => ?_) AllReadyH.nil
          refine step_append_led rfl _ _ 25 rfl h1 0 rfl Try.underlying25 hj hy0 hy1 (by rw [hy2]; decide) rfl rfl rfl (sees_fib (h1.get 1 rfl)) (by have := hTl.out; omega) h1.bl.size ?_
          intro B2 b2 v2 h2
          rw [HT2.out, hTl.out] at h2
          rw [hTl.out]
          refine hK.out _ _ (h2.drop 2) (fun hHeld => ?_)
          clear hK K
          try simp only [Act.put, List.getElem_toArray, List.getElem_cons_zero, List.getElem_cons_succ, List.setIfInBounds_toArray, List.set_cons_zero, List.set_cons_succ]
          refine wpAnyH_ready (rs := [11]) (by kernel_rfl) (by simp) ?_
          refine AllReadyH.cons rfl (fun K hK => ?_) AllReadyH.nil
          refine step_append_led rfl _ _ 25 rfl h2 0 rfl Try.underlying25 hj hy0 hy1 (by rw [hy2]; decide) rfl rfl rfl (Sees.nil elFib _ 0 _) (by have := hT2l.out; omega) h2.bl.size ?_
          intro B3 b3 v3 h3
          rw [hT2l.out, hkm1.out] at h3
          rw [hT2l.out, hkm1.out]
          refine hK.out _ _ (h3.drop 2) (fun hHeld => ?_)
          clear hK K
          try simp only [Act.put, List.getElem_toArray, List.getElem_cons_zero, List.getElem_cons_succ, List.setIfInBounds_toArray, List.set_cons_zero, List.set_cons_succ]
          refine wpAnyH_take (i := 12) (oi := _) (v := ?_) rfl (by kernel_rfl) (by kernel_rfl) (by kernel_rfl) (fun _ _ _ h => h) (Or.inl ⟨by rfl, ?_⟩) (by assumption) ?_
          rotate_left
          · intro w hSw; go_simp; with_reducible rfl
          simp only [Act.put, List.getElem_toArray, List.getElem_cons_zero, List.getElem_cons_succ, List.setIfInBounds_toArray, List.set_cons_zero, List.set_cons_succ]
          have HE := hid h3
          clear p0 p1 p2 p3 h1 h2 h3 hHeld
          refine wpAnyH_done (by kernel_rfl) ?_ _
          go_wp2_with fail
          go_ret
          exact ⟨B3, b3, _, rfl, HG.out.1, HG.out.2, HE.out.own 0 rfl, HE.out.bl⟩
end
end Go.Proofs.Ytfepilpllfiegaa
/- How an argument that can be read is opened: strings, slices, networks, routes. Conditions: none. -/
namespace Go.Proofs.Ytfepilpllfiegaa
open Go.ChangeShapes Go.WideShapes Go.ChangeAt Go.RowKit Go.Deep
theorem i64_bd {n : Int} (h : (Lit.int .i64 n).wf = true) : -9223372036854775808 ≤ n ∧ n ≤ 9223372036854775807 := by
  simp [Lit.wf, IntKind.min, IntKind.max, IntKind.signed, IntKind.bits] at h; omega
section
variable {H : Type} {enc : TypeId × Value → H} {P : Program} {W : World} {spare : Nat → Bool} {held : Bool}
/-- A slice whose elements' cells are known. -/
theorem open_sl {α : Type} (E : El α) {t e : TypeId} {fuel : Nat} {cs : List Value} {x : DataW H × List MemPlace} (good : α → Prop) (ht : P.underlying t = some (.slice e)) (hsz : P.cellsOf e = E.sz)
    (hel : ∀ fuel cs y, DataW.trod enc P W 0 spare held fuel e cs = some y → ∃ a, cs = E.cells a ∧ good a)
    (h : DataW.trod enc P W 0 spare held fuel t cs = some x) :
    ∃ A n c xs, cs = [.slice A n c] ∧ n ≤ c ∧ c ≤ maxLen ∧ Sees E W W.heap.size A n xs ∧ ∀ a ∈ xs, good a := by
  rcases open_slice ht h with ⟨h0, _⟩ | ⟨a, len, cap, m, k, D, Pl, hcs, _, hl, hm, hmm, _, hi⟩
  · exact ⟨none, 0, 0, [], h0, Nat.le_refl _, Nat.zero_le _, Sees.nil _ _ _ _, fun _ h => by cases h⟩
  · have hlm : len ≤ m := by rw [hmm]; split <;> omega
    have key : ∀ i : Nat, i < len → ∃ y : α, good y ∧ ∀ j u, (E.cells y)[j]? = some u → W.cell? (a.add (i * E.sz + j)) = some u := by
      intro i hlt
      obtain ⟨cs', hc, htr⟩ := hi i (by omega)
      obtain ⟨y, rfl, hg⟩ := hel _ _ _ htr
      obtain ⟨_, hlen, hat⟩ := World.cells?_some hc
      refine ⟨y, hg, fun j u hu => ?_⟩
      have hj : j < P.cellsOf e := by rw [hsz, ← E.len y]; exact (List.getElem?_eq_some_iff.1 hu).1
      have := hat j hj
      rw [add_add, hsz] at this
      rw [this, hu]
    rcases Nat.eq_zero_or_pos len with h0 | h0
    · subst h0
      exact ⟨some a, 0, cap, [], hcs, hl, hm, Sees.nil _ _ _ _, fun _ h => by cases h⟩
    · have hspot : a.spot = none := by
        obtain ⟨y, _, hy⟩ := key 0 h0
        have hpos := E.pos
        have hlen := E.len y
        have h1 := hy 0 ((E.cells y)[0]'(by omega)) (List.getElem?_eq_getElem (by omega))
        simp only [Nat.zero_mul, Nat.zero_add] at h1
        rw [show a.add 0 = a by simp [Addr.add]] at h1
        unfold World.cell? at h1
        split at h1
        · split at h1
          · cases h1
          · rename_i hs; simpa using hs
        · cases h1
      obtain ⟨y0, _, _⟩ := key 0 h0
      have : Inhabited α := ⟨y0⟩
      obtain ⟨f, hf⟩ := choose_lt key
      refine ⟨some a, len, cap, (List.range len).map f, hcs, hl, hm, ⟨by simp, .inr ⟨a.block, a.off, by cases a; simp_all, ?_, ?_⟩⟩, ?_⟩
      · obtain ⟨_, hy⟩ := hf 0 h0
        have hpos := E.pos
        have hlen := E.len (f 0)
        have h1 := hy 0 ((E.cells (f 0))[0]'(by omega)) (List.getElem?_eq_getElem (by omega))
        have := World.block_lt_of_cell? W _ h1
        simp only [Addr.add] at this
        split at this <;> simpa using this
      · intro k x hx j u hu
        have hk : k < len := by have := (List.getElem?_eq_some_iff.1 hx).1; simpa using this
        have hx' : f k = x := by simpa [List.getElem?_map, List.getElem?_range, hk] using hx
        have := (hf k hk).2 j u (by rw [hx']; exact hu)
        rw [← this]
        unfold Addr.add
        split
        · rename_i h00; rw [Nat.add_assoc, h00, Nat.add_zero]; cases a; simp_all
        · rw [Nat.add_assoc]
      · intro x hx
        obtain ⟨i, hi, rfl⟩ := List.mem_map.1 hx
        exact (hf i (by simpa using hi)).1
/-- A slice that came in. -/
def SlArg {α : Type} (E : El α) (W : World) (A : Option Addr) (n c : Nat) (xs : List α) (good : α → Prop) : Prop := n ≤ c ∧ c ≤ maxLen ∧ Sees E W W.heap.size A n xs ∧ ∀ a ∈ xs, good a
theorem open_sl_val {α : Type} (E : El α) {t e : TypeId} {base : Nat} {v : Value} {d : DataW H} {p : List MemPlace} (good : α → Prop) (ht : P.underlying t = some (.slice e)) (hsz : P.cellsOf e = E.sz)
    (hel : ∀ fuel cs y, DataW.trod enc P W 0 spare held fuel e cs = some y → ∃ a, cs = E.cells a ∧ good a)
    (hv : Value.okWide P W .any base t v) (h : DataW.Trod enc P W 0 spare held t v d p) : ∃ A n c xs, v = .slice A n c ∧ SlArg E W A n c xs good := by
  obtain ⟨a, len, cap, rfl⟩ := okWide_slice ht hv
  obtain ⟨fuel, h⟩ := h
  obtain ⟨A, n, c, xs, e, h1, h2, h3, h4⟩ := open_sl E good ht hsz hel h
  exact ⟨A, n, c, xs, by simpa [Value.cells] using e, h1, h2, h3, h4⟩
theorem el_int {e : TypeId} (he : P.underlying e = some (.int .i64)) (fuel : Nat) (cs : List Value) (y : DataW H × List MemPlace) (h : DataW.trod enc P W 0 spare held fuel e cs = some y) :
    ∃ a, cs = elInt.cells a ∧ (-9223372036854775808 ≤ a ∧ a ≤ 9223372036854775807) := by
  obtain ⟨n, rfl, _, hw⟩ := DataW.trod_int he h
  exact ⟨n, rfl, i64_bd hw⟩
theorem el_str {e : TypeId} (he : P.underlying e = some .string) (fuel : Nat) (cs : List Value) (y : DataW H × List MemPlace) (h : DataW.trod enc P W 0 spare held fuel e cs = some y) :
    ∃ a, cs = elStr.cells a ∧ a.size ≤ maxLen := by
  obtain ⟨n, rfl, _, hw⟩ := DataW.trod_string he h
  exact ⟨n, rfl, hw⟩
end
end Go.Proofs.Ytfepilpllfiegaa
/- A list of bytes that came in. Conditions: none. -/
namespace Go.Proofs.Ytfepilpllfiegaa
open Go.ChangeShapes Go.WideShapes Go.ChangeAt Go.RowKit Go.Deep
/-- A byte in memory. -/
def elU : El Int := ⟨1, fun x => [.int .u8 x], fun _ => rfl, by decide, fun _ u h => by simp at h; subst h; rfl⟩
theorem cellsU : Try.prog.cellsOf 5 = elU.sz := by kernel_rfl
theorem u8_bd {n : Int} (h : (Lit.int .u8 n).wf = true) : 0 ≤ n ∧ n ≤ 255 := by
  simp [Lit.wf, IntKind.min, IntKind.max, IntKind.signed, IntKind.bits] at h; omega
section
variable {H : Type} {enc : TypeId × Value → H} {P : Program} {W : World} {spare : Nat → Bool} {held : Bool}
theorem el_u8 {e : TypeId} (he : P.underlying e = some (.int .u8)) (fuel : Nat) (cs : List Value) (y : DataW H × List MemPlace) (h : DataW.trod enc P W 0 spare held fuel e cs = some y) :
    ∃ a, cs = elU.cells a ∧ (0 ≤ a ∧ a ≤ 255) := by
  obtain ⟨n, rfl, _, hw⟩ := DataW.trod_int he h
  exact ⟨n, rfl, u8_bd hw⟩
/-- The bytes that a law draws from. -/
def BytesArg (W : World) (A : Option Addr) (n c : Nat) (xs : List Int) : Prop := SlArg elU W A n c xs (fun a => 0 ≤ a ∧ a ≤ 255)
set_option maxRecDepth 100000 in
theorem open_bytes {base : Nat} {v : Value} {d : DataW H} {p : List MemPlace} (hv : Value.okWide Try.prog W .any base 22 v) (h : DataW.Trod enc Try.prog W 0 spare held 22 v d p) :
    ∃ A n c xs, v = .slice A n c ∧ BytesArg W A n c xs :=
  open_sl_val elU _ Try.underlying22 cellsU (el_u8 Try.underlying5) hv h
end
end Go.Proofs.Ytfepilpllfiegaa
