/- Lemmas and walks that the claim rests on, laid together. Conditions: none. -/
import Derived.Test.YtjfafhehpfjofaaGreatZ7aaac240a832
/- l5Distances, walked. Conditions: the network's valid parts. -/
namespace Go.Proofs.YtjfafhehpfjofaaGreat
open Go.RowKit
section
variable {n c m d : Nat} {A A' : Option Addr} {xs : List ByteArray} {fs : List Fib}
/-- -1 in the first k places, then 0. -/
def negTo (n k : Nat) : List Int := List.replicate k (-1) ++ List.replicate (n - k) 0
theorem negTo_len {n k : Nat} (h : k ≤ n) : (negTo n k).length = n := by unfold negTo; simp; omega
theorem negTo_set {n k : Nat} (h : k < n) : (negTo n k).set k (-1) = negTo n (k + 1) := by
  unfold negTo
  rw [List.set_append_right _ _ (by simp), List.length_replicate, Nat.sub_self, show n - k = (n - (k + 1)) + 1 by omega, List.replicate_succ, List.set_cons_zero, List.replicate_succ', List.append_assoc]
  rfl
theorem Led.zeros {w0 w : World} {L : List Thing} (h : Led w0 w L) (n : Nat) (hn : n ≤ maxLen) (b0 : Nat) (hb0 : b0 ≤ w.heap.size) :
    Led w0 (w.alloc (.cells (madeCells #[.int .i64 0] n) 3)) (tOwns elInt b0 3 (.slice (some ⟨w.heap.size, 0, none⟩) n n) (List.replicate n 0) :: L) := by
  refine h.owns_ (b0 := b0) (bl_alloc (Below.refl _ _) _) ?_ (Nat.le_refl _) hb0
  refine Owns.of_filled (Blk.new w 3 (madeCells #[.int .i64 0] n)) (Nat.le_refl _) (by simp) (by rw [size_madeCells]; exact (Nat.mul_one _).symm) hn (fun j x hj hx i u hu => ?_)
  have hu' : [Value.int .i64 x][i]? = some u := hu
  match i, hu' with
  | 0, hu' =>
    simp at hu'; subst hu'
    have e : j * elInt.sz + 0 = j := by show j * 1 + 0 = j; omega
    rw [List.getElem?_replicate, if_pos hj] at hx
    injection hx with hx; subst hx
    rw [e, ← Array.getElem?_toList, toList_madeCells_one, List.getElem?_replicate, if_pos hj]
  | i + 1, hu' => simp at hu'
set_option maxHeartbeats 8000000 in
set_option maxRecDepth 100000 in
theorem l5Distances_any {B k c' : Nat} {G : Option Addr} {l : List Int} (s : Nat) (w : World) (h : NetIs w A n c A' m d xs fs) (hv : Sees elInt w B G k l) (hkb : k ≤ 1048576) (he : endsB n fs) (hl5 : lens5 fs) (hs : s < n) (hn8 : n ≤ 8) (hm14 : m ≤ 14) :
    Calls Tryz.prog 46 #[.agg #[.slice A n c, .slice A' m d], .int .i64 (s : Int), .slice G k c'] w fun e w' => ∃ v, e = .returned v ∧ Owns elInt w' w.heap.size 3 v (distL (goneF l) fs n s) ∧ Below w.heap.size w w' := by
  obtain ⟨i0, hi, hz0, hz1, hz2⟩ := info_parts int_info
  have hmk := fun W => make_n (P := Tryz.prog) Tryz.underlying28 hi hz0 (n := n) (by rw [hz2]; omega) (by omega) W
  rw [hz1] at hmk
  clear hi hz0 hz1 hz2
  have hlf := hid h.flen
  have HE := hid he
  have HL5 := hid hl5
  have HLB := hid (lens5_pos hl5)
  have HF := hid h
  have HV := hid hv
  have hS0 := (Led.nil w).blk_ w.heap.size rfl 27 #[.slice A n c, .slice A' m d]
  have q0 := hS0.cell 0 0 rfl rfl
  have hS := hS0.zeros n (by unfold maxLen; omega) w.heap.size hS0.bl.size
  have hsz : (w.alloc (.cells #[.slice A n c, .slice A' m d] 27)).heap.size = w.heap.size + 1 := by simp
  rw [hsz] at hS
  have HS : Hid (Led w ((w.alloc (.cells #[.slice A n c, .slice A' m d] 27)).alloc (.cells (madeCells #[.int .i64 0] n) 3)) [tOwns elInt w.heap.size 3 (.slice (some ⟨w.heap.size + 1, 0, none⟩) n n) (negTo n 0), tBlk w.heap.size 27 #[.slice A n c, .slice A' m d]]) := by
    have e : negTo n 0 = List.replicate n 0 := by unfold negTo; simp
    rw [e]; exact hS
  clear he h hl5 hv hS0 hS hsz
  obtain ⟨g, hg⟩ : ∃ g, g = w.heap.size + 1 := ⟨_, rfl⟩
  have HG := hid hg
  rw [← hg] at HS
  clear hg
  go_enter Tryz.func46, Tryz.ntmps46
  go_wp2_with fail
  rw [← HG.out]
  clear q0
  go_loopw [8] (fun i wr => ∃ k : Nat, k ≤ n ∧ i = .int .i64 k ∧ Hid (Led w wr [tOwns elInt w.heap.size 3 (.slice (some ⟨g, 0, none⟩) n n) (negTo n k), tBlk w.heap.size 27 #[.slice A n c, .slice A' m d]])) (fun i _ => n - (intOf i).toNat)
  case atStart => exact ⟨0, Nat.zero_le _, rfl, HS⟩
  case round =>
    clear HS
    obtain ⟨p, hp, rfl, HS⟩ := hrel
    by_cases hlt : p < n
    · have v0 := HS.out.int_at 0 rfl (j := p) (by rw [negTo_len hp]; exact hlt)
      have y0 := HS.out.int_free 0 rfl p
      have hS1 := HS.out.int_set 0 rfl (j := p) (by rw [negTo_len hp]; exact hlt) (-1)
      rw [negTo_set hlt] at hS1
      have HS1 := hid hS1
      have ip : (p : Int) < (n : Int) := by omega
      clear hS1 HS
      go_wp2
      go_roundw
      case rel => exact ⟨p + 1, by omega, by go_num, HS1⟩
      case measure => simp [intOf]; omega
    · have hpn : p = n := by omega
      have hz : (negTo n p).set s 0 = dstRnd (goneF l) fs n s 0 := by rw [hpn]; unfold negTo; simp; rfl
      have v0 := HS.out.int_at 0 rfl (j := s) (by rw [negTo_len hp]; exact hs)
      have y0 := HS.out.int_free 0 rfl s
      have hS1 := HS.out.int_set 0 rfl (j := s) (by rw [negTo_len hp]; exact hs) 0
      rw [hz] at hS1
      have HS1 := hid hS1
      have is : (s : Int) < (n : Int) := by omega
      clear hS1 HS hz hpn
      go_wp2_with fail
      clear v0 y0
      generalize wr.setCell ⟨g, s, none⟩ (.int .i64 0) = W1 at *
      go_loopw [9] (fun i wr => ∃ r : Nat, r ≤ n ∧ i = .int .i64 r ∧ Hid (Led w wr [tOwns elInt w.heap.size 3 (.slice (some ⟨g, 0, none⟩) n n) (dstRnd (goneF l) fs n s r), tBlk w.heap.size 27 #[.slice A n c, .slice A' m d]])) (fun i _ => n - (intOf i).toNat)
      case atStart => exact ⟨0, Nat.zero_le _, rfl, HS1⟩
      case round =>
        clear HS1
        obtain ⟨r, hr, rfl, HS⟩ := hrel
        have q0 := HS.out.cell 1 0 rfl rfl
        by_cases hltr : r < n
        · obtain ⟨X, hX⟩ : ∃ X, X = dstRnd (goneF l) fs n s r := ⟨_, rfl⟩
          have hXl : Hid (X.length = n) := by rw [hX]; exact dstRnd_len r
          have HN : Hid (dstRnd (goneF l) fs n s (r + 1) = dstPass (goneF l) fs X) := by rw [hX]; rfl
          have HXB : Hid (∀ v, valL X v ≤ 2000000) := fun v => by
            rw [hX]
            have h1 := dstRnd_bd (q := goneF l) (n := n) (s := s) HL5.out r v
            have h2 : (fs.length : Int) * (r : Int) ≤ 14 * 8 := Int.mul_le_mul (by rw [hlf.out]; omega) (by omega) (by omega) (by omega)
            omega
          rw [← hX] at HS
          clear hX
          have HS1 : Hid (Led w wr [tOwns elInt w.heap.size 3 (.slice (some ⟨g, 0, none⟩) n n) (dstTo (goneF l) fs X (2 * 0)), tBlk w.heap.size 27 #[.slice A n c, .slice A' m d]]) := HS
          clear HS
          go_wp2_with fail
          clear q0
          go_loopw [10] (fun i wr => ∃ j : Nat, j ≤ m ∧ i = .int .i64 j ∧ Hid (Led w wr [tOwns elInt w.heap.size 3 (.slice (some ⟨g, 0, none⟩) n n) (dstTo (goneF l) fs X (2 * j)), tBlk w.heap.size 27 #[.slice A n c, .slice A' m d]])) (fun i _ => m - (intOf i).toNat)
          case atStart => exact ⟨0, Nat.zero_le _, rfl, HS1⟩
          case round =>
            clear HS1
            obtain ⟨j, hj, rfl, HS⟩ := hrel
            have q1 := HS.out.cell 1 1 rfl rfl
            by_cases hlt2 : j < m
            · obtain ⟨fb, fo, rfl, _, hc⟩ := HF.out.fibs.at_ hlt2
              obtain ⟨f, hfj⟩ := get_of (k := j) hlf.out hlt2
              have f0 := bl_cell HS.out.bl (hc j f hfj 0 _ rfl)
              have f1 := bl_cell HS.out.bl (hc j f hfj 1 _ rfl)
              have f2 := bl_cell HS.out.bl (hc j f hfj 2 _ rfl)
              simp only [elFib, Nat.add_zero] at f0 f1 f2
              have hfd : fibD fs j = f := getD_of hfj
              have hends := HE.out j (by rw [hlf.out]; exact hlt2)
              have hlen5 := HL5.out j (by rw [hlf.out]; exact hlt2)
              rw [hfd] at hends hlen5
              obtain ⟨a, ha⟩ : ∃ a : Nat, f.a = (a : Int) := ⟨f.a.toNat, by omega⟩
              obtain ⟨z, hb⟩ : ∃ z : Nat, f.b = (z : Int) := ⟨f.b.toNat, by omega⟩
              obtain ⟨ln, hln⟩ : ∃ ln : Int, f.len = ln := ⟨_, rfl⟩
              rw [ha, hb] at hends
              rw [ha] at f0
              rw [hb] at f1
              rw [hln] at f2 hlen5
              have HA0 : Hid (arcU fs (2 * j) = a ∧ arcV fs (2 * j) = z ∧ arcLn fs (2 * j) = ln) := by
                unfold Hid arcU arcV arcLn
                rw [show (2 * j) % 2 = 0 by omega, show (2 * j) / 2 = j by omega, hfd, ha, hb, hln]; simp
              have HA1 : Hid (arcU fs (2 * j + 1) = z ∧ arcV fs (2 * j + 1) = a ∧ arcLn fs (2 * j + 1) = ln) := by
                unfold Hid arcU arcV arcLn
                rw [show (2 * j + 1) % 2 = 1 by omega, show (2 * j + 1) / 2 = j by omega, hfd, ha, hb, hln]; simp
              have HD2 : Hid ((2 * j) / 2 = j ∧ (2 * j + 1) / 2 = j) := ⟨by omega, by omega⟩
              have iaz : a ≠ z := by omega
              have ia : (a : Int) < (n : Int) := by omega
              have iz : (z : Int) < (n : Int) := by omega
              have ij : (j : Int) < (m : Int) := by omega
              have ian : a < n := by omega
              have izn : z < n := by omega
              have P1 : ∀ w', Cls wr w' → w'.cell? ⟨w.heap.size, 1, none⟩ = some (.slice (some ⟨fb, fo, none⟩) m d) := fun _ h => h.cell q1
              have F0 : ∀ w', Cls wr w' → w'.cell? ⟨fb, fo + j * 4, none⟩ = some (.int .i64 (a : Int)) := fun _ h => h.cell f0
              have F1 : ∀ w', Cls wr w' → w'.cell? ⟨fb, fo + j * 4 + 1, none⟩ = some (.int .i64 (z : Int)) := fun _ h => h.cell f1
              have F2 : ∀ w', Cls wr w' → w'.cell? ⟨fb, fo + j * 4 + 2, none⟩ = some (.int .i64 ln) := fun _ h => h.cell f2
              have hYl0 : Hid ((dstTo (goneF l) fs X (2 * j)).length = n) := (dstTo_len X _).trans hXl.out
              have HYB0 : Hid (∀ v, valL (dstTo (goneF l) fs X (2 * j)) v ≤ 2200000) := fun v => by
                have h1 := dstTo_bd (q := goneF l) HL5.out (by decide) HXB.out (2 * j) (by rw [hlf.out]; omega) v
                omega
              clear hc hfj hfd ha hb hln hends
              go_wp2_with fail
              refine (l1Has_any (j : Int) _ (HV.out.grow HS.out.bl) (by unfold maxLen; omega)).mono ?_
              rintro e5 w5 ⟨rfl, rfl⟩
              cases gk : hasB l (j : Int)
              · have HQ0 : Hid (goneF l ((2 * j) / 2) = false ∧ goneF l ((2 * j + 1) / 2) = false) := by rw [HD2.out.1, HD2.out.2]; exact ⟨gk, gk⟩
                have HNX0 : Hid (dstTo (goneF l) fs X (2 * j + 1) = relax a z ln (dstTo (goneF l) fs X (2 * j))) := by
                  unfold Hid
                  rw [dstTo_no HQ0.out.1, HA0.out.1, HA0.out.2.1, HA0.out.2.2]
                have HNX1 : Hid (dstTo (goneF l) fs X (2 * (j + 1)) = relax z a ln (dstTo (goneF l) fs X (2 * j + 1))) := by
                  unfold Hid
                  rw [show 2 * (j + 1) = (2 * j + 1) + 1 by omega, dstTo_no HQ0.out.2, HA1.out.1, HA1.out.2.1, HA1.out.2.2]
                have hYl1 : Hid ((dstTo (goneF l) fs X (2 * j + 1)).length = n) := (dstTo_len X _).trans hXl.out
                have HYB1 : Hid (∀ v, valL (dstTo (goneF l) fs X (2 * j + 1)) v ≤ 2200000) := fun v => by
                  have h1 := dstTo_bd (q := goneF l) HL5.out (by decide) HXB.out (2 * j + 1) (by rw [hlf.out]; omega) v
                  omega
                clear HA0 HA1 HD2 HQ0 q1 f0 f1 f2
                generalize dstTo (goneF l) fs X (2 * j) = Y at *
                go_wp2_with fail
                refine region_cls (by kernel_rfl) (by kernel_rfl) ?_
                repeat (first
                  | ((with_reducible refine quiet_pos ?_ (fun K hK => ?_))
                     · rfl
                     apply Exists.intro
                     refine ⟨fun w' hw' => ?_, ?_⟩
                     · go_simp
                       with_reducible rfl
                     simp only [Act.put, List.setIfInBounds_toArray, List.set_cons_zero, List.set_cons_succ]
                     refine hK _ ?_; clear hK K)
                  | ((with_reducible refine quiet_neg ?_ (fun K hK => ?_))
                     · rfl
                     simp only [Act.put, List.setIfInBounds_toArray, List.set_cons_zero, List.set_cons_succ]
                     refine hK _ ?_; clear hK K))
                with_reducible refine wpQuiet_nil ?_
                intro wz hwz'
                have hSa := HS.out.step hwz'
                clear HS P1 F0 F1 F2 hwz'
                have hya := HYB0.out a
                have VA : ∀ w', Cls wz w' → w'.cell? ⟨g, a, none⟩ = some (.int .i64 (valL Y a)) := fun _ h => h.cell (hSa.int_at 0 rfl (j := a) (by rw [hYl0.out]; omega))
                have VZ : ∀ w', Cls wz w' → w'.cell? ⟨g, z, none⟩ = some (.int .i64 (valL Y z)) := fun _ h => h.cell (hSa.int_at 0 rfl (j := z) (by rw [hYl0.out]; omega))
                go_wp2_with fail
                by_cases g1 : (0 : Int) ≤ valL Y a
                · have g1d : decide ((0 : Int) ≤ valL Y a) = true := decide_eq_true g1
                  have iw : IntKind.i64.wrap (valL Y a + ln) = valL Y a + ln := IntWalk.i64_in _ (by omega)
                  by_cases g2 : valL Y z < 0
                  · have g2d : decide (valL Y z < 0) = true := decide_eq_true g2
                    have HC : Hid (canB a z ln Y = true) := canB_iff.2 ⟨g1, .inl g2⟩
                    have HR1 : Hid (relax a z ln Y = Y.set z (valL Y a + ln)) := by unfold Hid relax; rw [HC.out]; rfl
                    refine region_cls (by kernel_rfl) (by kernel_rfl) ?_
                    repeat (first
                      | ((with_reducible refine quiet_pos ?_ (fun K hK => ?_))
                         · rfl
                         apply Exists.intro
                         refine ⟨fun w' hw' => ?_, ?_⟩
                         · go_simp
                           with_reducible rfl
                         simp only [Act.put, List.setIfInBounds_toArray, List.set_cons_zero, List.set_cons_succ]
                         refine hK _ ?_; clear hK K)
                      | ((with_reducible refine quiet_neg ?_ (fun K hK => ?_))
                         · rfl
                         simp only [Act.put, List.setIfInBounds_toArray, List.set_cons_zero, List.set_cons_succ]
                         refine hK _ ?_; clear hK K))
                    with_reducible refine wpQuiet_nil ?_
                    intro wz hwz'
                    have hS2 := hSa.step hwz'
                    clear hSa VA VZ hwz' HC
                    have va := hS2.int_at 0 rfl (j := a) (by rw [hYl0.out]; omega)
                    have vz := hS2.int_at 0 rfl (j := z) (by rw [hYl0.out]; omega)
                    have yz := hS2.int_free 0 rfl z
                    have hSb := hS2.int_set 0 rfl (j := z) (by rw [hYl0.out]; omega) (valL Y a + ln)
                    clear hS2
                    go_wp2_with fail
                    clear va vz yz
                    generalize wz.setCell ⟨g, z, none⟩ (.int .i64 (valL Y a + ln)) = wy at *
                    rw [← HR1.out, ← HNX0.out] at hSb
                    generalize dstTo (goneF l) fs X (2 * j + 1) = Y1 at *
                    have hyz := HYB1.out z
                    have WA : ∀ w', Cls wy w' → w'.cell? ⟨g, a, none⟩ = some (.int .i64 (valL Y1 a)) := fun _ h => h.cell (hSb.int_at 0 rfl (j := a) (by rw [hYl1.out]; omega))
                    have WZ : ∀ w', Cls wy w' → w'.cell? ⟨g, z, none⟩ = some (.int .i64 (valL Y1 z)) := fun _ h => h.cell (hSb.int_at 0 rfl (j := z) (by rw [hYl1.out]; omega))
                    clear g1 g1d HR1 HNX0
                    by_cases g1 : (0 : Int) ≤ valL Y1 z
                    · have g1d : decide ((0 : Int) ≤ valL Y1 z) = true := decide_eq_true g1
                      have iw : IntKind.i64.wrap (valL Y1 z + ln) = valL Y1 z + ln := IntWalk.i64_in _ (by omega)
                      by_cases g2 : valL Y1 a < 0
                      · have g2d : decide (valL Y1 a < 0) = true := decide_eq_true g2
                        have HC : Hid (canB z a ln Y1 = true) := canB_iff.2 ⟨g1, .inl g2⟩
                        have HR2 : Hid (relax z a ln Y1 = Y1.set a (valL Y1 z + ln)) := by unfold Hid relax; rw [HC.out]; rfl
                        refine region_cls (by kernel_rfl) (by kernel_rfl) ?_
                        repeat (first
                          | ((with_reducible refine quiet_pos ?_ (fun K hK => ?_))
                             · rfl
                             apply Exists.intro
                             refine ⟨fun w' hw' => ?_, ?_⟩
                             · go_simp
                               with_reducible rfl
                             simp only [Act.put, List.setIfInBounds_toArray, List.set_cons_zero, List.set_cons_succ]
                             refine hK _ ?_; clear hK K)
                          | ((with_reducible refine quiet_neg ?_ (fun K hK => ?_))
                             · rfl
                             simp only [Act.put, List.setIfInBounds_toArray, List.set_cons_zero, List.set_cons_succ]
                             refine hK _ ?_; clear hK K))
                        with_reducible refine wpQuiet_nil ?_
                        intro wz hwz'
                        have hS2 := hSb.step hwz'
                        clear hSb WA WZ hwz'
                        have vz := hS2.int_at 0 rfl (j := z) (by rw [hYl1.out]; omega)
                        have va := hS2.int_at 0 rfl (j := a) (by rw [hYl1.out]; omega)
                        have ya := hS2.int_free 0 rfl a
                        have HS4 := hid (hS2.int_set 0 rfl (j := a) (by rw [hYl1.out]; omega) (valL Y1 z + ln))
                        clear hS2
                        go_wp2
                        refine ⟨?_, by simp [intOf]; omega⟩
                        first
                          | exact ⟨j + 1, by omega, by go_num, by rw [HNX1.out, HR2.out]; exact HS4⟩
                          | ((repeat apply Exists.intro); exact ⟨⟨j + 1, by omega, by go_num, by rw [HNX1.out, HR2.out]; exact HS4⟩, rfl⟩)
                      · have g2d : decide (valL Y1 a < 0) = false := decide_eq_false g2
                        by_cases g3 : valL Y1 z + ln < valL Y1 a
                        · have g3d : decide (valL Y1 z + ln < valL Y1 a) = true := decide_eq_true g3
                          have HC : Hid (canB z a ln Y1 = true) := canB_iff.2 ⟨g1, .inr g3⟩
                          have HR2 : Hid (relax z a ln Y1 = Y1.set a (valL Y1 z + ln)) := by unfold Hid relax; rw [HC.out]; rfl
                          refine region_cls (by kernel_rfl) (by kernel_rfl) ?_
                          repeat (first
                            | ((with_reducible refine quiet_pos ?_ (fun K hK => ?_))
                               · rfl
                               apply Exists.intro
                               refine ⟨fun w' hw' => ?_, ?_⟩
                               · go_simp
                                 with_reducible rfl
                               simp only [Act.put, List.setIfInBounds_toArray, List.set_cons_zero, List.set_cons_succ]
                               refine hK _ ?_; clear hK K)
                            | ((with_reducible refine quiet_neg ?_ (fun K hK => ?_))
                               · rfl
                               simp only [Act.put, List.setIfInBounds_toArray, List.set_cons_zero, List.set_cons_succ]
                               refine hK _ ?_; clear hK K))
                          with_reducible refine wpQuiet_nil ?_
                          intro wz hwz'
                          have hS2 := hSb.step hwz'
                          clear hSb WA WZ hwz'
                          have vz := hS2.int_at 0 rfl (j := z) (by rw [hYl1.out]; omega)
                          have va := hS2.int_at 0 rfl (j := a) (by rw [hYl1.out]; omega)
                          have ya := hS2.int_free 0 rfl a
                          have HS4 := hid (hS2.int_set 0 rfl (j := a) (by rw [hYl1.out]; omega) (valL Y1 z + ln))
                          clear hS2
                          go_wp2
                          refine ⟨?_, by simp [intOf]; omega⟩
                          first
                            | exact ⟨j + 1, by omega, by go_num, by rw [HNX1.out, HR2.out]; exact HS4⟩
                            | ((repeat apply Exists.intro); exact ⟨⟨j + 1, by omega, by go_num, by rw [HNX1.out, HR2.out]; exact HS4⟩, rfl⟩)
                        · have g3d : decide (valL Y1 z + ln < valL Y1 a) = false := decide_eq_false g3
                          have HC : Hid (canB z a ln Y1 = false) := Bool.eq_false_iff.2 (fun h => by have h1 := canB_iff.1 h; omega)
                          have HR2 : Hid (relax z a ln Y1 = Y1) := by unfold Hid relax; rw [HC.out]; rfl
                          refine region_cls (by kernel_rfl) (by kernel_rfl) ?_
                          repeat (first
                            | ((with_reducible refine quiet_pos ?_ (fun K hK => ?_))
                               · rfl
                               apply Exists.intro
                               refine ⟨fun w' hw' => ?_, ?_⟩
                               · go_simp
                                 with_reducible rfl
                               simp only [Act.put, List.setIfInBounds_toArray, List.set_cons_zero, List.set_cons_succ]
                               refine hK _ ?_; clear hK K)
                            | ((with_reducible refine quiet_neg ?_ (fun K hK => ?_))
                               · rfl
                               simp only [Act.put, List.setIfInBounds_toArray, List.set_cons_zero, List.set_cons_succ]
                               refine hK _ ?_; clear hK K))
                          with_reducible refine wpQuiet_nil ?_
                          intro wz hwz'
                          have HS4 := hid (hSb.step hwz')
                          clear hSb WA WZ hwz'
                          go_wp2
                          refine ⟨?_, by simp [intOf]; omega⟩
                          first
                            | exact ⟨j + 1, by omega, by go_num, by rw [HNX1.out, HR2.out]; exact HS4⟩
                            | ((repeat apply Exists.intro); exact ⟨⟨j + 1, by omega, by go_num, by rw [HNX1.out, HR2.out]; exact HS4⟩, rfl⟩)
                    · have g1d : decide ((0 : Int) ≤ valL Y1 z) = false := decide_eq_false g1
                      have HC : Hid (canB z a ln Y1 = false) := Bool.eq_false_iff.2 (fun h => by have h1 := canB_iff.1 h; omega)
                      have HR2 : Hid (relax z a ln Y1 = Y1) := by unfold Hid relax; rw [HC.out]; rfl
                      refine region_cls (by kernel_rfl) (by kernel_rfl) ?_
                      repeat (first
                        | ((with_reducible refine quiet_pos ?_ (fun K hK => ?_))
                           · rfl
                           apply Exists.intro
                           refine ⟨fun w' hw' => ?_, ?_⟩
                           · go_simp
                             with_reducible rfl
                           simp only [Act.put, List.setIfInBounds_toArray, List.set_cons_zero, List.set_cons_succ]
                           refine hK _ ?_; clear hK K)
                        | ((with_reducible refine quiet_neg ?_ (fun K hK => ?_))
                           · rfl
                           simp only [Act.put, List.setIfInBounds_toArray, List.set_cons_zero, List.set_cons_succ]
                           refine hK _ ?_; clear hK K))
                      with_reducible refine wpQuiet_nil ?_
                      intro wz hwz'
                      have HS4 := hid (hSb.step hwz')
                      clear hSb WA WZ hwz'
                      go_wp2
                      refine ⟨?_, by simp [intOf]; omega⟩
                      first
                        | exact ⟨j + 1, by omega, by go_num, by rw [HNX1.out, HR2.out]; exact HS4⟩
                        | ((repeat apply Exists.intro); exact ⟨⟨j + 1, by omega, by go_num, by rw [HNX1.out, HR2.out]; exact HS4⟩, rfl⟩)
                  · have g2d : decide (valL Y z < 0) = false := decide_eq_false g2
                    by_cases g3 : valL Y a + ln < valL Y z
                    · have g3d : decide (valL Y a + ln < valL Y z) = true := decide_eq_true g3
                      have HC : Hid (canB a z ln Y = true) := canB_iff.2 ⟨g1, .inr g3⟩
                      have HR1 : Hid (relax a z ln Y = Y.set z (valL Y a + ln)) := by unfold Hid relax; rw [HC.out]; rfl
                      refine region_cls (by kernel_rfl) (by kernel_rfl) ?_
                      repeat (first
                        | ((with_reducible refine quiet_pos ?_ (fun K hK => ?_))
                           · rfl
                           apply Exists.intro
                           refine ⟨fun w' hw' => ?_, ?_⟩
                           · go_simp
                             with_reducible rfl
                           simp only [Act.put, List.setIfInBounds_toArray, List.set_cons_zero, List.set_cons_succ]
                           refine hK _ ?_; clear hK K)
                        | ((with_reducible refine quiet_neg ?_ (fun K hK => ?_))
                           · rfl
                           simp only [Act.put, List.setIfInBounds_toArray, List.set_cons_zero, List.set_cons_succ]
                           refine hK _ ?_; clear hK K))
                      with_reducible refine wpQuiet_nil ?_
                      intro wz hwz'
                      have hS2 := hSa.step hwz'
                      clear hSa VA VZ hwz' HC
                      have va := hS2.int_at 0 rfl (j := a) (by rw [hYl0.out]; omega)
                      have vz := hS2.int_at 0 rfl (j := z) (by rw [hYl0.out]; omega)
                      have yz := hS2.int_free 0 rfl z
                      have hSb := hS2.int_set 0 rfl (j := z) (by rw [hYl0.out]; omega) (valL Y a + ln)
                      clear hS2
                      go_wp2_with fail
                      clear va vz yz
                      generalize wz.setCell ⟨g, z, none⟩ (.int .i64 (valL Y a + ln)) = wy at *
                      rw [← HR1.out, ← HNX0.out] at hSb
                      generalize dstTo (goneF l) fs X (2 * j + 1) = Y1 at *
                      have hyz := HYB1.out z
                      have WA : ∀ w', Cls wy w' → w'.cell? ⟨g, a, none⟩ = some (.int .i64 (valL Y1 a)) := fun _ h => h.cell (hSb.int_at 0 rfl (j := a) (by rw [hYl1.out]; omega))
                      have WZ : ∀ w', Cls wy w' → w'.cell? ⟨g, z, none⟩ = some (.int .i64 (valL Y1 z)) := fun _ h => h.cell (hSb.int_at 0 rfl (j := z) (by rw [hYl1.out]; omega))
                      clear g1 g1d HR1 HNX0
                      by_cases g1 : (0 : Int) ≤ valL Y1 z
                      · have g1d : decide ((0 : Int) ≤ valL Y1 z) = true := decide_eq_true g1
                        have iw : IntKind.i64.wrap (valL Y1 z + ln) = valL Y1 z + ln := IntWalk.i64_in _ (by omega)
                        by_cases g2 : valL Y1 a < 0
                        · have g2d : decide (valL Y1 a < 0) = true := decide_eq_true g2
                          have HC : Hid (canB z a ln Y1 = true) := canB_iff.2 ⟨g1, .inl g2⟩
                          have HR2 : Hid (relax z a ln Y1 = Y1.set a (valL Y1 z + ln)) := by unfold Hid relax; rw [HC.out]; rfl
                          refine region_cls (by kernel_rfl) (by kernel_rfl) ?_
                          repeat (first
                            | ((with_reducible refine quiet_pos ?_ (fun K hK => ?_))
                               · rfl
                               apply Exists.intro
                               refine ⟨fun w' hw' => ?_, ?_⟩
                               · go_simp
                                 with_reducible rfl
                               simp only [Act.put, List.setIfInBounds_toArray, List.set_cons_zero, List.set_cons_succ]
                               refine hK _ ?_; clear hK K)
                            | ((with_reducible refine quiet_neg ?_ (fun K hK => ?_))
                               · rfl
                               simp only [Act.put, List.setIfInBounds_toArray, List.set_cons_zero, List.set_cons_succ]
                               refine hK _ ?_; clear hK K))
                          with_reducible refine wpQuiet_nil ?_
                          intro wz hwz'
                          have hS2 := hSb.step hwz'
                          clear hSb WA WZ hwz'
                          have vz := hS2.int_at 0 rfl (j := z) (by rw [hYl1.out]; omega)
                          have va := hS2.int_at 0 rfl (j := a) (by rw [hYl1.out]; omega)
                          have ya := hS2.int_free 0 rfl a
                          have HS4 := hid (hS2.int_set 0 rfl (j := a) (by rw [hYl1.out]; omega) (valL Y1 z + ln))
                          clear hS2
                          go_wp2
                          refine ⟨?_, by simp [intOf]; omega⟩
                          first
                            | exact ⟨j + 1, by omega, by go_num, by rw [HNX1.out, HR2.out]; exact HS4⟩
                            | ((repeat apply Exists.intro); exact ⟨⟨j + 1, by omega, by go_num, by rw [HNX1.out, HR2.out]; exact HS4⟩, rfl⟩)
                        · have g2d : decide (valL Y1 a < 0) = false := decide_eq_false g2
                          by_cases g3 : valL Y1 z + ln < valL Y1 a
                          · have g3d : decide (valL Y1 z + ln < valL Y1 a) = true := decide_eq_true g3
                            have HC : Hid (canB z a ln Y1 = true) := canB_iff.2 ⟨g1, .inr g3⟩
                            have HR2 : Hid (relax z a ln Y1 = Y1.set a (valL Y1 z + ln)) := by unfold Hid relax; rw [HC.out]; rfl
                            refine region_cls (by kernel_rfl) (by kernel_rfl) ?_
                            repeat (first
                              | ((with_reducible refine quiet_pos ?_ (fun K hK => ?_))
                                 · rfl
                                 apply Exists.intro
                                 refine ⟨fun w' hw' => ?_, ?_⟩
                                 · go_simp
                                   with_reducible rfl
                                 simp only [Act.put, List.setIfInBounds_toArray, List.set_cons_zero, List.set_cons_succ]
                                 refine hK _ ?_; clear hK K)
                              | ((with_reducible refine quiet_neg ?_ (fun K hK => ?_))
                                 · rfl
                                 simp only [Act.put, List.setIfInBounds_toArray, List.set_cons_zero, List.set_cons_succ]
                                 refine hK _ ?_; clear hK K))
                            with_reducible refine wpQuiet_nil ?_
                            intro wz hwz'
                            have hS2 := hSb.step hwz'
                            clear hSb WA WZ hwz'
                            have vz := hS2.int_at 0 rfl (j := z) (by rw [hYl1.out]; omega)
                            have va := hS2.int_at 0 rfl (j := a) (by rw [hYl1.out]; omega)
                            have ya := hS2.int_free 0 rfl a
                            have HS4 := hid (hS2.int_set 0 rfl (j := a) (by rw [hYl1.out]; omega) (valL Y1 z + ln))
                            clear hS2
                            go_wp2
                            refine ⟨?_, by simp [intOf]; omega⟩
                            first
                              | exact ⟨j + 1, by omega, by go_num, by rw [HNX1.out, HR2.out]; exact HS4⟩
                              | ((repeat apply Exists.intro); exact ⟨⟨j + 1, by omega, by go_num, by rw [HNX1.out, HR2.out]; exact HS4⟩, rfl⟩)
                          · have g3d : decide (valL Y1 z + ln < valL Y1 a) = false := decide_eq_false g3
                            have HC : Hid (canB z a ln Y1 = false) := Bool.eq_false_iff.2 (fun h => by have h1 := canB_iff.1 h; omega)
                            have HR2 : Hid (relax z a ln Y1 = Y1) := by unfold Hid relax; rw [HC.out]; rfl
                            refine region_cls (by kernel_rfl) (by kernel_rfl) ?_
                            repeat (first
                              | ((with_reducible refine quiet_pos ?_ (fun K hK => ?_))
                                 · rfl
                                 apply Exists.intro
                                 refine ⟨fun w' hw' => ?_, ?_⟩
                                 · go_simp
                                   with_reducible rfl
                                 simp only [Act.put, List.setIfInBounds_toArray, List.set_cons_zero, List.set_cons_succ]
                                 refine hK _ ?_; clear hK K)
                              | ((with_reducible refine quiet_neg ?_ (fun K hK => ?_))
                                 · rfl
                                 simp only [Act.put, List.setIfInBounds_toArray, List.set_cons_zero, List.set_cons_succ]
                                 refine hK _ ?_; clear hK K))
                            with_reducible refine wpQuiet_nil ?_
                            intro wz hwz'
                            have HS4 := hid (hSb.step hwz')
                            clear hSb WA WZ hwz'
                            go_wp2
                            refine ⟨?_, by simp [intOf]; omega⟩
                            first
                              | exact ⟨j + 1, by omega, by go_num, by rw [HNX1.out, HR2.out]; exact HS4⟩
                              | ((repeat apply Exists.intro); exact ⟨⟨j + 1, by omega, by go_num, by rw [HNX1.out, HR2.out]; exact HS4⟩, rfl⟩)
                      · have g1d : decide ((0 : Int) ≤ valL Y1 z) = false := decide_eq_false g1
                        have HC : Hid (canB z a ln Y1 = false) := Bool.eq_false_iff.2 (fun h => by have h1 := canB_iff.1 h; omega)
                        have HR2 : Hid (relax z a ln Y1 = Y1) := by unfold Hid relax; rw [HC.out]; rfl
                        refine region_cls (by kernel_rfl) (by kernel_rfl) ?_
                        repeat (first
                          | ((with_reducible refine quiet_pos ?_ (fun K hK => ?_))
                             · rfl
                             apply Exists.intro
                             refine ⟨fun w' hw' => ?_, ?_⟩
                             · go_simp
                               with_reducible rfl
                             simp only [Act.put, List.setIfInBounds_toArray, List.set_cons_zero, List.set_cons_succ]
                             refine hK _ ?_; clear hK K)
                          | ((with_reducible refine quiet_neg ?_ (fun K hK => ?_))
                             · rfl
                             simp only [Act.put, List.setIfInBounds_toArray, List.set_cons_zero, List.set_cons_succ]
                             refine hK _ ?_; clear hK K))
                        with_reducible refine wpQuiet_nil ?_
                        intro wz hwz'
                        have HS4 := hid (hSb.step hwz')
                        clear hSb WA WZ hwz'
                        go_wp2
                        refine ⟨?_, by simp [intOf]; omega⟩
                        first
                          | exact ⟨j + 1, by omega, by go_num, by rw [HNX1.out, HR2.out]; exact HS4⟩
                          | ((repeat apply Exists.intro); exact ⟨⟨j + 1, by omega, by go_num, by rw [HNX1.out, HR2.out]; exact HS4⟩, rfl⟩)
                    · have g3d : decide (valL Y a + ln < valL Y z) = false := decide_eq_false g3
                      have HC : Hid (canB a z ln Y = false) := Bool.eq_false_iff.2 (fun h => by have h1 := canB_iff.1 h; omega)
                      have HR1 : Hid (relax a z ln Y = Y) := by unfold Hid relax; rw [HC.out]; rfl
                      refine region_cls (by kernel_rfl) (by kernel_rfl) ?_
                      repeat (first
                        | ((with_reducible refine quiet_pos ?_ (fun K hK => ?_))
                           · rfl
                           apply Exists.intro
                           refine ⟨fun w' hw' => ?_, ?_⟩
                           · go_simp
                             with_reducible rfl
                           simp only [Act.put, List.setIfInBounds_toArray, List.set_cons_zero, List.set_cons_succ]
                           refine hK _ ?_; clear hK K)
                        | ((with_reducible refine quiet_neg ?_ (fun K hK => ?_))
                           · rfl
                           simp only [Act.put, List.setIfInBounds_toArray, List.set_cons_zero, List.set_cons_succ]
                           refine hK _ ?_; clear hK K))
                      with_reducible refine wpQuiet_nil ?_
                      intro wz hwz'
                      have hSb := hSa.step hwz'
                      clear hSa VA VZ hwz' HC
                      go_wp2_with fail
                      generalize wz = wy at *
                      rw [← HR1.out, ← HNX0.out] at hSb
                      generalize dstTo (goneF l) fs X (2 * j + 1) = Y1 at *
                      have hyz := HYB1.out z
                      have WA : ∀ w', Cls wy w' → w'.cell? ⟨g, a, none⟩ = some (.int .i64 (valL Y1 a)) := fun _ h => h.cell (hSb.int_at 0 rfl (j := a) (by rw [hYl1.out]; omega))
                      have WZ : ∀ w', Cls wy w' → w'.cell? ⟨g, z, none⟩ = some (.int .i64 (valL Y1 z)) := fun _ h => h.cell (hSb.int_at 0 rfl (j := z) (by rw [hYl1.out]; omega))
                      clear g1 g1d HR1 HNX0
                      by_cases g1 : (0 : Int) ≤ valL Y1 z
                      · have g1d : decide ((0 : Int) ≤ valL Y1 z) = true := decide_eq_true g1
                        have iw : IntKind.i64.wrap (valL Y1 z + ln) = valL Y1 z + ln := IntWalk.i64_in _ (by omega)
                        by_cases g2 : valL Y1 a < 0
                        · have g2d : decide (valL Y1 a < 0) = true := decide_eq_true g2
                          have HC : Hid (canB z a ln Y1 = true) := canB_iff.2 ⟨g1, .inl g2⟩
                          have HR2 : Hid (relax z a ln Y1 = Y1.set a (valL Y1 z + ln)) := by unfold Hid relax; rw [HC.out]; rfl
                          refine region_cls (by kernel_rfl) (by kernel_rfl) ?_
                          repeat (first
                            | ((with_reducible refine quiet_pos ?_ (fun K hK => ?_))
                               · rfl
                               apply Exists.intro
                               refine ⟨fun w' hw' => ?_, ?_⟩
                               · go_simp
                                 with_reducible rfl
                               simp only [Act.put, List.setIfInBounds_toArray, List.set_cons_zero, List.set_cons_succ]
                               refine hK _ ?_; clear hK K)
                            | ((with_reducible refine quiet_neg ?_ (fun K hK => ?_))
                               · rfl
                               simp only [Act.put, List.setIfInBounds_toArray, List.set_cons_zero, List.set_cons_succ]
                               refine hK _ ?_; clear hK K))
                          with_reducible refine wpQuiet_nil ?_
                          intro wz hwz'
                          have hS2 := hSb.step hwz'
                          clear hSb WA WZ hwz'
                          have vz := hS2.int_at 0 rfl (j := z) (by rw [hYl1.out]; omega)
                          have va := hS2.int_at 0 rfl (j := a) (by rw [hYl1.out]; omega)
                          have ya := hS2.int_free 0 rfl a
                          have HS4 := hid (hS2.int_set 0 rfl (j := a) (by rw [hYl1.out]; omega) (valL Y1 z + ln))
                          clear hS2
                          go_wp2
                          refine ⟨?_, by simp [intOf]; omega⟩
                          first
                            | exact ⟨j + 1, by omega, by go_num, by rw [HNX1.out, HR2.out]; exact HS4⟩
                            | ((repeat apply Exists.intro); exact ⟨⟨j + 1, by omega, by go_num, by rw [HNX1.out, HR2.out]; exact HS4⟩, rfl⟩)
                        · have g2d : decide (valL Y1 a < 0) = false := decide_eq_false g2
                          by_cases g3 : valL Y1 z + ln < valL Y1 a
                          · have g3d : decide (valL Y1 z + ln < valL Y1 a) = true := decide_eq_true g3
                            have HC : Hid (canB z a ln Y1 = true) := canB_iff.2 ⟨g1, .inr g3⟩
                            have HR2 : Hid (relax z a ln Y1 = Y1.set a (valL Y1 z + ln)) := by unfold Hid relax; rw [HC.out]; rfl
                            refine region_cls (by kernel_rfl) (by kernel_rfl) ?_
                            repeat (first
                              | ((with_reducible refine quiet_pos ?_ (fun K hK => ?_))
                                 · rfl
                                 apply Exists.intro
                                 refine ⟨fun w' hw' => ?_, ?_⟩
                                 · go_simp
                                   with_reducible rfl
                                 simp only [Act.put, List.setIfInBounds_toArray, List.set_cons_zero, List.set_cons_succ]
                                 refine hK _ ?_; clear hK K)
                              | ((with_reducible refine quiet_neg ?_ (fun K hK => ?_))
                                 · rfl
                                 simp only [Act.put, List.setIfInBounds_toArray, List.set_cons_zero, List.set_cons_succ]
                                 refine hK _ ?_; clear hK K))
                            with_reducible refine wpQuiet_nil ?_
                            intro wz hwz'
                            have hS2 := hSb.step hwz'
                            clear hSb WA WZ hwz'
                            have vz := hS2.int_at 0 rfl (j := z) (by rw [hYl1.out]; omega)
                            have va := hS2.int_at 0 rfl (j := a) (by rw [hYl1.out]; omega)
                            have ya := hS2.int_free 0 rfl a
                            have HS4 := hid (hS2.int_set 0 rfl (j := a) (by rw [hYl1.out]; omega) (valL Y1 z + ln))
                            clear hS2
                            go_wp2
                            refine ⟨?_, by simp [intOf]; omega⟩
                            first
                              | exact ⟨j + 1, by omega, by go_num, by rw [HNX1.out, HR2.out]; exact HS4⟩
                              | ((repeat apply Exists.intro); exact ⟨⟨j + 1, by omega, by go_num, by rw [HNX1.out, HR2.out]; exact HS4⟩, rfl⟩)
                          · have g3d : decide (valL Y1 z + ln < valL Y1 a) = false := decide_eq_false g3
                            have HC : Hid (canB z a ln Y1 = false) := Bool.eq_false_iff.2 (fun h => by have h1 := canB_iff.1 h; omega)
                            have HR2 : Hid (relax z a ln Y1 = Y1) := by unfold Hid relax; rw [HC.out]; rfl
                            refine region_cls (by kernel_rfl) (by kernel_rfl) ?_
                            repeat (first
                              | ((with_reducible refine quiet_pos ?_ (fun K hK => ?_))
                                 · rfl
                                 apply Exists.intro
                                 refine ⟨fun w' hw' => ?_, ?_⟩
                                 · go_simp
                                   with_reducible rfl
                                 simp only [Act.put, List.setIfInBounds_toArray, List.set_cons_zero, List.set_cons_succ]
                                 refine hK _ ?_; clear hK K)
                              | ((with_reducible refine quiet_neg ?_ (fun K hK => ?_))
                                 · rfl
                                 simp only [Act.put, List.setIfInBounds_toArray, List.set_cons_zero, List.set_cons_succ]
                                 refine hK _ ?_; clear hK K))
                            with_reducible refine wpQuiet_nil ?_
                            intro wz hwz'
                            have HS4 := hid (hSb.step hwz')
                            clear hSb WA WZ hwz'
                            go_wp2
                            refine ⟨?_, by simp [intOf]; omega⟩
                            first
                              | exact ⟨j + 1, by omega, by go_num, by rw [HNX1.out, HR2.out]; exact HS4⟩
                              | ((repeat apply Exists.intro); exact ⟨⟨j + 1, by omega, by go_num, by rw [HNX1.out, HR2.out]; exact HS4⟩, rfl⟩)
                      · have g1d : decide ((0 : Int) ≤ valL Y1 z) = false := decide_eq_false g1
                        have HC : Hid (canB z a ln Y1 = false) := Bool.eq_false_iff.2 (fun h => by have h1 := canB_iff.1 h; omega)
                        have HR2 : Hid (relax z a ln Y1 = Y1) := by unfold Hid relax; rw [HC.out]; rfl
                        refine region_cls (by kernel_rfl) (by kernel_rfl) ?_
                        repeat (first
                          | ((with_reducible refine quiet_pos ?_ (fun K hK => ?_))
                             · rfl
                             apply Exists.intro
                             refine ⟨fun w' hw' => ?_, ?_⟩
                             · go_simp
                               with_reducible rfl
                             simp only [Act.put, List.setIfInBounds_toArray, List.set_cons_zero, List.set_cons_succ]
                             refine hK _ ?_; clear hK K)
                          | ((with_reducible refine quiet_neg ?_ (fun K hK => ?_))
                             · rfl
                             simp only [Act.put, List.setIfInBounds_toArray, List.set_cons_zero, List.set_cons_succ]
                             refine hK _ ?_; clear hK K))
                        with_reducible refine wpQuiet_nil ?_
                        intro wz hwz'
                        have HS4 := hid (hSb.step hwz')
                        clear hSb WA WZ hwz'
                        go_wp2
                        refine ⟨?_, by simp [intOf]; omega⟩
                        first
                          | exact ⟨j + 1, by omega, by go_num, by rw [HNX1.out, HR2.out]; exact HS4⟩
                          | ((repeat apply Exists.intro); exact ⟨⟨j + 1, by omega, by go_num, by rw [HNX1.out, HR2.out]; exact HS4⟩, rfl⟩)
                · have g1d : decide ((0 : Int) ≤ valL Y a) = false := decide_eq_false g1
                  have HC : Hid (canB a z ln Y = false) := Bool.eq_false_iff.2 (fun h => by have h1 := canB_iff.1 h; omega)
                  have HR1 : Hid (relax a z ln Y = Y) := by unfold Hid relax; rw [HC.out]; rfl
                  refine region_cls (by kernel_rfl) (by kernel_rfl) ?_
                  repeat (first
                    | ((with_reducible refine quiet_pos ?_ (fun K hK => ?_))
                       · rfl
                       apply Exists.intro
                       refine ⟨fun w' hw' => ?_, ?_⟩
                       · go_simp
                         with_reducible rfl
                       simp only [Act.put, List.setIfInBounds_toArray, List.set_cons_zero, List.set_cons_succ]
                       refine hK _ ?_; clear hK K)
                    | ((with_reducible refine quiet_neg ?_ (fun K hK => ?_))
                       · rfl
                       simp only [Act.put, List.setIfInBounds_toArray, List.set_cons_zero, List.set_cons_succ]
                       refine hK _ ?_; clear hK K))
                  with_reducible refine wpQuiet_nil ?_
                  intro wz hwz'
                  have hSb := hSa.step hwz'
                  clear hSa VA VZ hwz' HC
                  go_wp2_with fail
                  generalize wz = wy at *
                  rw [← HR1.out, ← HNX0.out] at hSb
                  generalize dstTo (goneF l) fs X (2 * j + 1) = Y1 at *
                  have hyz := HYB1.out z
                  have WA : ∀ w', Cls wy w' → w'.cell? ⟨g, a, none⟩ = some (.int .i64 (valL Y1 a)) := fun _ h => h.cell (hSb.int_at 0 rfl (j := a) (by rw [hYl1.out]; omega))
                  have WZ : ∀ w', Cls wy w' → w'.cell? ⟨g, z, none⟩ = some (.int .i64 (valL Y1 z)) := fun _ h => h.cell (hSb.int_at 0 rfl (j := z) (by rw [hYl1.out]; omega))
                  clear g1 g1d HR1 HNX0
                  by_cases g1 : (0 : Int) ≤ valL Y1 z
                  · have g1d : decide ((0 : Int) ≤ valL Y1 z) = true := decide_eq_true g1
                    have iw : IntKind.i64.wrap (valL Y1 z + ln) = valL Y1 z + ln := IntWalk.i64_in _ (by omega)
                    by_cases g2 : valL Y1 a < 0
                    · have g2d : decide (valL Y1 a < 0) = true := decide_eq_true g2
                      have HC : Hid (canB z a ln Y1 = true) := canB_iff.2 ⟨g1, .inl g2⟩
                      have HR2 : Hid (relax z a ln Y1 = Y1.set a (valL Y1 z + ln)) := by unfold Hid relax; rw [HC.out]; rfl
                      refine region_cls (by kernel_rfl) (by kernel_rfl) ?_
                      repeat (first
                        | ((with_reducible refine quiet_pos ?_ (fun K hK => ?_))
                           · rfl
                           apply Exists.intro
                           refine ⟨fun w' hw' => ?_, ?_⟩
                           · go_simp
                             with_reducible rfl
                           simp only [Act.put, List.setIfInBounds_toArray, List.set_cons_zero, List.set_cons_succ]
                           refine hK _ ?_; clear hK K)
                        | ((with_reducible refine quiet_neg ?_ (fun K hK => ?_))
                           · rfl
                           simp only [Act.put, List.setIfInBounds_toArray, List.set_cons_zero, List.set_cons_succ]
                           refine hK _ ?_; clear hK K))
                      with_reducible refine wpQuiet_nil ?_
                      intro wz hwz'
                      have hS2 := hSb.step hwz'
                      clear hSb WA WZ hwz'
                      have vz := hS2.int_at 0 rfl (j := z) (by rw [hYl1.out]; omega)
                      have va := hS2.int_at 0 rfl (j := a) (by rw [hYl1.out]; omega)
                      have ya := hS2.int_free 0 rfl a
                      have HS4 := hid (hS2.int_set 0 rfl (j := a) (by rw [hYl1.out]; omega) (valL Y1 z + ln))
                      clear hS2
                      go_wp2
                      refine ⟨?_, by simp [intOf]; omega⟩
                      first
                        | exact ⟨j + 1, by omega, by go_num, by rw [HNX1.out, HR2.out]; exact HS4⟩
                        | ((repeat apply Exists.intro); exact ⟨⟨j + 1, by omega, by go_num, by rw [HNX1.out, HR2.out]; exact HS4⟩, rfl⟩)
                    · have g2d : decide (valL Y1 a < 0) = false := decide_eq_false g2
                      by_cases g3 : valL Y1 z + ln < valL Y1 a
                      · have g3d : decide (valL Y1 z + ln < valL Y1 a) = true := decide_eq_true g3
                        have HC : Hid (canB z a ln Y1 = true) := canB_iff.2 ⟨g1, .inr g3⟩
                        have HR2 : Hid (relax z a ln Y1 = Y1.set a (valL Y1 z + ln)) := by unfold Hid relax; rw [HC.out]; rfl
                        refine region_cls (by kernel_rfl) (by kernel_rfl) ?_
                        repeat (first
                          | ((with_reducible refine quiet_pos ?_ (fun K hK => ?_))
                             · rfl
                             apply Exists.intro
                             refine ⟨fun w' hw' => ?_, ?_⟩
                             · go_simp
                               with_reducible rfl
                             simp only [Act.put, List.setIfInBounds_toArray, List.set_cons_zero, List.set_cons_succ]
                             refine hK _ ?_; clear hK K)
                          | ((with_reducible refine quiet_neg ?_ (fun K hK => ?_))
                             · rfl
                             simp only [Act.put, List.setIfInBounds_toArray, List.set_cons_zero, List.set_cons_succ]
                             refine hK _ ?_; clear hK K))
                        with_reducible refine wpQuiet_nil ?_
                        intro wz hwz'
                        have hS2 := hSb.step hwz'
                        clear hSb WA WZ hwz'
                        have vz := hS2.int_at 0 rfl (j := z) (by rw [hYl1.out]; omega)
                        have va := hS2.int_at 0 rfl (j := a) (by rw [hYl1.out]; omega)
                        have ya := hS2.int_free 0 rfl a
                        have HS4 := hid (hS2.int_set 0 rfl (j := a) (by rw [hYl1.out]; omega) (valL Y1 z + ln))
                        clear hS2
                        go_wp2
                        refine ⟨?_, by simp [intOf]; omega⟩
                        first
                          | exact ⟨j + 1, by omega, by go_num, by rw [HNX1.out, HR2.out]; exact HS4⟩
                          | ((repeat apply Exists.intro); exact ⟨⟨j + 1, by omega, by go_num, by rw [HNX1.out, HR2.out]; exact HS4⟩, rfl⟩)
                      · have g3d : decide (valL Y1 z + ln < valL Y1 a) = false := decide_eq_false g3
                        have HC : Hid (canB z a ln Y1 = false) := Bool.eq_false_iff.2 (fun h => by have h1 := canB_iff.1 h; omega)
                        have HR2 : Hid (relax z a ln Y1 = Y1) := by unfold Hid relax; rw [HC.out]; rfl
                        refine region_cls (by kernel_rfl) (by kernel_rfl) ?_
                        repeat (first
                          | ((with_reducible refine quiet_pos ?_ (fun K hK => ?_))
                             · rfl
                             apply Exists.intro
                             refine ⟨fun w' hw' => ?_, ?_⟩
                             · go_simp
                               with_reducible rfl
                             simp only [Act.put, List.setIfInBounds_toArray, List.set_cons_zero, List.set_cons_succ]
                             refine hK _ ?_; clear hK K)
                          | ((with_reducible refine quiet_neg ?_ (fun K hK => ?_))
                             · rfl
                             simp only [Act.put, List.setIfInBounds_toArray, List.set_cons_zero, List.set_cons_succ]
                             refine hK _ ?_; clear hK K))
                        with_reducible refine wpQuiet_nil ?_
                        intro wz hwz'
                        have HS4 := hid (hSb.step hwz')
                        clear hSb WA WZ hwz'
                        go_wp2
                        refine ⟨?_, by simp [intOf]; omega⟩
                        first
                          | exact ⟨j + 1, by omega, by go_num, by rw [HNX1.out, HR2.out]; exact HS4⟩
                          | ((repeat apply Exists.intro); exact ⟨⟨j + 1, by omega, by go_num, by rw [HNX1.out, HR2.out]; exact HS4⟩, rfl⟩)
                  · have g1d : decide ((0 : Int) ≤ valL Y1 z) = false := decide_eq_false g1
                    have HC : Hid (canB z a ln Y1 = false) := Bool.eq_false_iff.2 (fun h => by have h1 := canB_iff.1 h; omega)
                    have HR2 : Hid (relax z a ln Y1 = Y1) := by unfold Hid relax; rw [HC.out]; rfl
                    refine region_cls (by kernel_rfl) (by kernel_rfl) ?_
                    repeat (first
                      | ((with_reducible refine quiet_pos ?_ (fun K hK => ?_))
                         · rfl
                         apply Exists.intro
                         refine ⟨fun w' hw' => ?_, ?_⟩
                         · go_simp
                           with_reducible rfl
                         simp only [Act.put, List.setIfInBounds_toArray, List.set_cons_zero, List.set_cons_succ]
                         refine hK _ ?_; clear hK K)
                      | ((with_reducible refine quiet_neg ?_ (fun K hK => ?_))
                         · rfl
                         simp only [Act.put, List.setIfInBounds_toArray, List.set_cons_zero, List.set_cons_succ]
                         refine hK _ ?_; clear hK K))
                    with_reducible refine wpQuiet_nil ?_
                    intro wz hwz'
                    have HS4 := hid (hSb.step hwz')
                    clear hSb WA WZ hwz'
                    go_wp2
                    refine ⟨?_, by simp [intOf]; omega⟩
                    first
                      | exact ⟨j + 1, by omega, by go_num, by rw [HNX1.out, HR2.out]; exact HS4⟩
                      | ((repeat apply Exists.intro); exact ⟨⟨j + 1, by omega, by go_num, by rw [HNX1.out, HR2.out]; exact HS4⟩, rfl⟩)
              · have HQ0 : Hid (goneF l ((2 * j) / 2) = true ∧ goneF l ((2 * j + 1) / 2) = true) := by rw [HD2.out.1, HD2.out.2]; exact ⟨gk, gk⟩
                have HNX : Hid (dstTo (goneF l) fs X (2 * (j + 1)) = dstTo (goneF l) fs X (2 * j)) := by
                  unfold Hid
                  rw [show 2 * (j + 1) = (2 * j + 1) + 1 by omega, dstTo_succ, HQ0.out.2, dstTo_succ, HQ0.out.1]; rfl
                clear HA0 HA1 HD2 HQ0 P1 F0 F1 F2 q1 f0 f1 f2
                go_wp2
                refine ⟨?_, by simp [intOf]; omega⟩
                first
                  | exact ⟨j + 1, by omega, by go_num, by rw [HNX.out]; exact HS⟩
                  | ((repeat apply Exists.intro); exact ⟨⟨j + 1, by omega, by go_num, by rw [HNX.out]; exact HS⟩, rfl⟩)
            · have hjm : 2 * j = 2 * fs.length := by have := hlf.out; omega
              have HR : Hid (dstRnd (goneF l) fs n s (r + 1) = dstTo (goneF l) fs X (2 * j)) := by unfold Hid; rw [HN.out, hjm]; rfl
              clear hjm
              go_wp2
              refine ⟨?_, by simp [intOf]; omega⟩
              first
                | exact ⟨r + 1, by omega, by go_num, by rw [HR.out]; exact HS⟩
                | ((repeat apply Exists.intro); exact ⟨⟨r + 1, by omega, by go_num, by rw [HR.out]; exact HS⟩, rfl⟩)
        · have hrn : r = n := by omega
          have HR : Hid (distL (goneF l) fs n s = dstRnd (goneF l) fs n s r) := by rw [hrn]; rfl
          clear hrn
          go_wp2
          go_ret
          exact ⟨_, rfl, by rw [HR.out]; exact HS.out.own 0 rfl, HS.out.bl⟩
end
end Go.Proofs.YtjfafhehpfjofaaGreat
