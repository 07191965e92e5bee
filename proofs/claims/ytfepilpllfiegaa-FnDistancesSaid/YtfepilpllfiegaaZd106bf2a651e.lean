/- Lemmas and walks that the claim rests on, laid together. Conditions: none. -/
import Derived.Test.YtfepilpllfiegaaZ1b08e2d0e358
/- Distances: lengthsFrom, l5Distances, walked. Conditions: the network's valid parts: ends are nodes, lengths are 1 to 5000, 2 to 8 nodes, at most 14 fibers. -/
namespace Go.Proofs.Ytfepilpllfiegaa
open Go.RowKit
theorem goneF_nil (j : Nat) : goneF [] j = false := Bool.eq_false_iff.2 (fun h => by have h1 := hasB_iff.1 h; cases h1)
/-- What these walks ask of fibers. -/
def lens5 (fs : List Fib) : Prop := ∀ i, i < fs.length → 1 ≤ (fibD fs i).len ∧ (fibD fs i).len ≤ 5000
theorem lens5_pos {fs : List Fib} (h : lens5 fs) : lensB fs := fun i hi => (h i hi).1
theorem goodB_lens5 {xs : List ByteArray} {fs : List Fib} (h : goodB xs fs = true) : lens5 fs := fun i hi => by
  have h1 := goodB_fibB h (List.getElem_mem hi)
  have e : fibD fs i = fs[i] := getD_of (List.getElem?_eq_getElem hi)
  rw [e]
  unfold fibB at h1; simp at h1; omega
theorem dstTo_bd {q : Nat → Bool} {fs : List Fib} {D : List Int} {M : Int} (hl : lens5 fs) (hM : 0 ≤ M) (hD : ∀ v, valL D v ≤ M) : ∀ j, j ≤ 2 * fs.length → ∀ v, valL (dstTo q fs D j) v ≤ M + 5000 * (j : Int) := by
  intro j
  induction j with
  | zero => intro _ v; have := hD v; show valL D v ≤ _; omega
  | succ j ih =>
    intro hj v
    have i1 := ih (by omega)
    have h5 := (hl (j / 2) (by omega)).2
    rw [dstTo_succ]
    split
    · have := i1 v; omega
    · unfold relax
      split
      · unfold valL
        rw [List.getD_eq_getElem?_getD, List.getElem?_set]
        have a1 := i1 (arcU fs j)
        have a2 := i1 v
        unfold valL at a1 a2
        rw [List.getD_eq_getElem?_getD] at a1 a2
        have a3 : arcLn fs j ≤ 5000 := h5
        split
        · split
          · simp only [Option.getD_some]
            show valL _ _ + _ ≤ _
            unfold valL
            rw [List.getD_eq_getElem?_getD]
            omega
          · simp only [Option.getD_none]; omega
        · omega
      · have := i1 v; omega
theorem dstRnd_bd {q : Nat → Bool} {fs : List Fib} {n s : Nat} (hl : lens5 fs) (k : Nat) : ∀ v, valL (dstRnd q fs n s k) v ≤ 10000 * ((fs.length : Int) * (k : Int)) := by
  induction k with
  | zero =>
    intro v
    show valL (dst0 n s) v ≤ _
    unfold dst0 valL
    rw [List.getD_eq_getElem?_getD, List.getElem?_set]
    split
    · split <;> simp
    · rw [List.getElem?_replicate]
      split <;> simp
  | succ k ih =>
    intro v
    have hnn : (0 : Int) ≤ (fs.length : Int) * (k : Int) := Int.mul_nonneg (by omega) (by omega)
    have h1 := dstTo_bd (q := q) hl (M := 10000 * ((fs.length : Int) * (k : Int))) (by omega) ih (2 * fs.length) (Nat.le_refl _) v
    show valL (dstTo q fs (dstRnd q fs n s k) (2 * fs.length)) v ≤ _
    have e : (fs.length : Int) * ((k + 1 : Nat) : Int) = (fs.length : Int) * (k : Int) + (fs.length : Int) := by rw [Int.natCast_add, Int.mul_add]; simp
    rw [e]
    omega
section
variable {n c m d : Nat} {A A' : Option Addr} {xs : List ByteArray} {fs : List Fib}
set_option maxHeartbeats 8000000 in
set_option maxRecDepth 100000 in
theorem lengthsFrom_any (s : Nat) (w : World) (h : NetIs w A n c A' m d xs fs) (he : endsB n fs) (hl5 : lens5 fs) (hs : s < n) (hn8 : n ≤ 8) (hm14 : m ≤ 14) :
    Calls Try.prog 90 #[.agg #[.slice A n c, .slice A' m d], .int .i64 (s : Int)] w fun e w' => ∃ v, e = .returned v ∧ Owns elInt w' w.heap.size 3 v (distL (goneF []) fs n s) ∧ Below w.heap.size w w' := by
  have hlf := hid h.flen
  have HE := hid he
  have HL5 := hid hl5
  have HLB := hid (lens5_pos hl5)
  have HF := hid h
  have hS0 := (Led.nil w).blk_ w.heap.size rfl 27 #[.slice A n c, .slice A' m d]
  have q0 := hS0.cell 0 0 rfl rfl
  have hS := hS0.blk_ (w.heap.size + 1) (by simp) 3 #[.int .i64 (-1)]
  clear he h hl5
  go_enter Try.func90, Try.ntmps90
  go_wp2_with fail
  refine (repeat_any (x := -1) _ (sees_new elInt (w.alloc (.cells #[.slice A n c, .slice A' m d] 27)) (-1) 3 (w.heap.size + 1) (by simp)) (by omega) (by omega)).mono ?_
  rintro e w1 ⟨v, rfl, ho, hb⟩
  obtain ⟨g, cV, rfl⟩ := ho.splitg (by simp) (show 0 < n by omega)
  replace hS := (hS.owns_ (b0 := w.heap.size) hb (ho) (Nat.le_refl _) hS.bl.size)
  clear ho hb q0 hS0
  have is : (s : Int) < (n : Int) := by omega
  have v0 := hS.int_at 0 rfl (j := s) (by simp; omega)
  have y0 := hS.int_free 0 rfl s
  have hS1 := hS.int_set 0 rfl (j := s) (by simp; omega) 0
  have hz : (List.replicate n (-1 : Int)).set s 0 = dstRnd (goneF []) fs n s 0 := rfl
  rw [hz] at hS1
  have HS : Hid (∀ W, W = w1.setCell ⟨g, s, none⟩ (.int .i64 0) → Led w W [tOwns elInt w.heap.size 3 (.slice (some ⟨g, 0, none⟩) n cV) (dstRnd (goneF []) fs n s 0), tBlk w.heap.size 27 #[.slice A n c, .slice A' m d]]) := fun W hW => by
    subst hW
    have h1 := hS1.all 0 _ rfl
    have h2 := hS1.all 2 _ rfl
    refine ⟨hS1.bl, fun i t ht => ?_, fun i j a b hij ha hb k k1 k2 => ?_⟩
    · match i, ht with
      | 0, ht => simp at ht; subst ht; exact h1
      | 1, ht => simp at ht; subst ht; exact h2
    · match i, j, ha, hb with
      | 0, 0, _, _ => exact hij rfl
      | 1, 1, _, _ => exact hij rfl
      | 0, 1, ha, hb => exact hS1.apart 0 2 a b (by omega) (by simpa using ha) (by simpa using hb) k k1 k2
      | 1, 0, ha, hb => exact hS1.apart 2 0 a b (by omega) (by simpa using ha) (by simpa using hb) k k1 k2
  clear hS hS1 hz
  go_wp2_with fail
  have HS2 := hid (HS.out _ rfl)
  clear HS v0 y0
  generalize w1.setCell ⟨g, s, none⟩ (.int .i64 0) = W1 at *
  go_loopg [6] (n + 2) (fun gk b wr => ∃ (r : Nat) (more : Bool), b = .bool more ∧ r + gk = n + 2 ∧ Hid (more = true → r ≤ n) ∧ Hid (more = false → dstRnd (goneF []) fs n s r = distL (goneF []) fs n s) ∧ Hid (Led w wr [tOwns elInt w.heap.size 3 (.slice (some ⟨g, 0, none⟩) n cV) (dstRnd (goneF []) fs n s r), tBlk w.heap.size 27 #[.slice A n c, .slice A' m d]]))
  case atStart => exact ⟨0, true, rfl, by omega, (show true = true → 0 ≤ n from fun _ => Nat.zero_le _), (show true = false → _ from fun h => Bool.noConfusion h), HS2⟩
  case round =>
    clear HS2
    obtain ⟨r, more, rfl, hrg, hm1, hm2, HS⟩ := hrel
    cases more
    case false =>
      have HR := hid (hm2.out rfl)
      clear hm1 hm2
      go_wp2
      go_ret
      exact ⟨_, rfl, by rw [← HR.out]; exact HS.out.own 0 rfl, HS.out.bl⟩
    case true =>
      have hrn := hm1.out rfl
      clear hm1 hm2
      have q1 := HS.out.cell 1 1 rfl rfl
      obtain ⟨X, hX⟩ : ∃ X, X = dstRnd (goneF []) fs n s r := ⟨_, rfl⟩
      have hXl : Hid (X.length = n) := by rw [hX]; exact dstRnd_len r
      have HN : Hid (dstRnd (goneF []) fs n s (r + 1) = dstPass (goneF []) fs X) := by rw [hX]; rfl
      have HXB : Hid (∀ v, valL X v ≤ 2000000) := fun v => by
        rw [hX]
        have h1 := dstRnd_bd (q := goneF []) (n := n) (s := s) HL5.out r v
        have h2 : (fs.length : Int) * (r : Int) ≤ 14 * 8 := Int.mul_le_mul (by rw [hlf.out]; omega) (by omega) (by omega) (by omega)
        omega
      rw [← hX] at HS
      have HX := hid hX
      clear hX
      have HS1 : Hid (Led w wr [tOwns elInt w.heap.size 3 (.slice (some ⟨g, 0, none⟩) n cV) (dstTo (goneF []) fs X (2 * 0)), tBlk w.heap.size 27 #[.slice A n c, .slice A' m d]]) := HS
      clear HS
      go_wp2_with fail
      clear q1
      go_loopw [6, 24] (fun b i wr => ∃ j : Nat, j ≤ m ∧ i = .int .i64 j ∧ b = .bool (dchB (goneF []) fs X (2 * j)) ∧ Hid (Led w wr [tOwns elInt w.heap.size 3 (.slice (some ⟨g, 0, none⟩) n cV) (dstTo (goneF []) fs X (2 * j)), tBlk w.heap.size 27 #[.slice A n c, .slice A' m d]])) (fun _ i _ => m - (intOf i).toNat)
      case atStart => exact ⟨0, Nat.zero_le _, rfl, rfl, HS1⟩
      case round =>
        clear HS1
        obtain ⟨j, hj, rfl, rfl, HS⟩ := hrel
        obtain ⟨ch0, hch0⟩ : ∃ ch, ch = dchB (goneF []) fs X (2 * j) := ⟨_, rfl⟩
        rw [← hch0]
        have HCH0 := hid hch0
        clear hch0
        by_cases hlt2 : j < m
        · obtain ⟨fb, fo, rfl, _, hc⟩ := HF.out.fibs.at_ hlt2
          obtain ⟨f, hfj⟩ := get_of (k := j) hlf.out hlt2
          have f0 := bl_cell HS.out.bl (hc j f hfj 0 _ rfl)
          have f1 := bl_cell HS.out.bl (hc j f hfj 1 _ rfl)
          have f2 := bl_cell HS.out.bl (hc j f hfj 2 _ rfl)
          have f3 := bl_cell HS.out.bl (hc j f hfj 3 _ rfl)
          simp only [elFib, Nat.add_zero] at f0 f1 f2 f3
          have hfd : fibD fs j = f := getD_of hfj
          have hends := HE.out j (by rw [hlf.out]; exact hlt2)
          have hlen5 := HL5.out j (by rw [hlf.out]; exact hlt2)
          rw [hfd] at hends hlen5
          obtain ⟨a, ha⟩ : ∃ a : Nat, f.a = (a : Int) := ⟨f.a.toNat, by omega⟩
          obtain ⟨z, hb⟩ : ∃ z : Nat, f.b = (z : Int) := ⟨f.b.toNat, by omega⟩
          obtain ⟨ln, hln⟩ : ∃ ln : Int, f.len = ln := ⟨_, rfl⟩
          rw [ha, hb] at hends
          rw [ha] at f0
          rw [hb] at f1
          rw [hln] at f2 hlen5
          have HA0 : Hid (arcU fs (2 * j + 0) = a ∧ arcV fs (2 * j + 0) = z ∧ arcLn fs (2 * j + 0) = ln) := by
            unfold Hid arcU arcV arcLn
            rw [show (2 * j + 0) % 2 = 0 by omega, show (2 * j + 0) / 2 = j by omega, hfd, ha, hb, hln]; simp
          have HA1 : Hid (arcU fs (2 * j + 1) = z ∧ arcV fs (2 * j + 1) = a ∧ arcLn fs (2 * j + 1) = ln) := by
            unfold Hid arcU arcV arcLn
            rw [show (2 * j + 1) % 2 = 1 by omega, show (2 * j + 1) / 2 = j by omega, hfd, ha, hb, hln]; simp
          have iaz : a ≠ z := by omega
          have ian : a < n := by omega
          have izn : z < n := by omega
          have hS1 := (HS.out.blk_ wr.heap.size rfl 62 #[.int .i64 (a : Int), .int .i64 (z : Int), .int .i64 ln, .int .i64 f.risk]).blk_ (wr.heap.size + 1) (by simp) 144 #[.int .i64 (a : Int), .int .i64 (z : Int), .int .i64 (z : Int), .int .i64 (a : Int)]
          have HSA := hid hS1
          clear hc hfj hfd ha hb hln hends hS1 HS
          go_wp2_with fail
          clear f0 f1 f2 f3
          have HX0 : Hid (ch0 = dchB (goneF []) fs X (2 * j + 0)) := HCH0.out
          clear HCH0
          obtain ⟨B0, hB0⟩ : ∃ B0, wr.heap.size = B0 := ⟨_, rfl⟩
          rw [hB0] at HSA ⊢
          have HSA0 : Hid (∃ W, W = ((wr.alloc (.cells #[.int .i64 (a : Int), .int .i64 (z : Int), .int .i64 ln, .int .i64 f.risk] 62)).alloc (.cells #[.int .i64 (a : Int), .int .i64 (z : Int), .int .i64 (z : Int), .int .i64 (a : Int)] 144))) := ⟨_, rfl⟩
          clear HSA0 hB0
          go_loopw [6, 40] (fun b i wr => ∃ t : Nat, t ≤ 2 ∧ i = .int .i64 t ∧ b = .bool (dchB (goneF []) fs X (2 * j + t)) ∧ Hid (Led w wr [tBlk (B0 + 1) 144 #[.int .i64 (a : Int), .int .i64 (z : Int), .int .i64 (z : Int), .int .i64 (a : Int)], tBlk B0 62 #[.int .i64 (a : Int), .int .i64 (z : Int), .int .i64 ln, .int .i64 f.risk], tOwns elInt w.heap.size 3 (.slice (some ⟨g, 0, none⟩) n cV) (dstTo (goneF []) fs X (2 * j + t)), tBlk w.heap.size 27 #[.slice A n c, .slice (some ⟨fb, fo, none⟩) m d]])) (fun _ i _ => 2 - (intOf i).toNat)
          case atStart => exact ⟨0, by decide, rfl, by rw [HX0.out], HSA⟩
          case round =>
            clear HSA HX0
            obtain ⟨t, ht, rfl, rfl, HS⟩ := hrel
            obtain ⟨ch, hch⟩ : ∃ ch, ch = dchB (goneF []) fs X (2 * j + t) := ⟨_, rfl⟩
            rw [← hch]
            have HCH := hid hch
            clear hch
            by_cases hlt3 : t < 2
            · obtain ⟨u, v, c0, c1, hA, hun, hvn, huv⟩ : ∃ u v : Nat, wr.cell? ⟨B0 + 1, t * 2, none⟩ = some (.int .i64 (u : Int)) ∧ wr.cell? ⟨B0 + 1, t * 2 + 1, none⟩ = some (.int .i64 (v : Int)) ∧ (arcU fs (2 * j + t) = u ∧ arcV fs (2 * j + t) = v ∧ arcLn fs (2 * j + t) = ln) ∧ u < n ∧ v < n ∧ u ≠ v := by
                rcases (show t = 0 ∨ t = 1 by omega) with rfl | rfl
                · exact ⟨a, z, HS.out.cell 0 0 rfl rfl, HS.out.cell 0 1 rfl rfl, HA0.out, ian, izn, iaz⟩
                · exact ⟨z, a, HS.out.cell 0 2 rfl rfl, HS.out.cell 0 3 rfl rfl, HA1.out, izn, ian, fun e => iaz e.symm⟩
              have hYl : Hid ((dstTo (goneF []) fs X (2 * j + t)).length = n) := (dstTo_len X _).trans hXl.out
              have HYB : Hid (∀ v, valL (dstTo (goneF []) fs X (2 * j + t)) v ≤ 2200000) := fun v => by
                have h1 := dstTo_bd (q := goneF []) HL5.out (by decide) HXB.out (2 * j + t) (by rw [hlf.out]; omega) v
                omega
              have HNX : Hid (dstTo (goneF []) fs X (2 * j + (t + 1)) = relax u v ln (dstTo (goneF []) fs X (2 * j + t))) := by
                unfold Hid
                rw [show 2 * j + (t + 1) = (2 * j + t) + 1 by omega, dstTo_no (goneF_nil _), hA.1, hA.2.1, hA.2.2]
              have HCX : Hid (dchB (goneF []) fs X (2 * j + (t + 1)) = (ch || canB u v ln (dstTo (goneF []) fs X (2 * j + t)))) := by
                show dchB (goneF []) fs X (2 * j + t + 1) = _
                show (dchB (goneF []) fs X (2 * j + t) || (!(goneF [] ((2 * j + t) / 2)) && canB (arcU fs (2 * j + t)) (arcV fs (2 * j + t)) (arcLn fs (2 * j + t)) (dstTo (goneF []) fs X (2 * j + t)))) = _
                rw [← HCH.out, goneF_nil, hA.1, hA.2.1, hA.2.2]; rfl
              clear hA HCH
              generalize dstTo (goneF []) fs X (2 * j + t) = Y at *
              have hSe := HS.out.blk_ wr.heap.size rfl 144 #[.int .i64 (u : Int), .int .i64 (v : Int)]
              have e0 := hSe.cell 0 0 rfl rfl
              have v0 := hSe.int_at 3 rfl (j := u) (by rw [hYl.out]; omega)
              have iu : (u : Int) < (n : Int) := by omega
              have iv : (v : Int) < (n : Int) := by omega
              have it : (t : Int) < 2 := by omega
              have hyb := HYB.out u
              clear HS
              go_wp2_with fail
              clear c0 c1 e0 v0
              generalize wr.alloc (.cells #[.int .i64 (u : Int), .int .i64 (v : Int)] 144) = W at *
              have E1 : ∀ w', Cls W w' → w'.cell? ⟨wr.heap.size, 1, none⟩ = some (.int .i64 (v : Int)) := fun _ h => h.cell (hSe.cell 0 1 rfl rfl)
              have EL : ∀ w', Cls W w' → w'.cell? ⟨B0, 2, none⟩ = some (.int .i64 ln) := fun _ h => h.cell (hSe.cell 2 2 rfl rfl)
              have VV : ∀ w', Cls W w' → w'.cell? ⟨g, v, none⟩ = some (.int .i64 (valL Y v)) := fun _ h => h.cell (hSe.int_at 3 rfl (j := v) (by rw [hYl.out]; omega))
              by_cases g1 : (0 : Int) ≤ valL Y u
              · have g1d : decide ((0 : Int) ≤ valL Y u) = true := decide_eq_true g1
                have iw : IntKind.i64.wrap (valL Y u + ln) = valL Y u + ln := IntWalk.i64_in _ (by omega)
                by_cases g2 : valL Y v < 0
                · have g2d : decide (valL Y v < 0) = true := decide_eq_true g2
                  have HC : Hid (canB u v ln Y = true) := canB_iff.2 ⟨g1, .inl g2⟩
                  have HR : Hid (relax u v ln Y = Y.set v (valL Y u + ln)) := by unfold Hid relax; rw [HC.out]; rfl
                  have HQ : Hid (dchB (goneF []) fs X (2 * j + (t + 1)) = true) := by unfold Hid; rw [HCX.out, HC.out]; simp
                  refine region_cls (by kernel_rfl) (by kernel_rfl) ?_
                  repeat (first
                    | ((with_reducible refine quiet_pos ?_ (fun K hK => ?_))
                       · rfl
                       apply Exists.intro
                       refine ⟨fun w' hw' => ?_, ?_⟩
                       · go_simp
                         with_reducible rfl
                       simp only [Act.put, List.setIfInBounds_toArray, List.set_cons_zero, List.set_cons_succ]
                       refine hK _ ?_; clear hK K)
                    | ((with_reducible refine quiet_neg ?_ (fun K hK => ?_))
                       · rfl
                       simp only [Act.put, List.setIfInBounds_toArray, List.set_cons_zero, List.set_cons_succ]
                       refine hK _ ?_; clear hK K))
                  with_reducible refine wpQuiet_nil ?_
                  intro wz hwz'
                  have hS2 := hSe.step hwz'
                  clear hSe E1 EL VV hwz'
                  have e1 := hS2.cell 0 1 rfl rfl
                  have l2 := hS2.cell 2 2 rfl rfl
                  have vv := hS2.int_at 3 rfl (j := v) (by rw [hYl.out]; omega)
                  have yv := hS2.int_free 3 rfl v
                  have HS4 := hid ((hS2.int_set 3 rfl (j := v) (by rw [hYl.out]; omega) (valL Y u + ln)).drop 1)
                  clear hS2
                  go_wp2
                  refine ⟨?_, by simp [intOf]; omega⟩
                  first
                    | exact ⟨t + 1, by omega, by go_num, by rw [HQ.out], by rw [HNX.out, HR.out]; exact HS4⟩
                    | ((repeat apply Exists.intro); exact ⟨⟨t + 1, by omega, by go_num, by rw [HQ.out], by rw [HNX.out, HR.out]; exact HS4⟩, rfl⟩)
                · have g2d : decide (valL Y v < 0) = false := decide_eq_false g2
                  by_cases g3 : valL Y u + ln < valL Y v
                  · have g3d : decide (valL Y u + ln < valL Y v) = true := decide_eq_true g3
                    have HC : Hid (canB u v ln Y = true) := canB_iff.2 ⟨g1, .inr g3⟩
                    have HR : Hid (relax u v ln Y = Y.set v (valL Y u + ln)) := by unfold Hid relax; rw [HC.out]; rfl
                    have HQ : Hid (dchB (goneF []) fs X (2 * j + (t + 1)) = true) := by unfold Hid; rw [HCX.out, HC.out]; simp
                    refine region_cls (by kernel_rfl) (by kernel_rfl) ?_
                    repeat (first
                      | ((with_reducible refine quiet_pos ?_ (fun K hK => ?_))
                         · rfl
                         apply Exists.intro
                         refine ⟨fun w' hw' => ?_, ?_⟩
                         · go_simp
                           with_reducible rfl
                         simp only [Act.put, List.setIfInBounds_toArray, List.set_cons_zero, List.set_cons_succ]
                         refine hK _ ?_; clear hK K)
                      | ((with_reducible refine quiet_neg ?_ (fun K hK => ?_))
                         · rfl
                         simp only [Act.put, List.setIfInBounds_toArray, List.set_cons_zero, List.set_cons_succ]
                         refine hK _ ?_; clear hK K))
                    with_reducible refine wpQuiet_nil ?_
                    intro wz hwz'
                    have hS2 := hSe.step hwz'
                    clear hSe E1 EL VV hwz'
                    have e1 := hS2.cell 0 1 rfl rfl
                    have l2 := hS2.cell 2 2 rfl rfl
                    have vv := hS2.int_at 3 rfl (j := v) (by rw [hYl.out]; omega)
                    have yv := hS2.int_free 3 rfl v
                    have HS4 := hid ((hS2.int_set 3 rfl (j := v) (by rw [hYl.out]; omega) (valL Y u + ln)).drop 1)
                    clear hS2
                    go_wp2
                    refine ⟨?_, by simp [intOf]; omega⟩
                    first
                      | exact ⟨t + 1, by omega, by go_num, by rw [HQ.out], by rw [HNX.out, HR.out]; exact HS4⟩
                      | ((repeat apply Exists.intro); exact ⟨⟨t + 1, by omega, by go_num, by rw [HQ.out], by rw [HNX.out, HR.out]; exact HS4⟩, rfl⟩)
                  · have g3d : decide (valL Y u + ln < valL Y v) = false := decide_eq_false g3
                    have HC : Hid (canB u v ln Y = false) := Bool.eq_false_iff.2 (fun h => by have h1 := canB_iff.1 h; omega)
                    have HR : Hid (relax u v ln Y = Y) := by unfold Hid relax; rw [HC.out]; rfl
                    have HQ : Hid (dchB (goneF []) fs X (2 * j + (t + 1)) = ch) := by unfold Hid; rw [HCX.out, HC.out]; simp
                    refine region_cls (by kernel_rfl) (by kernel_rfl) ?_
                    repeat (first
                      | ((with_reducible refine quiet_pos ?_ (fun K hK => ?_))
                         · rfl
                         apply Exists.intro
                         refine ⟨fun w' hw' => ?_, ?_⟩
                         · go_simp
                           with_reducible rfl
                         simp only [Act.put, List.setIfInBounds_toArray, List.set_cons_zero, List.set_cons_succ]
                         refine hK _ ?_; clear hK K)
                      | ((with_reducible refine quiet_neg ?_ (fun K hK => ?_))
                         · rfl
                         simp only [Act.put, List.setIfInBounds_toArray, List.set_cons_zero, List.set_cons_succ]
                         refine hK _ ?_; clear hK K))
                    with_reducible refine wpQuiet_nil ?_
                    intro wz hwz'
                    have HS4 := hid ((hSe.step hwz').drop 1)
                    clear hSe E1 EL VV hwz'
                    go_wp2
                    refine ⟨?_, by simp [intOf]; omega⟩
                    first
                      | exact ⟨t + 1, by omega, by go_num, by rw [HQ.out], by rw [HNX.out, HR.out]; exact HS4⟩
                      | ((repeat apply Exists.intro); exact ⟨⟨t + 1, by omega, by go_num, by rw [HQ.out], by rw [HNX.out, HR.out]; exact HS4⟩, rfl⟩)
              · have g1d : decide ((0 : Int) ≤ valL Y u) = false := decide_eq_false g1
                have HC : Hid (canB u v ln Y = false) := Bool.eq_false_iff.2 (fun h => by have h1 := canB_iff.1 h; omega)
                have HR : Hid (relax u v ln Y = Y) := by unfold Hid relax; rw [HC.out]; rfl
                have HQ : Hid (dchB (goneF []) fs X (2 * j + (t + 1)) = ch) := by unfold Hid; rw [HCX.out, HC.out]; simp
                refine region_cls (by kernel_rfl) (by kernel_rfl) ?_
                repeat (first
                  | ((with_reducible refine quiet_pos ?_ (fun K hK => ?_))
                     · rfl
                     apply Exists.intro
                     refine ⟨fun w' hw' => ?_, ?_⟩
                     · go_simp
                       with_reducible rfl
                     simp only [Act.put, List.setIfInBounds_toArray, List.set_cons_zero, List.set_cons_succ]
                     refine hK _ ?_; clear hK K)
                  | ((with_reducible refine quiet_neg ?_ (fun K hK => ?_))
                     · rfl
                     simp only [Act.put, List.setIfInBounds_toArray, List.set_cons_zero, List.set_cons_succ]
                     refine hK _ ?_; clear hK K))
                with_reducible refine wpQuiet_nil ?_
                intro wz hwz'
                have HS4 := hid ((hSe.step hwz').drop 1)
                clear hSe E1 EL VV hwz'
                go_wp2
                refine ⟨?_, by simp [intOf]; omega⟩
                first
                  | exact ⟨t + 1, by omega, by go_num, by rw [HQ.out], by rw [HNX.out, HR.out]; exact HS4⟩
                  | ((repeat apply Exists.intro); exact ⟨⟨t + 1, by omega, by go_num, by rw [HQ.out], by rw [HNX.out, HR.out]; exact HS4⟩, rfl⟩)
            · have ht2 : t = 2 := by omega
              have HQ : Hid (dchB (goneF []) fs X (2 * (j + 1)) = ch) := by rw [HCH.out, ht2]; rfl
              have HS4 := hid (HS.out.drop 2)
              rw [show 2 * j + t = 2 * (j + 1) by omega] at HS4
              clear ht2 HS HCH
              go_wp2
              refine ⟨?_, by simp [intOf]; omega⟩
              first
                | exact ⟨j + 1, by omega, by go_num, by rw [HQ.out], HS4⟩
                | ((repeat apply Exists.intro); exact ⟨⟨j + 1, by omega, by go_num, by rw [HQ.out], HS4⟩, rfl⟩)
        · have hjm : 2 * j = 2 * fs.length := by have := hlf.out; omega
          have HR : Hid (dstRnd (goneF []) fs n s (r + 1) = dstTo (goneF []) fs X (2 * j)) := by unfold Hid; rw [HN.out, hjm]; rfl
          have HG1 : Hid (ch0 = true → r + 1 ≤ n) := fun hc => by
            apply Classical.byContradiction
            intro hlt
            have h1 := dstRnd_late (q := goneF []) HE.out HLB.out hs (show n ≤ r by omega)
            rw [HN.out, ← HX.out] at h1
            exact dchB_yes hXl.out HE.out HLB.out (Nat.le_of_eq hjm) (by rw [← HCH0.out]; exact hc) h1
          have HG2 : Hid (ch0 = false → dstRnd (goneF []) fs n s (r + 1) = distL (goneF []) fs n s) := fun hc => by
            have h1 := dchB_no (q := goneF []) (fs := fs) (D := X) (j := 2 * j) (by rw [← HCH0.out]; exact hc)
            have h2 : dstRnd (goneF []) fs n s (r + 1) = dstRnd (goneF []) fs n s r := by rw [HR.out, h1, HX.out]
            rw [h2]
            exact dstRnd_done HE.out HLB.out hs h2
          clear hjm
          go_wp2_with fail
          go_roundg (gk - 1)
          case measure => omega
          case rel => exact ⟨r + 1, ch0, rfl, by omega, HG1, HG2, by rw [HR.out]; exact HS⟩

end
end Go.Proofs.Ytfepilpllfiegaa
