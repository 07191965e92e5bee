/- spec.l6Labels: the reference's components, walked. Conditions: the fibers' ends are nodes; 2 nodes at least; at most 20 fibers. -/
import Derived.Test.YtdnmkcalpfkfhaaComp
import Derived.Test.YtdnmkcalpfkfhaaMask
import Derived.Deep.LoopGhost
namespace Go.Proofs.Ytdnmkcalpfkfhaa
open Go.RowKit
set_option maxRecDepth 100000 in
theorem least_any (a b : Int) (w : World) : Calls Try.prog 129 #[.int .i64 a, .int .i64 b] w fun e w' => e = .returned (.int .i64 (min a b)) ∧ w = w' := by
  by_cases h : a < b
  · have H : Hid (min a b = a) := by unfold Hid; omega
    go_enter Try.func129, Try.ntmps129
    go_wp2
    go_ret
    exact ⟨by rw [H.out]; rfl, rfl⟩
  · have H : Hid (min a b = b) := by unfold Hid; omega
    go_enter Try.func129, Try.ntmps129
    go_wp2
    go_ret
    exact ⟨by rw [H.out]; rfl, rfl⟩
section
variable {n c m d : Nat} {A A' : Option Addr} {xs : List ByteArray} {fs : List Fib}
set_option maxHeartbeats 4000000 in
set_option maxRecDepth 100000 in
theorem labels_any (M : Nat) (w : World) (h : NetIs w A n c A' m d xs fs) (hM : M < 2 ^ 20) (he : endsB n fs) (hn0 : 0 < n) (hm20 : m ≤ 20) :
    Calls Try.prog 97 #[.agg #[.slice A n c, .slice A' m d], .int .i64 (M : Int)] w fun e w' => ∃ v, e = .returned v ∧ Owns elInt w' w.heap.size 3 v (compL (fun i => M.testBit i) fs n) ∧ Below w.heap.size w w' := by
  obtain ⟨i0, hi, hz0, hz1, hz2⟩ := info_parts int_info
  have hlf := hid h.flen
  have hn := h.nle
  have HE := hid he
  have HF := hid h
  have HMB := hid hM
  have hS := ((Led.nil w).blk_ w.heap.size rfl 35 #[.slice A n c, .slice A' m d]).empty elInt 3 (w.heap.size + 1) (by simp) w.heap.size (by omega)
  have HS : Hid (Led w ((w.alloc (.cells #[.slice A n c, .slice A' m d] 35)).alloc (.cells #[] 3)) [tOwns elInt w.heap.size 3 (.slice (some ⟨w.heap.size + 1, 0, none⟩) 0 0) (marks 0 0), tBlk w.heap.size 35 #[.slice A n c, .slice A' m d]]) := hS
  clear hS he h hM
  go_enter Try.func97, Try.ntmps97
  go_wp2_with fail
  go_loopw [5, 6] (fun V i wr => ∃ k : Nat, k ≤ n ∧ i = .int .i64 k ∧ Hid (Led w wr [tOwns elInt w.heap.size 3 (V) (marks 0 k), tBlk w.heap.size 35 #[.slice A n c, .slice A' m d]])) (fun _ i _ => n - (intOf i).toNat)
  case atStart => exact ⟨0, Nat.zero_le _, rfl, HS⟩
  case round =>
    clear HS
    obtain ⟨k, hk, rfl, HS⟩ := hrel
    have p0 := HS.out.cell 1 0 rfl rfl
    by_cases hlt : k < n
    · have hml := hid (marks_len 0 k)
      obtain ⟨A1, c1, rfl, _⟩ := HS.out.form 0 rfl
      have HS2 := hid (HS.out.blk_ wr.heap.size rfl 3 #[.int .i64 k])
      have HM : Hid (marks 0 (k + 1) = marks 0 k ++ [(k : Int)]) := by unfold Hid; rw [marks_succ]; simp
      clear HS
      go_wp2_with (first
        | (at_builtin; refine wpList_append_led rfl _ _ 26 rfl HS2.out 1 rfl Try.underlying26 hi hz0 hz1 (by rw [hz2]; decide) rfl rfl rfl (show Sees elInt _ _ _ 1 [(k : Int)] from sees_new elInt _ _ _ _ rfl) (by rw [hml.out]; omega) HS2.out.bl.size ?_)
        | go_in)
      intro A2 c2 w2 hS3
      have HS3 := hid (hS3.drop 1)
      clear hS3 HS2 p0
      go_wp2
      go_roundw
      case rel => exact ⟨k + 1, by omega, by go_num, by rw [HM.out]; exact HS3⟩
      case measure => simp [intOf]; omega
    · have hkn : n = k := by omega
      subst hkn
      obtain ⟨g, cV, rfl⟩ := HS.out.row_ 0 rfl (marks_len 0 n) hn0
      have HS1 : Hid (Led w wr [tOwns elInt w.heap.size 3 (.slice (some ⟨g, 0, none⟩) n cV) (rndL (fun i => M.testBit i) fs n 0), tBlk w.heap.size 35 #[.slice A n c, .slice A' m d]]) := HS
      clear hlt HS
      go_wp2_with fail
      clear p0
      go_loopg [7] (n + 2) (fun gk b wr => ∃ (r : Nat) (more : Bool), b = .bool more ∧ r + gk = n + 2 ∧ Hid (more = true → r ≤ n) ∧ Hid (more = false → rndL (fun i => M.testBit i) fs n r = compL (fun i => M.testBit i) fs n) ∧ Hid (Led w wr [tOwns elInt w.heap.size 3 (.slice (some ⟨g, 0, none⟩) n cV) (rndL (fun i => M.testBit i) fs n r), tBlk w.heap.size 35 #[.slice A n c, .slice A' m d]]))
      case atStart => exact ⟨0, true, rfl, by omega, (show true = true → 0 ≤ n from fun _ => Nat.zero_le _), (show true = false → _ from fun h => Bool.noConfusion h), HS1⟩
      case round =>
        clear HS1
        obtain ⟨r, more, rfl, hrg, hm1, hm2, HS⟩ := hrel
        cases more
        case false =>
          have HR := hid (hm2.out rfl)
          clear hm1 hm2
          go_wp2
          go_ret
          exact ⟨_, rfl, by rw [← HR.out]; exact HS.out.own 0 rfl, HS.out.bl⟩
        case true =>
          have hrn := hm1.out rfl
          clear hm1 hm2
          obtain ⟨X, hX⟩ : ∃ X, X = rndL (fun i => M.testBit i) fs n r := ⟨_, rfl⟩
          have hXl : Hid (X.length = n) := by rw [hX]; exact rndL_len r
          have HN : Hid (rndL (fun i => M.testBit i) fs n (r + 1) = passL (fun i => M.testBit i) fs X) := by rw [hX]; rfl
          rw [← hX] at HS
          have HX := hid hX
          clear hX
          have HS1 : Hid (Led w wr [tOwns elInt w.heap.size 3 (.slice (some ⟨g, 0, none⟩) n cV) (passTo (fun i => M.testBit i) fs X 0), tBlk w.heap.size 35 #[.slice A n c, .slice A' m d]]) := HS
          clear HS
          go_wp2_with fail
          go_loopw [7, 8] (fun b i wr => ∃ j : Nat, j ≤ m ∧ i = .int .i64 j ∧ b = .bool (chgB (fun i => M.testBit i) fs X j) ∧ Hid (Led w wr [tOwns elInt w.heap.size 3 (.slice (some ⟨g, 0, none⟩) n cV) (passTo (fun i => M.testBit i) fs X j), tBlk w.heap.size 35 #[.slice A n c, .slice A' m d]])) (fun _ i _ => m - (intOf i).toNat)
          case atStart => exact ⟨0, Nat.zero_le _, rfl, rfl, HS1⟩
          case round =>
            clear HS1
            obtain ⟨j, hj, rfl, rfl, HS⟩ := hrel
            have p1 := HS.out.cell 1 1 rfl rfl
            obtain ⟨ch, hch⟩ : ∃ ch, ch = chgB (fun i => M.testBit i) fs X j := ⟨_, rfl⟩
            rw [← hch]
            have HCH := hid hch
            clear hch
            by_cases hlt2 : j < m
            · obtain ⟨b, o, rfl, _, hc⟩ := HF.out.fibs.at_ hlt2
              obtain ⟨f, hfj⟩ := get_of (k := j) hlf.out hlt2
              have f0 := bl_cell HS.out.bl (hc j f hfj 0 _ rfl)
              have f1 := bl_cell HS.out.bl (hc j f hfj 1 _ rfl)
              simp only [elFib, Nat.add_zero] at f0 f1
              have hfd : fibD fs j = f := getD_of hfj
              have hends := HE.out j (by rw [hlf.out]; exact hlt2)
              rw [hfd] at hends
              obtain ⟨a, ha⟩ : ∃ a : Nat, f.a = (a : Int) := ⟨f.a.toNat, by omega⟩
              obtain ⟨e, hb⟩ : ∃ e : Nat, f.b = (e : Int) := ⟨f.b.toNat, by omega⟩
              rw [ha, hb] at hends
              rw [ha] at f0
              rw [hb] at f1
              have ia : (a : Int) < (n : Int) := by omega
              have ie : (e : Int) < (n : Int) := by omega
              have ij : (j : Int) < (m : Int) := by omega
              have P1 : ∀ w', Cls wr w' → w'.cell? ⟨w.heap.size, 1, none⟩ = some (.slice (some ⟨b, o, none⟩) m d) := fun _ h => h.cell p1
              have F0 : ∀ w', Cls wr w' → w'.cell? ⟨b, o + j * 4, none⟩ = some (.int .i64 (a : Int)) := fun _ h => h.cell f0
              have F1 : ∀ w', Cls wr w' → w'.cell? ⟨b, o + j * 4 + 1, none⟩ = some (.int .i64 (e : Int)) := fun _ h => h.cell f1
              clear hc hfj f0 f1
              go_wp2_with fail
              refine region_cls (by kernel_rfl) (by kernel_rfl) ?_
              repeat (first
                | ((with_reducible refine quiet_pos ?_ (fun K hK => ?_))
                   · rfl
                   apply Exists.intro
                   refine ⟨fun w' hw' => ?_, ?_⟩
                   · go_simp
                     with_reducible rfl
                   simp only [Act.put, List.setIfInBounds_toArray, List.set_cons_zero, List.set_cons_succ]
                   refine hK _ ?_; clear hK K)
                | ((with_reducible refine quiet_neg ?_ (fun K hK => ?_))
                   · rfl
                   simp only [Act.put, List.setIfInBounds_toArray, List.set_cons_zero, List.set_cons_succ]
                   refine hK _ ?_; clear hK K))
              with_reducible refine wpQuiet_nil ?_
              intro wz hwz'
              go_wp2_with fail
              have hS := HS.out.step hwz'
              clear HS P1 F0 F1 hwz' p1
              have hMB := HMB.out
              have iu : IntKind.u64.wrap (j : Int) = (j : Int) := by rw [IntKind.wrap_u64]; omega
              have imn : min j 64 = j := by omega
              have hdv : ((M : Int) / 2 ^ j) = ((M / 2 ^ j : Nat) : Int) := by simp
              have ib := bits_and_one hMB j
              rw [← hdv] at ib
              clear hdv
              cases gb : M.testBit j
              · rw [gb] at ib
                simp only [Bool.false_eq_true, if_false] at ib
                have hpl : Hid ((passTo (fun i => M.testBit i) fs X j).length = n) := (passTo_len X j).trans hXl.out
                have HP : Hid (passTo (fun i => M.testBit i) fs X (j + 1) = joinF f (passTo (fun i => M.testBit i) fs X j)) := by unfold Hid; rw [passTo_no gb, hfd]
                have HC2 : Hid (chgB (fun i => M.testBit i) fs X (j + 1) = (ch || !(valL (passTo (fun i => M.testBit i) fs X j) a == valL (passTo (fun i => M.testBit i) fs X j) e))) := by
                  show (chgB (fun i => M.testBit i) fs X j || (!(M.testBit j) && !(valL (passTo (fun i => M.testBit i) fs X j) (fibD fs j).a.toNat == valL (passTo (fun i => M.testBit i) fs X j) (fibD fs j).b.toNat))) = _
                  rw [← HCH.out, gb, hfd, ha, hb]; rfl
                generalize passTo (fun i => M.testBit i) fs X j = Y at *
                have v0 := hS.int_at 0 rfl (j := a) (by rw [hpl.out]; omega)
                have v1 := hS.int_at 0 rfl (j := e) (by rw [hpl.out]; omega)
                have V0 : ∀ w', Cls wz w' → w'.cell? ⟨g, a, none⟩ = some (.int .i64 (valL Y a)) := fun _ h => h.cell v0
                have V1 : ∀ w', Cls wz w' → w'.cell? ⟨g, e, none⟩ = some (.int .i64 (valL Y e)) := fun _ h => h.cell v1
                clear v0 v1
                cases gv : (valL Y a == valL Y e)
                · have HJ : Hid (joinF f Y = (Y.set a (min (valL Y a) (valL Y e))).set e (min (valL Y a) (valL Y e))) := by unfold Hid joinF; rw [ha, hb]; simp
                  have HQ : Hid (chgB (fun i => M.testBit i) fs X (j + 1) = true) := by unfold Hid; rw [HC2.out, gv]; simp
                  clear HC2 HCH hfd ha hb gb
                  refine region_cls (by kernel_rfl) (by kernel_rfl) ?_
                  repeat (first
                    | ((with_reducible refine quiet_pos ?_ (fun K hK => ?_))
                       · rfl
                       apply Exists.intro
                       refine ⟨fun w' hw' => ?_, ?_⟩
                       · go_simp
                         with_reducible rfl
                       simp only [Act.put, List.setIfInBounds_toArray, List.set_cons_zero, List.set_cons_succ]
                       refine hK _ ?_; clear hK K)
                    | ((with_reducible refine quiet_neg ?_ (fun K hK => ?_))
                       · rfl
                       simp only [Act.put, List.setIfInBounds_toArray, List.set_cons_zero, List.set_cons_succ]
                       refine hK _ ?_; clear hK K))
                  with_reducible refine wpQuiet_nil ?_
                  intro wz hwz'
                  have hS2 := hS.step hwz'
                  have V0' : ∀ w', Cls wz w' → w'.cell? ⟨g, a, none⟩ = some (.int .i64 (valL Y a)) := fun _ h => V0 _ (bl_then hwz' h)
                  have V1' : ∀ w', Cls wz w' → w'.cell? ⟨g, e, none⟩ = some (.int .i64 (valL Y e)) := fun _ h => V1 _ (bl_then hwz' h)
                  clear hS V0 V1 hwz'
                  go_wp2_with fail
                  refine region_cls (by kernel_rfl) (by kernel_rfl) ?_
                  repeat (first
                    | ((with_reducible refine quiet_pos ?_ (fun K hK => ?_))
                       · rfl
                       apply Exists.intro
                       refine ⟨fun w' hw' => ?_, ?_⟩
                       · go_simp
                         first
                           | with_reducible rfl
                           | (go_at_call 129; with_reducible exact hw'.same (least_any _ _ _))
                       simp only [Act.put, List.setIfInBounds_toArray, List.set_cons_zero, List.set_cons_succ]
                       refine hK _ ?_; clear hK K)
                    | ((with_reducible refine quiet_neg ?_ (fun K hK => ?_))
                       · rfl
                       simp only [Act.put, List.setIfInBounds_toArray, List.set_cons_zero, List.set_cons_succ]
                       refine hK _ ?_; clear hK K))
                  with_reducible refine wpQuiet_nil ?_
                  intro wz hwz'
                  have hS := hS2.step hwz'
                  clear hS2 V0' V1' hwz'
                  have v0 := hS.int_at 0 rfl (j := a) (by rw [hpl.out]; omega)
                  have v1 := hS.int_at 0 rfl (j := e) (by rw [hpl.out]; omega)
                  have y0 := hS.int_free 0 rfl a
                  have y1 := hS.int_free 0 rfl e
                  have hS3 := hS.int_set 0 rfl (j := a) (by rw [hpl.out]; omega) (min (valL Y a) (valL Y e))
                  have v2 := hS3.int_at 0 rfl (j := e) (by simp; rw [hpl.out]; omega)
                  have y2 := hS3.int_free 0 rfl e
                  have HS4 := hid (hS3.int_set 0 rfl (j := e) (by simp; rw [hpl.out]; omega) (min (valL Y a) (valL Y e)))
                  clear hS hS3
                  go_wp2_with fail
                  refine ⟨?_, by simp [intOf]; omega⟩
                  first
                    | exact ⟨j + 1, by omega, by go_num, by rw [HQ.out], by rw [HP.out, HJ.out]; exact HS4⟩
                    | ((repeat apply Exists.intro); exact ⟨⟨j + 1, by omega, by go_num, by rw [HQ.out], by rw [HP.out, HJ.out]; exact HS4⟩, rfl⟩)
                · have he2 : valL Y a = valL Y e := by simpa using gv
                  have HJ : Hid (joinF f Y = Y) := by
                    refine joinF_same (n := n) hpl.out (by omega) (by omega) (by omega) ?_
                    rw [ha, hb]; simpa using he2
                  have HQ : Hid (chgB (fun i => M.testBit i) fs X (j + 1) = ch) := by unfold Hid; rw [HC2.out, gv]; simp
                  clear HC2 HCH hfd ha hb he2 gb
                  refine region_cls (by kernel_rfl) (by kernel_rfl) ?_
                  repeat (first
                    | ((with_reducible refine quiet_pos ?_ (fun K hK => ?_))
                       · rfl
                       apply Exists.intro
                       refine ⟨fun w' hw' => ?_, ?_⟩
                       · go_simp
                         with_reducible rfl
                       simp only [Act.put, List.setIfInBounds_toArray, List.set_cons_zero, List.set_cons_succ]
                       refine hK _ ?_; clear hK K)
                    | ((with_reducible refine quiet_neg ?_ (fun K hK => ?_))
                       · rfl
                       simp only [Act.put, List.setIfInBounds_toArray, List.set_cons_zero, List.set_cons_succ]
                       refine hK _ ?_; clear hK K))
                  with_reducible refine wpQuiet_nil ?_
                  intro wz hwz'
                  have HS3 := hid (hS.step hwz')
                  clear hS
                  go_wp2_with fail
                  refine ⟨?_, by simp [intOf]; omega⟩
                  first
                    | exact ⟨j + 1, by omega, by go_num, by rw [HQ.out], by rw [HP.out, HJ.out]; exact HS3⟩
                    | ((repeat apply Exists.intro); exact ⟨⟨j + 1, by omega, by go_num, by rw [HQ.out], by rw [HP.out, HJ.out]; exact HS3⟩, rfl⟩)
              · rw [gb] at ib
                simp only [if_true] at ib
                have HP : Hid (passTo (fun i => M.testBit i) fs X (j + 1) = passTo (fun i => M.testBit i) fs X j) := by unfold Hid; rw [passTo_succ, gb]; rfl
                have HQ : Hid (chgB (fun i => M.testBit i) fs X (j + 1) = ch) := by
                  show (chgB (fun i => M.testBit i) fs X j || (!(M.testBit j) && _)) = _
                  rw [← HCH.out, gb]; simp
                clear HCH hfd ha hb gb
                refine region_cls (by kernel_rfl) (by kernel_rfl) ?_
                repeat (first
                  | ((with_reducible refine quiet_pos ?_ (fun K hK => ?_))
                     · rfl
                     apply Exists.intro
                     refine ⟨fun w' hw' => ?_, ?_⟩
                     · go_simp
                       with_reducible rfl
                     simp only [Act.put, List.setIfInBounds_toArray, List.set_cons_zero, List.set_cons_succ]
                     refine hK _ ?_; clear hK K)
                  | ((with_reducible refine quiet_neg ?_ (fun K hK => ?_))
                     · rfl
                     simp only [Act.put, List.setIfInBounds_toArray, List.set_cons_zero, List.set_cons_succ]
                     refine hK _ ?_; clear hK K))
                with_reducible refine wpQuiet_nil ?_
                intro wz hwz'
                have HS3 := hid (hS.step hwz')
                clear hS
                go_wp2_with fail
                refine ⟨?_, by simp [intOf]; omega⟩
                first
                  | exact ⟨j + 1, by omega, by go_num, by rw [HQ.out], by rw [HP.out]; exact HS3⟩
                  | ((repeat apply Exists.intro); exact ⟨⟨j + 1, by omega, by go_num, by rw [HQ.out], by rw [HP.out]; exact HS3⟩, rfl⟩)
            · have hjm : j = fs.length := by have := hlf.out; omega
              have HR : Hid (rndL (fun i => M.testBit i) fs n (r + 1) = passTo (fun i => M.testBit i) fs X j) := by unfold Hid; rw [HN.out, hjm]; rfl
              have HG1 : Hid (ch = true → r + 1 ≤ n) := fun hc => by
                apply Classical.byContradiction
                intro hlt
                have h1 := rndL_late (q := fun i => M.testBit i) HE.out (show n ≤ r by omega)
                rw [HN.out, ← HX.out] at h1
                exact chgB_yes hXl.out HE.out (Nat.le_of_eq hjm) (by rw [← HCH.out]; exact hc) h1
              have HG2 : Hid (ch = false → rndL (fun i => M.testBit i) fs n (r + 1) = compL (fun i => M.testBit i) fs n) := fun hc => by
                have h1 := chgB_no (q := fun i => M.testBit i) hXl.out HE.out (Nat.le_of_eq hjm) (by rw [← HCH.out]; exact hc)
                have h2 : rndL (fun i => M.testBit i) fs n (r + 1) = rndL (fun i => M.testBit i) fs n r := by rw [HR.out, h1, HX.out]
                rw [h2]
                exact rndL_done HE.out h2
              clear hjm
              go_wp2_with fail
              go_roundg (gk - 1)
              case measure => omega
              case rel => exact ⟨r + 1, ch, rfl, by omega, HG1, HG2, by rw [HR.out]; exact HS⟩
end
end Go.Proofs.Ytdnmkcalpfkfhaa
