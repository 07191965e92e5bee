/- impl.components: the components without some fibers, walked. Conditions: the fibers' ends are nodes; 2 nodes at least. -/
import Derived.Test.YtdnmkcalpfkfhaaLed3
import Derived.Test.YtdnmkcalpfkfhaaIntL
import Derived.Test.YtdnmkcalpfkfhaaNetIs
import Derived.BigQuiet
import Derived.Deep.RegionWith
namespace Go.Proofs.Ytdnmkcalpfkfhaa
open Go.RowKit
section
variable {n c m d : Nat} {A A' : Option Addr} {xs : List ByteArray} {fs : List Fib}
/-- Fiber j is gone. -/
def goneF (l : List Int) (j : Nat) : Bool := hasB l (j : Int)
theorem goodB_ends (h : goodB xs fs = true) : endsB xs.length fs := fun i hi => by
  have h1 := goodB_fibB h (List.getElem_mem hi)
  have e : fibD fs i = fs[i] := getD_of (List.getElem?_eq_getElem hi)
  rw [e]
  unfold fibB at h1; simp at h1; omega
set_option maxHeartbeats 2000000 in
set_option maxRecDepth 100000 in
theorem components_any {B k c' : Nat} {G : Option Addr} {l : List Int} (w : World) (h : NetIs w A n c A' m d xs fs) (hv : Sees elInt w B G k l) (hkb : k ≤ 1048576) (he : endsB n fs) (hn0 : 0 < n) :
    Calls Try.prog 101 #[.agg #[.slice A n c, .slice A' m d], .slice G k c'] w fun e w' => ∃ v, e = .returned v ∧ Owns elInt w' w.heap.size 3 v (compL (goneF l) fs n) ∧ Below w.heap.size w w' := by
  obtain ⟨i0, hi, hz0, hz1, hz2⟩ := info_parts int_info
  have hlf := hid h.flen
  have hm := h.mle
  have hn := h.nle
  have HE := hid he
  have HV := hid hv
  have HF := hid h
  have hS := ((Led.nil w).blk_ w.heap.size rfl 35 #[.slice A n c, .slice A' m d]).empty elInt 3 (w.heap.size + 1) (by simp) w.heap.size (by omega)
  have HS : Hid (Led w ((w.alloc (.cells #[.slice A n c, .slice A' m d] 35)).alloc (.cells #[] 3)) [tOwns elInt w.heap.size 3 (.slice (some ⟨w.heap.size + 1, 0, none⟩) 0 0) (marks 0 0), tBlk w.heap.size 35 #[.slice A n c, .slice A' m d]]) := hS
  clear hS he hv h
  go_enter Try.func101, Try.ntmps101
  go_wp2_with fail
  go_loopw [5, 14] (fun V i wr => ∃ k : Nat, k ≤ n ∧ i = .int .i64 k ∧ Hid (Led w wr [tOwns elInt w.heap.size 3 V (marks 0 k), tBlk w.heap.size 35 #[.slice A n c, .slice A' m d]])) (fun _ i _ => n - (intOf i).toNat)
  case atStart => exact ⟨0, Nat.zero_le _, rfl, HS⟩
  case round =>
    clear HS
    obtain ⟨k, hk, rfl, HS⟩ := hrel
    by_cases hlt : k < n
    · have hml := hid (marks_len 0 k)
      obtain ⟨A1, c1, rfl, _⟩ := HS.out.form 0 rfl
      have HS2 := hid (HS.out.blk_ wr.heap.size rfl 3 #[.int .i64 k])
      have HM : Hid (marks 0 (k + 1) = marks 0 k ++ [(k : Int)]) := by unfold Hid; rw [marks_succ]; simp
      clear HS
      go_wp2_with (first
        | (at_builtin; refine wpList_append_led rfl _ _ 26 rfl HS2.out 1 rfl Try.underlying26 hi hz0 hz1 (by rw [hz2]; decide) rfl rfl rfl (show Sees elInt _ _ _ 1 [(k : Int)] from sees_new elInt _ _ _ _ rfl) (by rw [hml.out]; omega) HS2.out.bl.size ?_)
        | go_in)
      intro A2 c2 w2 hS3
      have HS3 := hid (hS3.drop 1)
      clear hS3 HS2
      go_wp2
      go_roundw
      case rel => exact ⟨k + 1, by omega, by go_num, by rw [HM.out]; exact HS3⟩
      case measure => simp [intOf]; omega
    · have hkn : k = n := by omega
      subst hkn
      obtain ⟨g, cV, rfl⟩ := HS.out.row_ 0 rfl (marks_len 0 k) hn0
      have p0 := HS.out.cell 1 0 rfl rfl
      have HS1 : Hid (Led w wr [tOwns elInt w.heap.size 3 (.slice (some ⟨g, 0, none⟩) k cV) (rndL (goneF l) fs k 0), tBlk w.heap.size 35 #[.slice A k c, .slice A' m d]]) := HS
      clear hlt HS
      go_wp2_with fail
      clear p0
      go_loopw [25] (fun i wr => ∃ r : Nat, r ≤ k ∧ i = .int .i64 r ∧ Hid (Led w wr [tOwns elInt w.heap.size 3 (.slice (some ⟨g, 0, none⟩) k cV) (rndL (goneF l) fs k r), tBlk w.heap.size 35 #[.slice A k c, .slice A' m d]])) (fun i _ => k - (intOf i).toNat)
      case atStart => exact ⟨0, Nat.zero_le _, rfl, HS1⟩
      case round =>
        clear HS1
        obtain ⟨r, hr, rfl, HS⟩ := hrel
        by_cases hlt : r < k
        · have p1 := HS.out.cell 1 1 rfl rfl
          obtain ⟨X, hX⟩ : ∃ X, X = rndL (goneF l) fs k r := ⟨_, rfl⟩
          have hXl : Hid (X.length = k) := by rw [hX]; exact rndL_len r
          have HN : Hid (rndL (goneF l) fs k (r + 1) = passL (goneF l) fs X) := by rw [hX]; rfl
          rw [← hX] at HS
          clear hX
          have HS1 : Hid (Led w wr [tOwns elInt w.heap.size 3 (.slice (some ⟨g, 0, none⟩) k cV) (passTo (goneF l) fs X 0), tBlk w.heap.size 35 #[.slice A k c, .slice A' m d]]) := HS
          clear HS
          go_wp2_with fail
          clear p1
          go_loopw [30] (fun i wr => ∃ j : Nat, j ≤ m ∧ i = .int .i64 j ∧ Hid (Led w wr [tOwns elInt w.heap.size 3 (.slice (some ⟨g, 0, none⟩) k cV) (passTo (goneF l) fs X j), tBlk w.heap.size 35 #[.slice A k c, .slice A' m d]])) (fun i _ => m - (intOf i).toNat)
          case atStart => exact ⟨0, Nat.zero_le _, rfl, HS1⟩
          case round =>
            clear HS1
            obtain ⟨j, hj, rfl, HS⟩ := hrel
            by_cases hlt2 : j < m
            · obtain ⟨b, o, rfl, _, hc⟩ := HF.out.fibs.at_ hlt2
              obtain ⟨f, hfj⟩ := get_of (k := j) hlf.out hlt2
              have f0 := bl_cell HS.out.bl (hc j f hfj 0 _ rfl)
              have f1 := bl_cell HS.out.bl (hc j f hfj 1 _ rfl)
              have f2 := bl_cell HS.out.bl (hc j f hfj 2 _ rfl)
              have f3 := bl_cell HS.out.bl (hc j f hfj 3 _ rfl)
              simp only [elFib, Nat.add_zero] at f0 f1 f2 f3
              have hfd : fibD fs j = f := getD_of hfj
              have hends := HE.out j (by rw [hlf.out]; exact hlt2)
              rw [hfd] at hends
              obtain ⟨a, ha⟩ : ∃ a : Nat, f.a = (a : Int) := ⟨f.a.toNat, by omega⟩
              obtain ⟨e, hb⟩ : ∃ e : Nat, f.b = (e : Int) := ⟨f.b.toNat, by omega⟩
              rw [ha, hb] at hends
              rw [ha] at f0
              rw [hb] at f1
              have HQ : Hid (goneF l j = hasB l (j : Int)) := rfl
              have HP : Hid (goneF l j = false → passTo (goneF l) fs X (j + 1) = ((passTo (goneF l) fs X j).set a (min (valL (passTo (goneF l) fs X j) a) (valL (passTo (goneF l) fs X j) e))).set e (min (valL (passTo (goneF l) fs X j) a) (valL (passTo (goneF l) fs X j) e))) := fun hq => by
                rw [passTo_no hq, hfd]; unfold joinF; rw [ha, hb]; simp
              have HP2 : Hid (goneF l j = true → passTo (goneF l) fs X (j + 1) = passTo (goneF l) fs X j) := fun hq => by rw [passTo_succ, hq]; rfl
              have hpl : Hid ((passTo (goneF l) fs X j).length = k) := (passTo_len X j).trans hXl.out
              generalize passTo (goneF l) fs X j = Y at *
              have hS1 := HS.out.blk_ wr.heap.size rfl 102 #[.int .i64 (a : Int), .int .i64 (e : Int), .int .i64 f.len, .int .i64 f.risk]
              have ia : (a : Int) < (k : Int) := by omega
              have ie : (e : Int) < (k : Int) := by omega
              have iae : a ≠ e := by omega
              clear hc hfj hfd ha hb hends
              go_wp2_with fail
              refine (containsI_any (j : Int) _ (HV.out.grow hS1.bl) (by unfold maxLen; omega)).mono ?_
              rintro e5 w5 ⟨rfl, rfl⟩
              cases gk : hasB l (j : Int)
              · have HR := hid (HP.out (by rw [HQ.out]; exact gk))
                have v0 := hS1.int_at 1 rfl (j := a) (by rw [hpl.out]; omega)
                have v1 := hS1.int_at 1 rfl (j := e) (by rw [hpl.out]; omega)
                have y0 := hS1.int_free 1 rfl a
                have y1 := hS1.int_free 1 rfl e
                clear HP HP2 HS
                go_wp2_with fail
                generalize wr.alloc (.cells #[.int .i64 (a : Int), .int .i64 (e : Int), .int .i64 f.len, .int .i64 f.risk] 102) = W0 at *
                have C0 : ∀ w', Cls W0 w' → w'.cell? ⟨wr.heap.size, 0, none⟩ = some (.int .i64 (a : Int)) := fun _ h => h.cell (hS1.cell 0 0 rfl rfl)
                have C1 : ∀ w', Cls W0 w' → w'.cell? ⟨wr.heap.size, 1, none⟩ = some (.int .i64 (e : Int)) := fun _ h => h.cell (hS1.cell 0 1 rfl rfl)
                have V0 : ∀ w', Cls W0 w' → w'.cell? ⟨g, a, none⟩ = some (.int .i64 (valL Y a)) := fun _ h => h.cell v0
                have V1 : ∀ w', Cls W0 w' → w'.cell? ⟨g, e, none⟩ = some (.int .i64 (valL Y e)) := fun _ h => h.cell v1
                clear v0 v1 y0 y1
                rcases Int.lt_or_le (valL Y e) (valL Y a) with hle | hle
                · have hx : min (valL Y a) (valL Y e) = valL Y e := by omega
                  rw [hx] at HR
                  clear hx
                  refine region_cls (by kernel_rfl) (by kernel_rfl) ?_
                  repeat (first
                    | ((with_reducible refine quiet_pos ?_ (fun K hK => ?_))
                       · rfl
                       apply Exists.intro
                       refine ⟨fun w' hw' => ?_, ?_⟩
                       · go_simp
                         with_reducible rfl
                       simp only [Act.put, List.setIfInBounds_toArray, List.set_cons_zero, List.set_cons_succ]
                       refine hK _ ?_; clear hK K)
                    | ((with_reducible refine quiet_neg ?_ (fun K hK => ?_))
                       · rfl
                       simp only [Act.put, List.setIfInBounds_toArray, List.set_cons_zero, List.set_cons_succ]
                       refine hK _ ?_; clear hK K))
                  with_reducible refine wpQuiet_nil ?_
                  intro wz hwz'
                  have hS2 := hS1.step hwz'
                  clear C0 C1 V0 V1 hwz' hS1
                  have q0 := hS2.cell 0 0 rfl rfl
                  have q1 := hS2.cell 0 1 rfl rfl
                  have v0 := hS2.int_at 1 rfl (j := a) (by rw [hpl.out]; omega)
                  have v1 := hS2.int_at 1 rfl (j := e) (by rw [hpl.out]; omega)
                  have y0 := hS2.int_free 1 rfl a
                  have y1 := hS2.int_free 1 rfl e
                  have hS3 := hS2.int_set 1 rfl (j := a) (by rw [hpl.out]; omega) (valL Y e)
                  have q2 := hS3.cell 0 0 rfl rfl
                  have q3 := hS3.cell 0 1 rfl rfl
                  have v2 := hS3.int_at 1 rfl (j := e) (by simp; rw [hpl.out]; omega)
                  have y2 := hS3.int_free 1 rfl e
                  clear hS3
                  have HS2 : Hid (∀ u, Led w (((wz.setCell ⟨g, a, none⟩ (.int .i64 (valL Y e))).setCell ⟨g, e, none⟩ (.int .i64 (valL Y e))).drewN u) _) := fun u => (((hS2.int_set 1 rfl (j := a) (by rw [hpl.out]; omega) (valL Y e)).int_set 1 rfl (j := e) (by simp; rw [hpl.out]; omega) (valL Y e)).drop 1).step (bl_drewN (Below.refl _ _) u)
                  clear hS2
                  go_wp2_with fail
                  go_region
                  all_goals
                    go_wp2_with fail
                    refine ⟨?_, by simp [intOf]; omega⟩
                    first
                      | exact ⟨j + 1, by omega, by go_num, by rw [HR.out]; exact HS2.out 1⟩
                      | ((repeat apply Exists.intro); exact ⟨⟨j + 1, by omega, by go_num, by rw [HR.out]; exact HS2.out 1⟩, rfl⟩)
                · have hx : min (valL Y a) (valL Y e) = valL Y a := by omega
                  rw [hx] at HR
                  clear hx
                  refine region_cls (by kernel_rfl) (by kernel_rfl) ?_
                  repeat (first
                    | ((with_reducible refine quiet_pos ?_ (fun K hK => ?_))
                       · rfl
                       apply Exists.intro
                       refine ⟨fun w' hw' => ?_, ?_⟩
                       · go_simp
                         with_reducible rfl
                       simp only [Act.put, List.setIfInBounds_toArray, List.set_cons_zero, List.set_cons_succ]
                       refine hK _ ?_; clear hK K)
                    | ((with_reducible refine quiet_neg ?_ (fun K hK => ?_))
                       · rfl
                       simp only [Act.put, List.setIfInBounds_toArray, List.set_cons_zero, List.set_cons_succ]
                       refine hK _ ?_; clear hK K))
                  with_reducible refine wpQuiet_nil ?_
                  intro wz hwz'
                  have hS2 := hS1.step hwz'
                  clear C0 C1 V0 V1 hwz' hS1
                  have q0 := hS2.cell 0 0 rfl rfl
                  have q1 := hS2.cell 0 1 rfl rfl
                  have v0 := hS2.int_at 1 rfl (j := a) (by rw [hpl.out]; omega)
                  have v1 := hS2.int_at 1 rfl (j := e) (by rw [hpl.out]; omega)
                  have y0 := hS2.int_free 1 rfl a
                  have y1 := hS2.int_free 1 rfl e
                  have hS3 := hS2.int_set 1 rfl (j := a) (by rw [hpl.out]; omega) (valL Y a)
                  have q2 := hS3.cell 0 0 rfl rfl
                  have q3 := hS3.cell 0 1 rfl rfl
                  have v2 := hS3.int_at 1 rfl (j := e) (by simp; rw [hpl.out]; omega)
                  have y2 := hS3.int_free 1 rfl e
                  clear hS3
                  have HS2 : Hid (∀ u, Led w (((wz.setCell ⟨g, a, none⟩ (.int .i64 (valL Y a))).setCell ⟨g, e, none⟩ (.int .i64 (valL Y a))).drewN u) _) := fun u => (((hS2.int_set 1 rfl (j := a) (by rw [hpl.out]; omega) (valL Y a)).int_set 1 rfl (j := e) (by simp; rw [hpl.out]; omega) (valL Y a)).drop 1).step (bl_drewN (Below.refl _ _) u)
                  clear hS2
                  go_wp2_with fail
                  go_region
                  all_goals
                    go_wp2_with fail
                    refine ⟨?_, by simp [intOf]; omega⟩
                    first
                      | exact ⟨j + 1, by omega, by go_num, by rw [HR.out]; exact HS2.out 1⟩
                      | ((repeat apply Exists.intro); exact ⟨⟨j + 1, by omega, by go_num, by rw [HR.out]; exact HS2.out 1⟩, rfl⟩)
              · have HR := hid (HP2.out (by rw [HQ.out]; exact gk))
                have HS2 := hid (hS1.drop 1)
                clear hS1 HP HP2 HS
                go_wp2
                refine ⟨?_, by simp [intOf]; omega⟩
                first
                  | exact ⟨j + 1, by omega, by go_num, by rw [HR.out]; exact HS2⟩
                  | ((repeat apply Exists.intro); exact ⟨⟨j + 1, by omega, by go_num, by rw [HR.out]; exact HS2⟩, rfl⟩)
            · have hjm : j = m := by omega
              have HR : Hid (rndL (goneF l) fs k (r + 1) = passTo (goneF l) fs X j) := by unfold Hid; rw [HN.out, hjm, ← hlf.out]; rfl
              clear hjm
              go_wp2
              refine ⟨?_, by simp [intOf]; omega⟩
              first
                | exact ⟨r + 1, by omega, by go_num, by rw [HR.out]; exact HS⟩
                | ((repeat apply Exists.intro); exact ⟨⟨r + 1, by omega, by go_num, by rw [HR.out]; exact HS⟩, rfl⟩)
        · have hrk : r = k := by omega
          have HR : Hid (compL (goneF l) fs k = rndL (goneF l) fs k r) := by rw [hrk]; rfl
          clear hrk
          go_wp2
          go_ret
          exact ⟨_, rfl, by rw [HR.out]; exact HS.out.own 0 rfl, HS.out.bl⟩
end
end Go.Proofs.Ytdnmkcalpfkfhaa
