/- Lemmas and walks that the claim rests on, laid together. Conditions: none. -/
import Derived.Test.YtfepilpllfiegaaZc3e33f13110d
import Derived.Test.YtfepilpllfiegaaZ26e9db1b046f
import Derived.Test.YtfepilpllfiegaaZ76d3d4a5ee99
import Derived.BigQuiet
import Derived.Deep.RegionWith
import Derived.Deep.LoopGhost
import Derived.Deep.RegionHeld3
import Derived.Test.YtfepilpllfiegaaRows
/- impl.components: the components without some fibers, walked. Conditions: the fibers' ends are nodes; 2 nodes at least. -/
namespace Go.Proofs.Ytfepilpllfiegaa
open Go.RowKit
section
variable {n c m d : Nat} {A A' : Option Addr} {xs : List ByteArray} {fs : List Fib}
/-- Fiber j is gone. -/
def goneF (l : List Int) (j : Nat) : Bool := hasB l (j : Int)
theorem goodB_ends (h : goodB xs fs = true) : endsB xs.length fs := fun i hi => by
  have h1 := goodB_fibB h (List.getElem_mem hi)
  have e : fibD fs i = fs[i] := getD_of (List.getElem?_eq_getElem hi)
  rw [e]
  unfold fibB at h1; simp at h1; omega
set_option maxHeartbeats 2000000 in
set_option maxRecDepth 100000 in
theorem components_any {B k c' : Nat} {G : Option Addr} {l : List Int} (w : World) (h : NetIs w A n c A' m d xs fs) (hv : Sees elInt w B G k l) (hkb : k ≤ 1048576) (he : endsB n fs) (hn0 : 0 < n) :
    Calls Try.prog 77 #[.agg #[.slice A n c, .slice A' m d], .slice G k c'] w fun e w' => ∃ v, e = .returned v ∧ Owns elInt w' w.heap.size 3 v (compL (goneF l) fs n) ∧ Below w.heap.size w w' := by
  obtain ⟨i0, hi, hz0, hz1, hz2⟩ := info_parts int_info
  have hlf := hid h.flen
  have hm := h.mle
  have hn := h.nle
  have HE := hid he
  have HV := hid hv
  have HF := hid h
  have hS := ((Led.nil w).blk_ w.heap.size rfl 27 #[.slice A n c, .slice A' m d]).empty elInt 3 (w.heap.size + 1) (by simp) w.heap.size (by omega)
  have HS : Hid (Led w ((w.alloc (.cells #[.slice A n c, .slice A' m d] 27)).alloc (.cells #[] 3)) [tOwns elInt w.heap.size 3 (.slice (some ⟨w.heap.size + 1, 0, none⟩) 0 0) (marks 0 0), tBlk w.heap.size 27 #[.slice A n c, .slice A' m d]]) := hS
  clear hS he hv h
  go_enter Try.func77, Try.ntmps77
  go_wp2_with fail
  go_loopw [5, 14] (fun V i wr => ∃ k : Nat, k ≤ n ∧ i = .int .i64 k ∧ Hid (Led w wr [tOwns elInt w.heap.size 3 V (marks 0 k), tBlk w.heap.size 27 #[.slice A n c, .slice A' m d]])) (fun _ i _ => n - (intOf i).toNat)
  case atStart => exact ⟨0, Nat.zero_le _, rfl, HS⟩
  case round =>
    clear HS
    obtain ⟨k, hk, rfl, HS⟩ := hrel
    by_cases hlt : k < n
    · have hml := hid (marks_len 0 k)
      obtain ⟨A1, c1, rfl, _⟩ := HS.out.form 0 rfl
      have HS2 := hid (HS.out.blk_ wr.heap.size rfl 3 #[.int .i64 k])
      have HM : Hid (marks 0 (k + 1) = marks 0 k ++ [(k : Int)]) := by unfold Hid; rw [marks_succ]; simp
      clear HS
      go_wp2_with (first
        | (at_builtin; refine wpList_append_led rfl _ _ 33 rfl HS2.out 1 rfl Try.underlying33 hi hz0 hz1 (by rw [hz2]; decide) rfl rfl rfl (show Sees elInt _ _ _ 1 [(k : Int)] from sees_new elInt _ _ _ _ rfl) (by rw [hml.out]; omega) HS2.out.bl.size ?_)
        | go_in)
      intro A2 c2 w2 hS3
      have HS3 := hid (hS3.drop 1)
      clear hS3 HS2
      go_wp2
      go_roundw
      case rel => exact ⟨k + 1, by omega, by go_num, by rw [HM.out]; exact HS3⟩
      case measure => simp [intOf]; omega
    · have hkn : k = n := by omega
      subst hkn
      obtain ⟨g, cV, rfl⟩ := HS.out.row_ 0 rfl (marks_len 0 k) hn0
      have p0 := HS.out.cell 1 0 rfl rfl
      have HS1 : Hid (Led w wr [tOwns elInt w.heap.size 3 (.slice (some ⟨g, 0, none⟩) k cV) (rndL (goneF l) fs k 0), tBlk w.heap.size 27 #[.slice A k c, .slice A' m d]]) := HS
      clear hlt HS
      go_wp2_with fail
      clear p0
      go_loopw [25] (fun i wr => ∃ r : Nat, r ≤ k ∧ i = .int .i64 r ∧ Hid (Led w wr [tOwns elInt w.heap.size 3 (.slice (some ⟨g, 0, none⟩) k cV) (rndL (goneF l) fs k r), tBlk w.heap.size 27 #[.slice A k c, .slice A' m d]])) (fun i _ => k - (intOf i).toNat)
      case atStart => exact ⟨0, Nat.zero_le _, rfl, HS1⟩
      case round =>
        clear HS1
        obtain ⟨r, hr, rfl, HS⟩ := hrel
        by_cases hlt : r < k
        · have p1 := HS.out.cell 1 1 rfl rfl
          obtain ⟨X, hX⟩ : ∃ X, X = rndL (goneF l) fs k r := ⟨_, rfl⟩
          have hXl : Hid (X.length = k) := by rw [hX]; exact rndL_len r
          have HN : Hid (rndL (goneF l) fs k (r + 1) = passL (goneF l) fs X) := by rw [hX]; rfl
          rw [← hX] at HS
          clear hX
          have HS1 : Hid (Led w wr [tOwns elInt w.heap.size 3 (.slice (some ⟨g, 0, none⟩) k cV) (passTo (goneF l) fs X 0), tBlk w.heap.size 27 #[.slice A k c, .slice A' m d]]) := HS
          clear HS
          go_wp2_with fail
          clear p1
          go_loopw [30] (fun i wr => ∃ j : Nat, j ≤ m ∧ i = .int .i64 j ∧ Hid (Led w wr [tOwns elInt w.heap.size 3 (.slice (some ⟨g, 0, none⟩) k cV) (passTo (goneF l) fs X j), tBlk w.heap.size 27 #[.slice A k c, .slice A' m d]])) (fun i _ => m - (intOf i).toNat)
          case atStart => exact ⟨0, Nat.zero_le _, rfl, HS1⟩
          case round =>
            clear HS1
            obtain ⟨j, hj, rfl, HS⟩ := hrel
            by_cases hlt2 : j < m
            · obtain ⟨b, o, rfl, _, hc⟩ := HF.out.fibs.at_ hlt2
              obtain ⟨f, hfj⟩ := get_of (k := j) hlf.out hlt2
              have f0 := bl_cell HS.out.bl (hc j f hfj 0 _ rfl)
              have f1 := bl_cell HS.out.bl (hc j f hfj 1 _ rfl)
              have f2 := bl_cell HS.out.bl (hc j f hfj 2 _ rfl)
              have f3 := bl_cell HS.out.bl (hc j f hfj 3 _ rfl)
              simp only [elFib, Nat.add_zero] at f0 f1 f2 f3
              have hfd : fibD fs j = f := getD_of hfj
              have hends := HE.out j (by rw [hlf.out]; exact hlt2)
              rw [hfd] at hends
              obtain ⟨a, ha⟩ : ∃ a : Nat, f.a = (a : Int) := ⟨f.a.toNat, by omega⟩
              obtain ⟨e, hb⟩ : ∃ e : Nat, f.b = (e : Int) := ⟨f.b.toNat, by omega⟩
              rw [ha, hb] at hends
              rw [ha] at f0
              rw [hb] at f1
              have HQ : Hid (goneF l j = hasB l (j : Int)) := rfl
              have HP : Hid (goneF l j = false → passTo (goneF l) fs X (j + 1) = ((passTo (goneF l) fs X j).set a (min (valL (passTo (goneF l) fs X j) a) (valL (passTo (goneF l) fs X j) e))).set e (min (valL (passTo (goneF l) fs X j) a) (valL (passTo (goneF l) fs X j) e))) := fun hq => by
                rw [passTo_no hq, hfd]; unfold joinF; rw [ha, hb]; simp
              have HP2 : Hid (goneF l j = true → passTo (goneF l) fs X (j + 1) = passTo (goneF l) fs X j) := fun hq => by rw [passTo_succ, hq]; rfl
              have hpl : Hid ((passTo (goneF l) fs X j).length = k) := (passTo_len X j).trans hXl.out
              generalize passTo (goneF l) fs X j = Y at *
              have hS1 := HS.out.blk_ wr.heap.size rfl 62 #[.int .i64 (a : Int), .int .i64 (e : Int), .int .i64 f.len, .int .i64 f.risk]
              have ia : (a : Int) < (k : Int) := by omega
              have ie : (e : Int) < (k : Int) := by omega
              have iae : a ≠ e := by omega
              clear hc hfj hfd ha hb hends
              go_wp2_with fail
              refine (containsI_any (j : Int) _ (HV.out.grow hS1.bl) (by unfold maxLen; omega)).mono ?_
              rintro e5 w5 ⟨rfl, rfl⟩
              cases gk : hasB l (j : Int)
              · have HR := hid (HP.out (by rw [HQ.out]; exact gk))
                have v0 := hS1.int_at 1 rfl (j := a) (by rw [hpl.out]; omega)
                have v1 := hS1.int_at 1 rfl (j := e) (by rw [hpl.out]; omega)
                have y0 := hS1.int_free 1 rfl a
                have y1 := hS1.int_free 1 rfl e
                clear HP HP2 HS
                go_wp2_with fail
                generalize wr.alloc (.cells #[.int .i64 (a : Int), .int .i64 (e : Int), .int .i64 f.len, .int .i64 f.risk] 62) = W0 at *
                have C0 : ∀ w', Cls W0 w' → w'.cell? ⟨wr.heap.size, 0, none⟩ = some (.int .i64 (a : Int)) := fun _ h => h.cell (hS1.cell 0 0 rfl rfl)
                have C1 : ∀ w', Cls W0 w' → w'.cell? ⟨wr.heap.size, 1, none⟩ = some (.int .i64 (e : Int)) := fun _ h => h.cell (hS1.cell 0 1 rfl rfl)
                have V0 : ∀ w', Cls W0 w' → w'.cell? ⟨g, a, none⟩ = some (.int .i64 (valL Y a)) := fun _ h => h.cell v0
                have V1 : ∀ w', Cls W0 w' → w'.cell? ⟨g, e, none⟩ = some (.int .i64 (valL Y e)) := fun _ h => h.cell v1
                clear v0 v1 y0 y1
                rcases Int.lt_or_le (valL Y e) (valL Y a) with hle | hle
                · have hx : min (valL Y a) (valL Y e) = valL Y e := by omega
                  rw [hx] at HR
                  clear hx
                  refine region_cls (by kernel_rfl) (by kernel_rfl) ?_
                  repeat (first
                    | ((with_reducible refine quiet_pos ?_ (fun K hK => ?_))
                       · rfl
                       apply Exists.intro
                       refine ⟨fun w' hw' => ?_, ?_⟩
                       · go_simp
                         with_reducible rfl
                       simp only [Act.put, List.setIfInBounds_toArray, List.set_cons_zero, List.set_cons_succ]
                       refine hK _ ?_; clear hK K)
                    | ((with_reducible refine quiet_neg ?_ (fun K hK => ?_))
                       · rfl
                       simp only [Act.put, List.setIfInBounds_toArray, List.set_cons_zero, List.set_cons_succ]
                       refine hK _ ?_; clear hK K))
                  with_reducible refine wpQuiet_nil ?_
                  intro wz hwz'
                  have hS2 := hS1.step hwz'
                  clear C0 C1 V0 V1 hwz' hS1
                  have q0 := hS2.cell 0 0 rfl rfl
                  have q1 := hS2.cell 0 1 rfl rfl
                  have v0 := hS2.int_at 1 rfl (j := a) (by rw [hpl.out]; omega)
                  have v1 := hS2.int_at 1 rfl (j := e) (by rw [hpl.out]; omega)
                  have y0 := hS2.int_free 1 rfl a
                  have y1 := hS2.int_free 1 rfl e
                  have hS3 := hS2.int_set 1 rfl (j := a) (by rw [hpl.out]; omega) (valL Y e)
                  have q2 := hS3.cell 0 0 rfl rfl
                  have q3 := hS3.cell 0 1 rfl rfl
                  have v2 := hS3.int_at 1 rfl (j := e) (by simp; rw [hpl.out]; omega)
                  have y2 := hS3.int_free 1 rfl e
                  clear hS3
                  have HS2 : Hid (∀ u, Led w (((wz.setCell ⟨g, a, none⟩ (.int .i64 (valL Y e))).setCell ⟨g, e, none⟩ (.int .i64 (valL Y e))).drewN u) _) := fun u => (((hS2.int_set 1 rfl (j := a) (by rw [hpl.out]; omega) (valL Y e)).int_set 1 rfl (j := e) (by simp; rw [hpl.out]; omega) (valL Y e)).drop 1).step (bl_drewN (Below.refl _ _) u)
                  clear hS2
                  go_wp2_with fail
                  go_region
                  all_goals
                    go_wp2_with fail
                    refine ⟨?_, by simp [intOf]; omega⟩
                    first
                      | exact ⟨j + 1, by omega, by go_num, by rw [HR.out]; exact HS2.out 1⟩
                      | ((repeat apply Exists.intro); exact ⟨⟨j + 1, by omega, by go_num, by rw [HR.out]; exact HS2.out 1⟩, rfl⟩)
                · have hx : min (valL Y a) (valL Y e) = valL Y a := by omega
                  rw [hx] at HR
                  clear hx
                  refine region_cls (by kernel_rfl) (by kernel_rfl) ?_
                  repeat (first
                    | ((with_reducible refine quiet_pos ?_ (fun K hK => ?_))
                       · rfl
                       apply Exists.intro
                       refine ⟨fun w' hw' => ?_, ?_⟩
                       · go_simp
                         with_reducible rfl
                       simp only [Act.put, List.setIfInBounds_toArray, List.set_cons_zero, List.set_cons_succ]
                       refine hK _ ?_; clear hK K)
                    | ((with_reducible refine quiet_neg ?_ (fun K hK => ?_))
                       · rfl
                       simp only [Act.put, List.setIfInBounds_toArray, List.set_cons_zero, List.set_cons_succ]
                       refine hK _ ?_; clear hK K))
                  with_reducible refine wpQuiet_nil ?_
                  intro wz hwz'
                  have hS2 := hS1.step hwz'
                  clear C0 C1 V0 V1 hwz' hS1
                  have q0 := hS2.cell 0 0 rfl rfl
                  have q1 := hS2.cell 0 1 rfl rfl
                  have v0 := hS2.int_at 1 rfl (j := a) (by rw [hpl.out]; omega)
                  have v1 := hS2.int_at 1 rfl (j := e) (by rw [hpl.out]; omega)
                  have y0 := hS2.int_free 1 rfl a
                  have y1 := hS2.int_free 1 rfl e
                  have hS3 := hS2.int_set 1 rfl (j := a) (by rw [hpl.out]; omega) (valL Y a)
                  have q2 := hS3.cell 0 0 rfl rfl
                  have q3 := hS3.cell 0 1 rfl rfl
                  have v2 := hS3.int_at 1 rfl (j := e) (by simp; rw [hpl.out]; omega)
                  have y2 := hS3.int_free 1 rfl e
                  clear hS3
                  have HS2 : Hid (∀ u, Led w (((wz.setCell ⟨g, a, none⟩ (.int .i64 (valL Y a))).setCell ⟨g, e, none⟩ (.int .i64 (valL Y a))).drewN u) _) := fun u => (((hS2.int_set 1 rfl (j := a) (by rw [hpl.out]; omega) (valL Y a)).int_set 1 rfl (j := e) (by simp; rw [hpl.out]; omega) (valL Y a)).drop 1).step (bl_drewN (Below.refl _ _) u)
                  clear hS2
                  go_wp2_with fail
                  go_region
                  all_goals
                    go_wp2_with fail
                    refine ⟨?_, by simp [intOf]; omega⟩
                    first
                      | exact ⟨j + 1, by omega, by go_num, by rw [HR.out]; exact HS2.out 1⟩
                      | ((repeat apply Exists.intro); exact ⟨⟨j + 1, by omega, by go_num, by rw [HR.out]; exact HS2.out 1⟩, rfl⟩)
              · have HR := hid (HP2.out (by rw [HQ.out]; exact gk))
                have HS2 := hid (hS1.drop 1)
                clear hS1 HP HP2 HS
                go_wp2
                refine ⟨?_, by simp [intOf]; omega⟩
                first
                  | exact ⟨j + 1, by omega, by go_num, by rw [HR.out]; exact HS2⟩
                  | ((repeat apply Exists.intro); exact ⟨⟨j + 1, by omega, by go_num, by rw [HR.out]; exact HS2⟩, rfl⟩)
            · have hjm : j = m := by omega
              have HR : Hid (rndL (goneF l) fs k (r + 1) = passTo (goneF l) fs X j) := by unfold Hid; rw [HN.out, hjm, ← hlf.out]; rfl
              clear hjm
              go_wp2
              refine ⟨?_, by simp [intOf]; omega⟩
              first
                | exact ⟨r + 1, by omega, by go_num, by rw [HR.out]; exact HS⟩
                | ((repeat apply Exists.intro); exact ⟨⟨r + 1, by omega, by go_num, by rw [HR.out]; exact HS⟩, rfl⟩)
        · have hrk : r = k := by omega
          have HR : Hid (compL (goneF l) fs k = rndL (goneF l) fs k r) := by rw [hrk]; rfl
          clear hrk
          go_wp2
          go_ret
          exact ⟨_, rfl, by rw [HR.out]; exact HS.out.own 0 rfl, HS.out.bl⟩
end
end Go.Proofs.Ytfepilpllfiegaa
/- Sets of fibers as numbers: the reference's l6Mask, walked. Conditions: the numbers are below 20. -/
namespace Go.Proofs.Ytfepilpllfiegaa
open Go.RowKit
/-- The set as a number. -/
def maskTo (l : List Int) : Nat → Nat
  | 0 => 0
  | k + 1 => maskTo l k ||| 2 ^ (l.getD k 0).toNat
def maskN (l : List Int) : Nat := maskTo l l.length
theorem maskTo_bit {l : List Int} (h : ∀ x ∈ l, 0 ≤ x) (i : Nat) : ∀ k, k ≤ l.length → (maskTo l k).testBit i = decide ((i : Int) ∈ l.take k) := by
  intro k
  induction k with
  | zero => intro _; simp [maskTo]
  | succ k ih =>
    intro hk
    have hkl : k < l.length := by omega
    have e : l.take (k + 1) = l.take k ++ [l[k]] := by rw [List.take_add_one, List.getElem?_eq_getElem hkl]; rfl
    have hx := h _ (List.getElem_mem hkl)
    show (maskTo l k ||| 2 ^ (l.getD k 0).toNat).testBit i = _
    rw [Nat.testBit_or, ih (by omega), Nat.testBit_two_pow, e, getD_of (List.getElem?_eq_getElem hkl)]
    rw [Bool.eq_iff_iff, Bool.or_eq_true, decide_eq_true_eq, decide_eq_true_eq, decide_eq_true_eq, List.mem_append, List.mem_singleton]
    constructor
    · intro h1
      rcases h1 with h1 | h1
      · exact Or.inl h1
      · exact Or.inr (by omega)
    · intro h1
      rcases h1 with h1 | h1
      · exact Or.inl h1
      · exact Or.inr (by omega)
theorem maskN_bit {l : List Int} (h : ∀ x ∈ l, 0 ≤ x) (i : Nat) : (maskN l).testBit i = hasB l (i : Int) := by
  unfold maskN
  rw [maskTo_bit h i _ (Nat.le_refl _), List.take_length, Bool.eq_iff_iff, hasB_iff]
  simp
theorem maskTo_lt {l : List Int} (h : ∀ x ∈ l, 0 ≤ x ∧ x < 20) : ∀ k, k ≤ l.length → maskTo l k < 2 ^ 20 := by
  intro k
  induction k with
  | zero => intro _; simp [maskTo]
  | succ k ih =>
    intro hk
    have hkl : k < l.length := by omega
    have hx := h _ (List.getElem_mem hkl)
    refine Nat.or_lt_two_pow (ih (by omega)) ?_
    rw [getD_of (List.getElem?_eq_getElem hkl)]
    exact Nat.pow_lt_pow_right (by decide) (by omega)
theorem ofInt_small {a : Nat} (h : a < 2 ^ 62) : (BitVec.ofInt 64 (a : Int)).toNat = a := by
  rw [BitVec.ofInt_natCast, BitVec.toNat_ofNat]; exact Nat.mod_eq_of_lt (by omega)
theorem wrap_small {a : Nat} (h : a < 2 ^ 62) : IntKind.i64.wrap (a : Int) = (a : Int) := IntWalk.i64_in _ (by omega)
/-- One bit more. -/
theorem bits_or_n {M N : Nat} (hM : M < 2 ^ 20) (hN : N < 2 ^ 20) : Go.bits .or .i64 (M : Int) (N : Int) = ((M ||| N : Nat) : Int) := by
  have h3 : M ||| N < 2 ^ 20 := Nat.or_lt_two_pow hM hN
  show IntKind.i64.wrap ((BitVec.ofInt 64 (M : Int) ||| BitVec.ofInt 64 (N : Int)).toNat : Int) = _
  rw [BitVec.toNat_or, ofInt_small (by omega), ofInt_small (by omega)]
  exact wrap_small (by omega)
/-- Is bit i set? -/
theorem bits_and_one {M : Nat} (hM : M < 2 ^ 20) (i : Nat) : Go.bits .and .i64 ((M / 2 ^ i : Nat) : Int) 1 = if M.testBit i then 1 else 0 := by
  have h2 : M / 2 ^ i ≤ M := Nat.div_le_self _ _
  have h3 : (M / 2 ^ i) &&& 1 = (M.testBit i).toNat := by
    rw [Nat.testBit_eq_decide_div_mod_eq, Nat.and_one_is_mod]
    have : M / 2 ^ i % 2 = 0 ∨ M / 2 ^ i % 2 = 1 := by omega
    rcases this with h | h <;> simp [h]
  show IntKind.i64.wrap ((BitVec.ofInt 64 ((M / 2 ^ i : Nat) : Int) &&& BitVec.ofInt 64 ((1 : Nat) : Int)).toNat : Int) = _
  rw [BitVec.toNat_and, ofInt_small (by omega), ofInt_small (by omega), h3]
  cases M.testBit i <;> rfl
set_option maxHeartbeats 1000000 in
set_option maxRecDepth 100000 in
theorem mask_any {B c : Nat} {A : Option Addr} {l : List Int} (w : World) (hA : Sees elInt w B A l.length l) (hl : ∀ x ∈ l, 0 ≤ x ∧ x < 20) (hn : l.length ≤ 1048576) :
    Calls Try.prog 74 #[.slice A l.length c] w fun e w' => e = .returned (.int .i64 ((maskN l : Nat) : Int)) ∧ w = w' := by
  have HL := hid hl
  have HB := hid (maskTo_lt hl)
  clear hl
  go_enter Try.func74, Try.ntmps74
  go_wp2
  go_loop [3, 4] (fun t i => ∃ (k M : Nat), k ≤ l.length ∧ i = .int .i64 k ∧ t = .int .i64 (M : Int) ∧ Hid (M = maskTo l k)) (fun _ i => l.length - (intOf i).toNat)
  case atStart => exact ⟨0, 0, Nat.zero_le _, rfl, rfl, rfl⟩
  case round =>
    obtain ⟨k, M, hk, rfl, rfl, hM⟩ := hrel
    by_cases hlt : k < l.length
    · obtain ⟨b, o, rfl, _, hc⟩ := hA.at_ hlt
      obtain ⟨x, hxk⟩ := get_of (k := k) rfl hlt
      have hx := HL.out x (List.mem_of_getElem? hxk)
      obtain ⟨j, rfl⟩ : ∃ j : Nat, x = (j : Int) := ⟨x.toNat, by omega⟩
      have e0 := hc k _ hxk 0 _ rfl
      simp only [elInt, Nat.mul_one, Nat.add_zero] at e0
      have hMb : M < 2 ^ 20 := by rw [hM.out]; exact HB.out k (by omega)
      have hj : (2 : Nat) ^ j < 2 ^ 20 := Nat.pow_lt_pow_right (by decide) (by omega)
      have HN : Hid (maskTo l (k + 1) = M ||| 2 ^ j) := by
        show maskTo l k ||| 2 ^ (l.getD k 0).toNat = _
        rw [getD_of hxk, ← hM.out]; simp
      have HO := hid (bits_or_n hMb hj)
      clear hc hxk hM
      have hw : wrap64 ((2 : Int) ^ j) = ((2 ^ j : Nat) : Int) := by
        have e : ((2 : Int) ^ j) = ((2 ^ j : Nat) : Int) := by simp
        rw [e]
        have h62 : 2 ^ j < 4611686018427387904 := Nat.lt_trans hj (by decide)
        generalize 2 ^ j = y at *
        exact IntWalk.wrap64_in _ (by omega)
      have HW := hid hw
      clear hw
      go_wp2
      exact ⟨⟨k + 1, M ||| 2 ^ j, by omega, by go_num, by rw [HW.out, HO.out], HN.out.symm⟩, by simp [intOf]; omega⟩
    · have hkl : k = l.length := by omega
      have HE : Hid (maskN l = M) := by rw [hM.out, hkl]; rfl
      clear hkl hM
      go_wp2
      go_ret
      exact ⟨by rw [HE.out]; rfl, rfl⟩
end Go.Proofs.Ytfepilpllfiegaa
/- spec.l6Labels: the reference's components, walked. Conditions: the fibers' ends are nodes; 2 nodes at least; at most 20 fibers. -/
namespace Go.Proofs.Ytfepilpllfiegaa
open Go.RowKit
set_option maxRecDepth 100000 in
theorem least_any (a b : Int) (w : World) : Calls Try.prog 152 #[.int .i64 a, .int .i64 b] w fun e w' => e = .returned (.int .i64 (min a b)) ∧ w = w' := by
  by_cases h : a < b
  · have H : Hid (min a b = a) := by unfold Hid; omega
    go_enter Try.func152, Try.ntmps152
    go_wp2
    go_ret
    exact ⟨by rw [H.out]; rfl, rfl⟩
  · have H : Hid (min a b = b) := by unfold Hid; omega
    go_enter Try.func152, Try.ntmps152
    go_wp2
    go_ret
    exact ⟨by rw [H.out]; rfl, rfl⟩
section
variable {n c m d : Nat} {A A' : Option Addr} {xs : List ByteArray} {fs : List Fib}
set_option maxHeartbeats 4000000 in
set_option maxRecDepth 100000 in
theorem labels_any (M : Nat) (w : World) (h : NetIs w A n c A' m d xs fs) (hM : M < 2 ^ 20) (he : endsB n fs) (hn0 : 0 < n) (hm20 : m ≤ 20) :
    Calls Try.prog 134 #[.agg #[.slice A n c, .slice A' m d], .int .i64 (M : Int)] w fun e w' => ∃ v, e = .returned v ∧ Owns elInt w' w.heap.size 3 v (compL (fun i => M.testBit i) fs n) ∧ Below w.heap.size w w' := by
  obtain ⟨i0, hi, hz0, hz1, hz2⟩ := info_parts int_info
  have hlf := hid h.flen
  have hn := h.nle
  have HE := hid he
  have HF := hid h
  have HMB := hid hM
  have hS := ((Led.nil w).blk_ w.heap.size rfl 27 #[.slice A n c, .slice A' m d]).empty elInt 3 (w.heap.size + 1) (by simp) w.heap.size (by omega)
  have HS : Hid (Led w ((w.alloc (.cells #[.slice A n c, .slice A' m d] 27)).alloc (.cells #[] 3)) [tOwns elInt w.heap.size 3 (.slice (some ⟨w.heap.size + 1, 0, none⟩) 0 0) (marks 0 0), tBlk w.heap.size 27 #[.slice A n c, .slice A' m d]]) := hS
  clear hS he h hM
  go_enter Try.func134, Try.ntmps134
  go_wp2_with fail
  go_loopw [5, 6] (fun V i wr => ∃ k : Nat, k ≤ n ∧ i = .int .i64 k ∧ Hid (Led w wr [tOwns elInt w.heap.size 3 (V) (marks 0 k), tBlk w.heap.size 27 #[.slice A n c, .slice A' m d]])) (fun _ i _ => n - (intOf i).toNat)
  case atStart => exact ⟨0, Nat.zero_le _, rfl, HS⟩
  case round =>
    clear HS
    obtain ⟨k, hk, rfl, HS⟩ := hrel
    have p0 := HS.out.cell 1 0 rfl rfl
    by_cases hlt : k < n
    · have hml := hid (marks_len 0 k)
      obtain ⟨A1, c1, rfl, _⟩ := HS.out.form 0 rfl
      have HS2 := hid (HS.out.blk_ wr.heap.size rfl 3 #[.int .i64 k])
      have HM : Hid (marks 0 (k + 1) = marks 0 k ++ [(k : Int)]) := by unfold Hid; rw [marks_succ]; simp
      clear HS
      go_wp2_with (first
        | (at_builtin; refine wpList_append_led rfl _ _ 33 rfl HS2.out 1 rfl Try.underlying33 hi hz0 hz1 (by rw [hz2]; decide) rfl rfl rfl (show Sees elInt _ _ _ 1 [(k : Int)] from sees_new elInt _ _ _ _ rfl) (by rw [hml.out]; omega) HS2.out.bl.size ?_)
        | go_in)
      intro A2 c2 w2 hS3
      have HS3 := hid (hS3.drop 1)
      clear hS3 HS2 p0
      go_wp2
      go_roundw
      case rel => exact ⟨k + 1, by omega, by go_num, by rw [HM.out]; exact HS3⟩
      case measure => simp [intOf]; omega
    · have hkn : n = k := by omega
      subst hkn
      obtain ⟨g, cV, rfl⟩ := HS.out.row_ 0 rfl (marks_len 0 n) hn0
      have HS1 : Hid (Led w wr [tOwns elInt w.heap.size 3 (.slice (some ⟨g, 0, none⟩) n cV) (rndL (fun i => M.testBit i) fs n 0), tBlk w.heap.size 27 #[.slice A n c, .slice A' m d]]) := HS
      clear hlt HS
      go_wp2_with fail
      clear p0
      go_loopg [7] (n + 2) (fun gk b wr => ∃ (r : Nat) (more : Bool), b = .bool more ∧ r + gk = n + 2 ∧ Hid (more = true → r ≤ n) ∧ Hid (more = false → rndL (fun i => M.testBit i) fs n r = compL (fun i => M.testBit i) fs n) ∧ Hid (Led w wr [tOwns elInt w.heap.size 3 (.slice (some ⟨g, 0, none⟩) n cV) (rndL (fun i => M.testBit i) fs n r), tBlk w.heap.size 27 #[.slice A n c, .slice A' m d]]))
      case atStart => exact ⟨0, true, rfl, by omega, (show true = true → 0 ≤ n from fun _ => Nat.zero_le _), (show true = false → _ from fun h => Bool.noConfusion h), HS1⟩
      case round =>
        clear HS1
        obtain ⟨r, more, rfl, hrg, hm1, hm2, HS⟩ := hrel
        cases more
        case false =>
          have HR := hid (hm2.out rfl)
          clear hm1 hm2
          go_wp2
          go_ret
          exact ⟨_, rfl, by rw [← HR.out]; exact HS.out.own 0 rfl, HS.out.bl⟩
        case true =>
          have hrn := hm1.out rfl
          clear hm1 hm2
          obtain ⟨X, hX⟩ : ∃ X, X = rndL (fun i => M.testBit i) fs n r := ⟨_, rfl⟩
          have hXl : Hid (X.length = n) := by rw [hX]; exact rndL_len r
          have HN : Hid (rndL (fun i => M.testBit i) fs n (r + 1) = passL (fun i => M.testBit i) fs X) := by rw [hX]; rfl
          rw [← hX] at HS
          have HX := hid hX
          clear hX
          have HS1 : Hid (Led w wr [tOwns elInt w.heap.size 3 (.slice (some ⟨g, 0, none⟩) n cV) (passTo (fun i => M.testBit i) fs X 0), tBlk w.heap.size 27 #[.slice A n c, .slice A' m d]]) := HS
          clear HS
          go_wp2_with fail
          go_loopw [7, 8] (fun b i wr => ∃ j : Nat, j ≤ m ∧ i = .int .i64 j ∧ b = .bool (chgB (fun i => M.testBit i) fs X j) ∧ Hid (Led w wr [tOwns elInt w.heap.size 3 (.slice (some ⟨g, 0, none⟩) n cV) (passTo (fun i => M.testBit i) fs X j), tBlk w.heap.size 27 #[.slice A n c, .slice A' m d]])) (fun _ i _ => m - (intOf i).toNat)
          case atStart => exact ⟨0, Nat.zero_le _, rfl, rfl, HS1⟩
          case round =>
            clear HS1
            obtain ⟨j, hj, rfl, rfl, HS⟩ := hrel
            have p1 := HS.out.cell 1 1 rfl rfl
            obtain ⟨ch, hch⟩ : ∃ ch, ch = chgB (fun i => M.testBit i) fs X j := ⟨_, rfl⟩
            rw [← hch]
            have HCH := hid hch
            clear hch
            by_cases hlt2 : j < m
            · obtain ⟨b, o, rfl, _, hc⟩ := HF.out.fibs.at_ hlt2
              obtain ⟨f, hfj⟩ := get_of (k := j) hlf.out hlt2
              have f0 := bl_cell HS.out.bl (hc j f hfj 0 _ rfl)
              have f1 := bl_cell HS.out.bl (hc j f hfj 1 _ rfl)
              simp only [elFib, Nat.add_zero] at f0 f1
              have hfd : fibD fs j = f := getD_of hfj
              have hends := HE.out j (by rw [hlf.out]; exact hlt2)
              rw [hfd] at hends
              obtain ⟨a, ha⟩ : ∃ a : Nat, f.a = (a : Int) := ⟨f.a.toNat, by omega⟩
              obtain ⟨e, hb⟩ : ∃ e : Nat, f.b = (e : Int) := ⟨f.b.toNat, by omega⟩
              rw [ha, hb] at hends
              rw [ha] at f0
              rw [hb] at f1
              have ia : (a : Int) < (n : Int) := by omega
              have ie : (e : Int) < (n : Int) := by omega
              have ij : (j : Int) < (m : Int) := by omega
              have P1 : ∀ w', Cls wr w' → w'.cell? ⟨w.heap.size, 1, none⟩ = some (.slice (some ⟨b, o, none⟩) m d) := fun _ h => h.cell p1
              have F0 : ∀ w', Cls wr w' → w'.cell? ⟨b, o + j * 4, none⟩ = some (.int .i64 (a : Int)) := fun _ h => h.cell f0
              have F1 : ∀ w', Cls wr w' → w'.cell? ⟨b, o + j * 4 + 1, none⟩ = some (.int .i64 (e : Int)) := fun _ h => h.cell f1
              clear hc hfj f0 f1
              go_wp2_with fail
              refine region_cls (by kernel_rfl) (by kernel_rfl) ?_
              repeat (first
                | ((with_reducible refine quiet_pos ?_ (fun K hK => ?_))
                   · rfl
                   apply Exists.intro
                   refine ⟨fun w' hw' => ?_, ?_⟩
                   · go_simp
                     with_reducible rfl
                   simp only [Act.put, List.setIfInBounds_toArray, List.set_cons_zero, List.set_cons_succ]
                   refine hK _ ?_; clear hK K)
                | ((with_reducible refine quiet_neg ?_ (fun K hK => ?_))
                   · rfl
                   simp only [Act.put, List.setIfInBounds_toArray, List.set_cons_zero, List.set_cons_succ]
                   refine hK _ ?_; clear hK K))
              with_reducible refine wpQuiet_nil ?_
              intro wz hwz'
              go_wp2_with fail
              have hS := HS.out.step hwz'
              clear HS P1 F0 F1 hwz' p1
              have hMB := HMB.out
              have iu : IntKind.u64.wrap (j : Int) = (j : Int) := by rw [IntKind.wrap_u64]; omega
              have imn : min j 64 = j := by omega
              have hdv : ((M : Int) / 2 ^ j) = ((M / 2 ^ j : Nat) : Int) := by simp
              have ib := bits_and_one hMB j
              rw [← hdv] at ib
              clear hdv
              cases gb : M.testBit j
              · rw [gb] at ib
                simp only [Bool.false_eq_true, if_false] at ib
                have hpl : Hid ((passTo (fun i => M.testBit i) fs X j).length = n) := (passTo_len X j).trans hXl.out
                have HP : Hid (passTo (fun i => M.testBit i) fs X (j + 1) = joinF f (passTo (fun i => M.testBit i) fs X j)) := by unfold Hid; rw [passTo_no gb, hfd]
                have HC2 : Hid (chgB (fun i => M.testBit i) fs X (j + 1) = (ch || !(valL (passTo (fun i => M.testBit i) fs X j) a == valL (passTo (fun i => M.testBit i) fs X j) e))) := by
                  show (chgB (fun i => M.testBit i) fs X j || (!(M.testBit j) && !(valL (passTo (fun i => M.testBit i) fs X j) (fibD fs j).a.toNat == valL (passTo (fun i => M.testBit i) fs X j) (fibD fs j).b.toNat))) = _
                  rw [← HCH.out, gb, hfd, ha, hb]; rfl
                generalize passTo (fun i => M.testBit i) fs X j = Y at *
                have v0 := hS.int_at 0 rfl (j := a) (by rw [hpl.out]; omega)
                have v1 := hS.int_at 0 rfl (j := e) (by rw [hpl.out]; omega)
                have V0 : ∀ w', Cls wz w' → w'.cell? ⟨g, a, none⟩ = some (.int .i64 (valL Y a)) := fun _ h => h.cell v0
                have V1 : ∀ w', Cls wz w' → w'.cell? ⟨g, e, none⟩ = some (.int .i64 (valL Y e)) := fun _ h => h.cell v1
                clear v0 v1
                cases gv : (valL Y a == valL Y e)
                · have HJ : Hid (joinF f Y = (Y.set a (min (valL Y a) (valL Y e))).set e (min (valL Y a) (valL Y e))) := by unfold Hid joinF; rw [ha, hb]; simp
                  have HQ : Hid (chgB (fun i => M.testBit i) fs X (j + 1) = true) := by unfold Hid; rw [HC2.out, gv]; simp
                  clear HC2 HCH hfd ha hb gb
                  refine region_cls (by kernel_rfl) (by kernel_rfl) ?_
                  repeat (first
                    | ((with_reducible refine quiet_pos ?_ (fun K hK => ?_))
                       · rfl
                       apply Exists.intro
                       refine ⟨fun w' hw' => ?_, ?_⟩
                       · go_simp
                         with_reducible rfl
                       simp only [Act.put, List.setIfInBounds_toArray, List.set_cons_zero, List.set_cons_succ]
                       refine hK _ ?_; clear hK K)
                    | ((with_reducible refine quiet_neg ?_ (fun K hK => ?_))
                       · rfl
                       simp only [Act.put, List.setIfInBounds_toArray, List.set_cons_zero, List.set_cons_succ]
                       refine hK _ ?_; clear hK K))
                  with_reducible refine wpQuiet_nil ?_
                  intro wz hwz'
                  have hS2 := hS.step hwz'
                  have V0' : ∀ w', Cls wz w' → w'.cell? ⟨g, a, none⟩ = some (.int .i64 (valL Y a)) := fun _ h => V0 _ (bl_then hwz' h)
                  have V1' : ∀ w', Cls wz w' → w'.cell? ⟨g, e, none⟩ = some (.int .i64 (valL Y e)) := fun _ h => V1 _ (bl_then hwz' h)
                  clear hS V0 V1 hwz'
                  go_wp2_with fail
                  refine region_cls (by kernel_rfl) (by kernel_rfl) ?_
                  repeat (first
                    | ((with_reducible refine quiet_pos ?_ (fun K hK => ?_))
                       · rfl
                       apply Exists.intro
                       refine ⟨fun w' hw' => ?_, ?_⟩
                       · go_simp
                         first
                           | with_reducible rfl
                           | (go_at_call 152; with_reducible exact hw'.same (least_any _ _ _))
                       simp only [Act.put, List.setIfInBounds_toArray, List.set_cons_zero, List.set_cons_succ]
                       refine hK _ ?_; clear hK K)
                    | ((with_reducible refine quiet_neg ?_ (fun K hK => ?_))
                       · rfl
                       simp only [Act.put, List.setIfInBounds_toArray, List.set_cons_zero, List.set_cons_succ]
                       refine hK _ ?_; clear hK K))
                  with_reducible refine wpQuiet_nil ?_
                  intro wz hwz'
                  have hS := hS2.step hwz'
                  clear hS2 V0' V1' hwz'
                  have v0 := hS.int_at 0 rfl (j := a) (by rw [hpl.out]; omega)
                  have v1 := hS.int_at 0 rfl (j := e) (by rw [hpl.out]; omega)
                  have y0 := hS.int_free 0 rfl a
                  have y1 := hS.int_free 0 rfl e
                  have hS3 := hS.int_set 0 rfl (j := a) (by rw [hpl.out]; omega) (min (valL Y a) (valL Y e))
                  have v2 := hS3.int_at 0 rfl (j := e) (by simp; rw [hpl.out]; omega)
                  have y2 := hS3.int_free 0 rfl e
                  have HS4 := hid (hS3.int_set 0 rfl (j := e) (by simp; rw [hpl.out]; omega) (min (valL Y a) (valL Y e)))
                  clear hS hS3
                  go_wp2_with fail
                  refine ⟨?_, by simp [intOf]; omega⟩
                  first
                    | exact ⟨j + 1, by omega, by go_num, by rw [HQ.out], by rw [HP.out, HJ.out]; exact HS4⟩
                    | ((repeat apply Exists.intro); exact ⟨⟨j + 1, by omega, by go_num, by rw [HQ.out], by rw [HP.out, HJ.out]; exact HS4⟩, rfl⟩)
                · have he2 : valL Y a = valL Y e := by simpa using gv
                  have HJ : Hid (joinF f Y = Y) := by
                    refine joinF_same (n := n) hpl.out (by omega) (by omega) (by omega) ?_
                    rw [ha, hb]; simpa using he2
                  have HQ : Hid (chgB (fun i => M.testBit i) fs X (j + 1) = ch) := by unfold Hid; rw [HC2.out, gv]; simp
                  clear HC2 HCH hfd ha hb he2 gb
                  refine region_cls (by kernel_rfl) (by kernel_rfl) ?_
                  repeat (first
                    | ((with_reducible refine quiet_pos ?_ (fun K hK => ?_))
                       · rfl
                       apply Exists.intro
                       refine ⟨fun w' hw' => ?_, ?_⟩
                       · go_simp
                         with_reducible rfl
                       simp only [Act.put, List.setIfInBounds_toArray, List.set_cons_zero, List.set_cons_succ]
                       refine hK _ ?_; clear hK K)
                    | ((with_reducible refine quiet_neg ?_ (fun K hK => ?_))
                       · rfl
                       simp only [Act.put, List.setIfInBounds_toArray, List.set_cons_zero, List.set_cons_succ]
                       refine hK _ ?_; clear hK K))
                  with_reducible refine wpQuiet_nil ?_
                  intro wz hwz'
                  have HS3 := hid (hS.step hwz')
                  clear hS
                  go_wp2_with fail
                  refine ⟨?_, by simp [intOf]; omega⟩
                  first
                    | exact ⟨j + 1, by omega, by go_num, by rw [HQ.out], by rw [HP.out, HJ.out]; exact HS3⟩
                    | ((repeat apply Exists.intro); exact ⟨⟨j + 1, by omega, by go_num, by rw [HQ.out], by rw [HP.out, HJ.out]; exact HS3⟩, rfl⟩)
              · rw [gb] at ib
                simp only [if_true] at ib
                have HP : Hid (passTo (fun i => M.testBit i) fs X (j + 1) = passTo (fun i => M.testBit i) fs X j) := by unfold Hid; rw [passTo_succ, gb]; rfl
                have HQ : Hid (chgB (fun i => M.testBit i) fs X (j + 1) = ch) := by
                  show (chgB (fun i => M.testBit i) fs X j || (!(M.testBit j) && _)) = _
                  rw [← HCH.out, gb]; simp
                clear HCH hfd ha hb gb
                refine region_cls (by kernel_rfl) (by kernel_rfl) ?_
                repeat (first
                  | ((with_reducible refine quiet_pos ?_ (fun K hK => ?_))
                     · rfl
                     apply Exists.intro
                     refine ⟨fun w' hw' => ?_, ?_⟩
                     · go_simp
                       with_reducible rfl
                     simp only [Act.put, List.setIfInBounds_toArray, List.set_cons_zero, List.set_cons_succ]
                     refine hK _ ?_; clear hK K)
                  | ((with_reducible refine quiet_neg ?_ (fun K hK => ?_))
                     · rfl
                     simp only [Act.put, List.setIfInBounds_toArray, List.set_cons_zero, List.set_cons_succ]
                     refine hK _ ?_; clear hK K))
                with_reducible refine wpQuiet_nil ?_
                intro wz hwz'
                have HS3 := hid (hS.step hwz')
                clear hS
                go_wp2_with fail
                refine ⟨?_, by simp [intOf]; omega⟩
                first
                  | exact ⟨j + 1, by omega, by go_num, by rw [HQ.out], by rw [HP.out]; exact HS3⟩
                  | ((repeat apply Exists.intro); exact ⟨⟨j + 1, by omega, by go_num, by rw [HQ.out], by rw [HP.out]; exact HS3⟩, rfl⟩)
            · have hjm : j = fs.length := by have := hlf.out; omega
              have HR : Hid (rndL (fun i => M.testBit i) fs n (r + 1) = passTo (fun i => M.testBit i) fs X j) := by unfold Hid; rw [HN.out, hjm]; rfl
              have HG1 : Hid (ch = true → r + 1 ≤ n) := fun hc => by
                apply Classical.byContradiction
                intro hlt
                have h1 := rndL_late (q := fun i => M.testBit i) HE.out (show n ≤ r by omega)
                rw [HN.out, ← HX.out] at h1
                exact chgB_yes hXl.out HE.out (Nat.le_of_eq hjm) (by rw [← HCH.out]; exact hc) h1
              have HG2 : Hid (ch = false → rndL (fun i => M.testBit i) fs n (r + 1) = compL (fun i => M.testBit i) fs n) := fun hc => by
                have h1 := chgB_no (q := fun i => M.testBit i) hXl.out HE.out (Nat.le_of_eq hjm) (by rw [← HCH.out]; exact hc)
                have h2 : rndL (fun i => M.testBit i) fs n (r + 1) = rndL (fun i => M.testBit i) fs n r := by rw [HR.out, h1, HX.out]
                rw [h2]
                exact rndL_done HE.out h2
              clear hjm
              go_wp2_with fail
              go_roundg (gk - 1)
              case measure => omega
              case rel => exact ⟨r + 1, ch, rfl, by omega, HG1, HG2, by rw [HR.out]; exact HS⟩
end
end Go.Proofs.Ytfepilpllfiegaa
/- OtherEnd of the program and of the reference, walked. Conditions: none. -/
namespace Go.Proofs.Ytfepilpllfiegaa
open Go.RowKit
instance : Inhabited ByteArray := ⟨ByteArray.empty⟩
def oeF (fs : List Fib) (i v : Int) : Int := otherF (fs.getD i.toNat default) v
def oeB (xs : List ByteArray) (fs : List Fib) (i v : Int) : Bool := goodB xs fs && inB 0 ((fs.length : Int) - 1) i && !decide (oeF fs i v < 0)
def oeI (xs : List ByteArray) (fs : List Fib) (i v : Int) : Int := if oeB xs fs i v then oeF fs i v else 0
section
variable {n c m d : Nat} {A A' : Option Addr} {xs : List ByteArray} {fs : List Fib}
set_option maxRecDepth 100000 in
theorem isFiber_any (i : Int) (w : World) (h : NetIs w A n c A' m d xs fs) :
    Calls Try.prog 109 #[.agg #[.slice A n c, .slice A' m d], .int .i64 i] w fun e w' => e = .returned (.bool (goodB xs fs && inB 0 ((m : Int) - 1) i)) ∧ Below w.heap.size w w' := by
  have hb0 := bl_alloc (Below.refl w.heap.size w) (.cells #[.slice A n c, .slice A' m d] 27)
  have hx0 : Blk (w.alloc (.cells #[.slice A n c, .slice A' m d] 27)) w.heap.size 27 #[.slice A n c, .slice A' m d] := Blk.new _ _ _
  have h0 := h.grow hb0
  have hm := h.mle
  cases g : goodB xs fs
  · go_enter Try.func109, Try.ntmps109
    go_wp2_with fail
    refine (validN _ h0).mono ?_
    rintro e w2 ⟨rfl, hb2⟩
    rw [g]
    go_wp2_with fail
    go_ret
    exact ⟨rfl, bl_then hb0 hb2⟩
  · go_enter Try.func109, Try.ntmps109
    go_wp2_with fail
    refine (validN _ h0).mono ?_
    rintro e w2 ⟨rfl, hb2⟩
    rw [g]
    have q1 := (hx0.below hb2 hx0.lt).cell 1
    simp at q1
    go_wp2_with fail
    refine (within_any _ _ _ _).mono ?_
    rintro e w3 ⟨rfl, rfl⟩
    go_wp2_with fail
    go_ret
    exact ⟨rfl, bl_then hb0 hb2⟩
theorem inB_idx {i : Int} {m : Nat} (h : inB 0 ((m : Int) - 1) i = true) : 0 ≤ i ∧ i < m := by unfold inB at h; simp at h; omega
end
end Go.Proofs.Ytfepilpllfiegaa
/- ComponentsOf of both sides, walked. Conditions: none. -/
namespace Go.Proofs.Ytfepilpllfiegaa
open Go.RowKit
section
variable {n c m d c' : Nat} {A A' V : Option Addr} {xs : List ByteArray} {fs : List Fib} {l : List Int}
/-- The list is a set of fibers of a valid network. -/
def coB (xs : List ByteArray) (fs : List Fib) (l : List Int) : Bool := goodB xs fs && risB 0 ((fs.length : Int) - 1) l
def coL (xs : List ByteArray) (fs : List Fib) (l : List Int) : List Int := if coB xs fs l then compL (goneF l) fs xs.length else []
theorem coB_mem (h : coB xs fs l = true) : ∀ x ∈ l, 0 ≤ x ∧ x < fs.length := by
  intro x hx
  unfold coB risB at h
  rw [Bool.and_eq_true] at h
  obtain ⟨k, hk, e⟩ := List.mem_iff_getElem.1 hx
  have h1 := allB_iff.1 h.2 k hk
  unfold riseAt at h1
  rw [Bool.and_eq_true, getD_of (by rw [List.getElem?_eq_getElem hk, e])] at h1
  exact inB_idx h1.1
theorem coL_len : (coL xs fs l).length ≤ 8 := by
  unfold coL
  cases g : coB xs fs l
  · simp
  · unfold coB at g
    rw [Bool.and_eq_true] at g
    have := (goodB_bd g.1).2.1
    simp [compL_len]; omega
theorem passTo_congr {q q' : Nat → Bool} {X : List Int} : ∀ j, (∀ i, i < j → q i = q' i) → passTo q fs X j = passTo q' fs X j := by
  intro j
  induction j with
  | zero => intro _; rfl
  | succ j ih => intro h; rw [passTo_succ, passTo_succ, h j (by omega), ih (fun i hi => h i (by omega))]
theorem compL_congr {q q' : Nat → Bool} (h : ∀ i, i < fs.length → q i = q' i) : compL q fs n = compL q' fs n := by
  suffices hh : ∀ k, rndL q fs n k = rndL q' fs n k from hh n
  intro k
  induction k with
  | zero => rfl
  | succ k ih => rw [rndL_succ, rndL_succ, ih]; exact passTo_congr _ h
set_option maxRecDepth 100000 in
theorem isFiberSet_any (w : World) (h : NetIs w A n c A' m d xs fs) (hv : Sees elInt w w.heap.size V l.length l) (hl : l.length ≤ 1048576) :
    Calls Try.prog 75 #[.agg #[.slice A n c, .slice A' m d], .slice V l.length c'] w fun e w' => e = .returned (.bool (coB xs fs l)) ∧ Below w.heap.size w w' := by
  have hS := (Led.nil w).blk_ w.heap.size rfl 27 #[.slice A n c, .slice A' m d]
  have hm := h.mle
  have HB : Hid (coB xs fs l = (goodB xs fs && risB 0 ((m : Int) - 1) l)) := by unfold Hid coB; rw [h.flen]
  cases g : goodB xs fs
  · go_enter Try.func75, Try.ntmps75
    go_wp2_with fail
    refine (validN _ (h.grow hS.bl)).mono ?_
    rintro e w1 ⟨rfl, hb⟩
    rw [g]
    go_wp2_with fail
    go_ret
    exact ⟨by rw [HB.out, g]; rfl, bl_then hS.bl hb⟩
  · go_enter Try.func75, Try.ntmps75
    go_wp2_with fail
    refine (validN _ (h.grow hS.bl)).mono ?_
    rintro e w1 ⟨rfl, hb⟩
    rw [g]
    replace hS := hS.step hb
    have q1 := hS.cell 0 1 rfl rfl
    go_wp2_with fail
    refine (isSet_any m _ (hv.grow hS.bl) hl hm).mono ?_
    rintro e w2 ⟨rfl, rfl⟩
    go_wp2_with fail
    go_ret
    exact ⟨by rw [HB.out, g]; rfl, hS.bl⟩
set_option maxHeartbeats 1000000 in
set_option maxRecDepth 100000 in
theorem implComponentsOf (w : World) (h : NetIs w A n c A' m d xs fs) (hv : Sees elInt w w.heap.size V l.length l) (hl : l.length ≤ 1048576) :
    Calls Try.prog 70 #[.agg #[.slice A n c, .slice A' m d], .slice V l.length c'] w fun e w' => ∃ v, e = .returned (.tuple #[v, .bool (coB xs fs l)]) ∧ Owns elInt w' w.heap.size 3 v (coL xs fs l) ∧ Below w.heap.size w w' := by
  have hS := (Led.nil w).blk_ w.heap.size rfl 27 #[.slice A n c, .slice A' m d]
  cases g : coB xs fs l
  · have H : Hid (coL xs fs l = []) := by unfold Hid coL; rw [g]; rfl
    go_enter Try.func70, Try.ntmps70
    go_wp2_with fail
    refine (isFiberSet_any _ (h.grow hS.bl) ((hv.grow hS.bl).more hS.bl.size) hl).mono ?_
    rintro e w1 ⟨rfl, hb⟩
    rw [g]
    go_wp2_with fail
    go_ret2
    exact ⟨_, rfl, by rw [H.out]; exact World.ownsRow_nil _ _ _ _, bl_then hS.bl hb⟩
  · have H : Hid (coL xs fs l = compL (goneF l) fs n) := by unfold Hid coL; rw [g, h.xlen]; rfl
    have hg : goodB xs fs = true := by unfold coB at g; rw [Bool.and_eq_true] at g; exact g.1
    have he := goodB_ends hg
    rw [h.xlen] at he
    have hn0 : 0 < n := by have := (goodB_bd hg).1; have := h.xlen; omega
    go_enter Try.func70, Try.ntmps70
    go_wp2_with fail
    refine (isFiberSet_any _ (h.grow hS.bl) ((hv.grow hS.bl).more hS.bl.size) hl).mono ?_
    rintro e w1 ⟨rfl, hb⟩
    rw [g]
    replace hS := hS.step hb
    have q0 := hS.cell 0 0 rfl rfl
    have q1 := hS.cell 0 1 rfl rfl
    go_wp2_with fail
    refine (components_any _ (h.grow hS.bl) (hv.grow hS.bl) hl he hn0).mono ?_
    rintro e w2 ⟨v, rfl, ho, hb2⟩
    have HO := hid (ho.base hS.bl.size)
    clear ho
    go_wp2_with fail
    go_ret2
    exact ⟨_, rfl, by rw [H.out]; exact HO.out, bl_then hS.bl hb2⟩
/-- The labels by a set's number. -/
theorem compL_mask (h : coB xs fs l = true) : compL (fun i => (maskN l).testBit i) fs n = compL (goneF l) fs n :=
  compL_congr fun i _ => maskN_bit (fun x hx => (coB_mem h x hx).1) i
theorem mask_small (h : coB xs fs l = true) : maskN l < 2 ^ 20 ∧ ∀ x ∈ l, 0 ≤ x ∧ x < 20 := by
  have hg : goodB xs fs = true := by unfold coB at h; rw [Bool.and_eq_true] at h; exact h.1
  have h14 := (goodB_bd hg).2.2
  have hx : ∀ x ∈ l, 0 ≤ x ∧ x < 20 := fun x hx => by have := coB_mem h x hx; omega
  exact ⟨maskTo_lt hx _ (Nat.le_refl _), hx⟩
end
end Go.Proofs.Ytfepilpllfiegaa
/- slices.Max; IsConnected of both sides; walked. Conditions: as each states. -/
namespace Go.Proofs.Ytfepilpllfiegaa
open Go.RowKit
/-- M is the greatest of the first k. -/
def maxAt (l : List Int) (k : Nat) (M : Int) : Prop := M ∈ l.take k ∧ ∀ x ∈ l.take k, x ≤ M
theorem maxAt_one {l : List Int} {x : Int} (h : l[0]? = some x) : maxAt l 1 x := by
  cases l with
  | nil => simp at h
  | cons y l => simp at h; subst h; simp [maxAt]
theorem maxAt_old {l : List Int} {k : Nat} {M x : Int} (h : maxAt l k M) (hx : l[k]? = some x) (hle : x ≤ M) : maxAt l (k + 1) M := by
  unfold maxAt at *
  rw [List.take_add_one, hx]
  refine ⟨by simp [h.1], fun y hy => ?_⟩
  simp at hy
  rcases hy with hy | rfl
  · exact h.2 y hy
  · exact hle
theorem maxAt_new {l : List Int} {k : Nat} {M x : Int} (h : maxAt l k M) (hx : l[k]? = some x) (hle : M ≤ x) : maxAt l (k + 1) x := by
  unfold maxAt at *
  rw [List.take_add_one, hx]
  refine ⟨by simp, fun y hy => ?_⟩
  simp at hy
  rcases hy with hy | rfl
  · exact Int.le_trans (h.2 y hy) hle
  · exact Int.le_refl _
set_option maxHeartbeats 1000000 in
set_option maxRecDepth 100000 in
theorem max_any {B c : Nat} {A : Option Addr} {l : List Int} (w : World) (hA : Sees elInt w B A l.length l) (h0 : 0 < l.length) (hn : l.length ≤ 1048576) :
    Calls Try.prog 76 #[.slice A l.length c] w fun e w' => ∃ M, e = .returned (.int .i64 M) ∧ maxAt l l.length M ∧ w = w' := by
  obtain ⟨b, o, rfl, _, hc⟩ := hA.at_ h0
  obtain ⟨x, hx0⟩ := get_of (l := l) (k := 0) rfl h0
  have e0 := hc 0 x hx0 0 _ rfl
  simp only [elInt, Nat.zero_mul, Nat.add_zero] at e0
  have HM := hid (maxAt_one hx0)
  have HC := hid hc
  clear hc hx0
  go_enter Try.func76, Try.ntmps76
  go_wp2
  go_loop [3, 4] (fun t i => ∃ (k : Nat) (M : Int), 1 ≤ k ∧ k ≤ l.length ∧ i = .int .i64 k ∧ t = .int .i64 M ∧ Hid (maxAt l k M)) (fun _ i => l.length - (intOf i).toNat)
  case atStart => exact ⟨1, x, Nat.le_refl _, h0, rfl, rfl, HM⟩
  case round =>
    clear HM
    obtain ⟨k, M, hk1, hk, rfl, rfl, hM⟩ := hrel
    by_cases hlt : k < l.length
    · obtain ⟨y, hyk⟩ := get_of (l := l) (k := k) rfl hlt
      have e1 := HC.out k y hyk 0 _ rfl
      simp only [elInt, Nat.mul_one, Nat.add_zero] at e1
      rcases Int.lt_or_le M y with hle | hle
      · have HN := hid (maxAt_new hM.out hyk (Int.le_of_lt hle))
        clear hyk hM
        go_wp2
        exact ⟨⟨k + 1, y, by omega, by omega, by go_num, rfl, HN⟩, by simp [intOf]; omega⟩
      · have HN := hid (maxAt_old hM.out hyk hle)
        clear hyk hM
        go_wp2
        exact ⟨⟨k + 1, M, by omega, by omega, by go_num, rfl, HN⟩, by simp [intOf]; omega⟩
    · have hkl : k = l.length := by omega
      have HE : Hid (maxAt l l.length M) := by rw [← hkl]; exact hM
      clear hkl hM
      go_wp2
      go_ret
      exact ⟨M, rfl, HE.out, rfl⟩
section
variable {n c m d c' : Nat} {A A' V : Option Addr} {xs : List ByteArray} {fs : List Fib} {l : List Int}
theorem rndL_pos {q : Nat → Bool} (he : endsB n fs) (k : Nat) : ∀ x ∈ rndL q fs n k, 0 ≤ x := by
  have key : ∀ (L : List Int), L.length = n → (∀ v, 0 ≤ valL L v) → ∀ x ∈ L, 0 ≤ x := by
    intro L hL h x hx
    obtain ⟨i, hi, e⟩ := List.mem_iff_getElem.1 hx
    have := h i
    unfold valL at this
    rw [getD_of (by rw [List.getElem?_eq_getElem hi, e])] at this
    exact this
  refine key _ (rndL_len k) ?_
  induction k with
  | zero =>
    intro v
    show 0 ≤ valL (marks 0 n) v
    unfold valL
    by_cases h : v < n
    · rw [getD_of (marks_get h)]; omega
    · rw [List.getD_eq_getElem?_getD, List.getElem?_eq_none (by rw [marks_len]; omega)]; simp
  | succ k ih =>
    rw [rndL_succ]
    suffices hh : ∀ j, j ≤ fs.length → ∀ v, 0 ≤ valL (passTo q fs (rndL q fs n k) j) v from hh _ (Nat.le_refl _)
    intro j
    induction j with
    | zero => exact fun _ => ih
    | succ j ihj =>
      intro hj v
      have i2 := ihj (by omega)
      rw [passTo_succ]
      split
      · exact i2 v
      · obtain ⟨h0, h1, h2⟩ := he j (by omega)
        rw [joinF_val (n := n) (by rw [passTo_len, rndL_len]) h0 h1 h2]
        have a1 := i2 (fibD fs j).a.toNat
        have a2 := i2 (fibD fs j).b.toNat
        split
        · omega
        · exact i2 v
/-- IsConnected. -/
def icB (xs : List ByteArray) (fs : List Fib) (l : List Int) : Bool := coB xs fs l && (coL xs fs l).all fun x => x == 0
theorem max_zero {L : List Int} {M : Int} (h : maxAt L L.length M) (hp : ∀ x ∈ L, 0 ≤ x) : (M == 0) = L.all fun x => x == 0 := by
  unfold maxAt at h
  rw [List.take_length] at h
  rw [Bool.eq_iff_iff, List.all_eq_true]
  constructor
  · intro e x hx
    have e : M = 0 := by simpa using e
    have h1 := h.2 x hx
    have h2 := hp x hx
    have : x = 0 := by omega
    simp [this]
  · intro e
    exact e M h.1
set_option maxHeartbeats 1000000 in
set_option maxRecDepth 100000 in
theorem implIsConnected (w : World) (h : NetIs w A n c A' m d xs fs) (hv : Sees elInt w w.heap.size V l.length l) (hl : l.length ≤ 1048576) :
    Calls Try.prog 25 #[.agg #[.slice A n c, .slice A' m d], .slice V l.length c'] w fun e w' => e = .returned (.tuple #[.bool (icB xs fs l), .bool (coB xs fs l)]) ∧ Below w.heap.size w w' := by
  have hS := (Led.nil w).blk_ w.heap.size rfl 27 #[.slice A n c, .slice A' m d]
  cases g : coB xs fs l
  · have H : Hid (icB xs fs l = false) := by unfold Hid icB; rw [g]; rfl
    go_enter Try.func25, Try.ntmps25
    go_wp2_with fail
    refine (isFiberSet_any _ (h.grow hS.bl) ((hv.grow hS.bl).more hS.bl.size) hl).mono ?_
    rintro e w1 ⟨rfl, hb⟩
    rw [g]
    go_wp2_with fail
    go_ret2
    exact ⟨by rw [H.out]; rfl, bl_then hS.bl hb⟩
  · have hcl : coL xs fs l = compL (goneF l) fs n := by unfold coL; rw [g, h.xlen]; rfl
    have H : Hid (icB xs fs l = (compL (goneF l) fs n).all fun x => x == 0) := by unfold Hid icB; rw [g, hcl]; rfl
    have hg : goodB xs fs = true := by unfold coB at g; rw [Bool.and_eq_true] at g; exact g.1
    have he := goodB_ends hg
    rw [h.xlen] at he
    have hn0 : 0 < n := by have := (goodB_bd hg).1; have := h.xlen; omega
    have hn := h.nle
    have HP := hid (rndL_pos (q := goneF l) he n)
    have hll : Hid ((compL (goneF l) fs n).length = n) := compL_len
    clear hcl
    go_enter Try.func25, Try.ntmps25
    go_wp2_with fail
    refine (isFiberSet_any _ (h.grow hS.bl) ((hv.grow hS.bl).more hS.bl.size) hl).mono ?_
    rintro e w1 ⟨rfl, hb⟩
    rw [g]
    replace hS := hS.step hb
    have q0 := hS.cell 0 0 rfl rfl
    have q1 := hS.cell 0 1 rfl rfl
    go_wp2_with fail
    refine (components_any _ (h.grow hS.bl) (hv.grow hS.bl) hl he hn0).mono ?_
    rintro e w2 ⟨v, rfl, ho, hb2⟩
    change Hid (∀ x ∈ compL (goneF l) fs n, 0 ≤ x) at HP
    generalize compL (goneF l) fs n = L at *
    obtain ⟨A2, c2, rfl, _, _, hs⟩ := ho.form
    have hbz := bl_then hS.bl hb2
    have HS := hid hs
    clear ho hs q0 q1
    go_wp2_with fail
    refine (max_any _ HS.out (by rw [hll.out]; exact hn0) (by rw [hll.out]; exact hn)).mono ?_
    rintro e w3 ⟨M, rfl, hM, rfl⟩
    have HZ := hid (max_zero hM HP.out)
    clear hM
    go_wp2_with fail
    go_ret2
    exact ⟨by rw [H.out, ← HZ.out]; rfl, hbz⟩
end
end Go.Proofs.Ytfepilpllfiegaa
/- FibersBetween of the program and of the reference, walked. Conditions: none. -/
namespace Go.Proofs.Ytfepilpllfiegaa
open Go.RowKit
variable {n c m d : Nat} {A A' : Option Addr} {xs : List ByteArray} {fs : List Fib}
/-- Fiber j has one end alone on the side. -/
def crossF (fs : List Fib) (l : List Int) (j : Nat) : Bool := !(hasB l (fs.getD j ⟨0, 0, 0, 0⟩).a == hasB l (fs.getD j ⟨0, 0, 0, 0⟩).b)
def fbB (xs : List ByteArray) (fs : List Fib) (l : List Int) : Bool := goodB xs fs && risB 0 ((xs.length : Int) - 1) l
def fbI (xs : List ByteArray) (fs : List Fib) (l : List Int) : List Int := if fbB xs fs l then idsTo (crossF fs l) fs.length else []
theorem fbI_len (l : List Int) : (fbI xs fs l).length ≤ fs.length := by unfold fbI; split; exact idsTo_len _ _; exact Nat.zero_le _
section
variable {B k c' : Nat} {V : Option Addr} {l : List Int}
set_option maxHeartbeats 1000000 in
set_option maxRecDepth 100000 in
theorem implFibersBetween (w : World) (h : NetIs w A n c A' m d xs fs) (hv : Sees elInt w B V k l) (hkb : k ≤ 1048576) :
    Calls Try.prog 18 #[.agg #[.slice A n c, .slice A' m d], .slice V k c'] w fun e w' => ∃ v, e = .returned (.tuple #[v, .bool (fbB xs fs l)]) ∧ Owns elInt w' w.heap.size 3 v (fbI xs fs l) ∧ Below w.heap.size w w' := by
  obtain ⟨i0, hi, hz0, hz1, hz2⟩ := info_parts int_info
  have hb0 := bl_alloc (Below.refl w.heap.size w) (.cells #[.slice A n c, .slice A' m d] 27)
  have hx0 : Blk (w.alloc (.cells #[.slice A n c, .slice A' m d] 27)) w.heap.size 27 #[.slice A n c, .slice A' m d] := Blk.new _ _ _
  have h0 := h.grow hb0
  have hlx := h.xlen
  have hlf := h.flen
  have hm := h.mle
  have hn := h.nle
  have hv0 := hid (hv.grow hb0)
  have hsz0 : (w.alloc (.cells #[.slice A n c, .slice A' m d] 27)).heap.size = w.heap.size + 1 := by simp
  clear hv
  cases g : goodB xs fs
  · have H : Hid (fbB xs fs l = false ∧ fbI xs fs l = []) := by unfold Hid fbI fbB; rw [g]; exact ⟨rfl, rfl⟩
    clear hlx hlf
    go_enter Try.func18, Try.ntmps18
    go_wp2_with fail
    refine (validN _ h0).mono ?_
    rintro e w2 ⟨rfl, hb2⟩
    rw [g]
    go_wp2_with fail
    go_ret2
    exact ⟨_, by rw [H.out.1]; rfl, by rw [H.out.2]; exact World.ownsRow_nil _ _ _ _, bl_then hb0 hb2⟩
  · cases g2 : risB 0 ((n : Int) - 1) l
    · have H : Hid (fbB xs fs l = false ∧ fbI xs fs l = []) := by unfold Hid fbI fbB; rw [g, hlx, g2]; exact ⟨rfl, rfl⟩
      clear hlx hlf
      go_enter Try.func18, Try.ntmps18
      go_wp2_with fail
      refine (validN _ h0).mono ?_
      rintro e w2 ⟨rfl, hb2⟩
      rw [g]
      have q0 := (hx0.below hb2 (by simp)).cell 0
      simp at q0
      go_wp2_with fail
      refine (isSet_any n _ (hv0.out.grow hb2) hkb hn).mono ?_
      rintro e w3 ⟨rfl, rfl⟩
      rw [g2]
      go_wp2_with fail
      go_ret2
      exact ⟨_, by rw [H.out.1]; rfl, by rw [H.out.2]; exact World.ownsRow_nil _ _ _ _, bl_then hb0 hb2⟩
    · have H : Hid (fbB xs fs l = true ∧ fbI xs fs l = idsTo (crossF fs l) m) := by
        have hh : fbB xs fs l = true := by unfold fbB; rw [g, hlx, g2]; rfl
        exact ⟨hh, by unfold fbI; rw [if_pos hh, hlf]⟩
      clear hlx
      go_enter Try.func18, Try.ntmps18
      go_wp2_with fail
      refine (validN _ h0).mono ?_
      rintro e w2 ⟨rfl, hb2⟩
      rw [g]
      have q0 := (hx0.below hb2 (by simp)).cell 0
      have q1 := (hx0.below hb2 (by simp)).cell 1
      simp at q0 q1
      go_wp2_with fail
      refine (isSet_any n _ (hv0.out.grow hb2) hkb hn).mono ?_
      rintro e w3 ⟨rfl, rfl⟩
      rw [g2]
      have q2 := ((hx0.below hb2 (by simp)).alloc (.cells #[] 3)).cell 1
      simp at q2
      go_wp2_with fail
      have hbw := bl_alloc hb2 (.cells #[] 3)
      have hzw : w.heap.size + 1 ≤ w2.heap.size := by have := hb2.size; omega
      have hoe : Hid (Owns elInt (w2.alloc (.cells #[] 3)) (w.heap.size + 1) 3 (.slice (some ⟨w2.heap.size, 0, none⟩) 0 0) (idsTo (crossF fs l) 0)) :=
        Owns.of_blk (n := 0) (cap := 0) (cur := #[]) (Blk.new w2 3 #[]) hzw rfl (Nat.le_refl _) rfl (by decide) (Filled.zero _ _ _)
      clear hb2 q0 q1 q2
      generalize hw0 : w.alloc (.cells #[.slice A n c, .slice A' m d] 27) = w0 at *
      go_loopw [6, 24] (fun v i wr => ∃ k : Nat, k ≤ m ∧ i = .int .i64 k ∧ Hid (Owns elInt wr (w.heap.size + 1) 3 v (idsTo (crossF fs l) k)) ∧ Below w0.heap.size w0 wr) (fun _ i _ => m - (intOf i).toNat)
      case atStart => exact ⟨0, Nat.zero_le _, rfl, hoe, hbw⟩
      case round =>
        clear hbw hoe
        obtain ⟨k, hk, rfl, hown, hb⟩ := hrel
        by_cases hlt : k < m
        · obtain ⟨b, o, rfl, _, hc⟩ := h0.fibs.at_ hlt
          obtain ⟨f, hfk⟩ := get_of (k := k) hlf hlt
          have f0 := bl_cell hb (hc k f hfk 0 _ rfl)
          have f1 := bl_cell hb (hc k f hfk 1 _ rfl)
          have f2 := bl_cell hb (hc k f hfk 2 _ rfl)
          have f3 := bl_cell hb (hc k f hfk 3 _ rfl)
          simp only [elFib, Nat.add_zero] at f0 f1 f2 f3
          have hp : Hid (crossF fs l k = (!(hasB l f.a == hasB l f.b))) := by unfold Hid crossF; rw [getD_of hfk]
          have hbF := bl_alloc hb (.cells #[.int .i64 f.a, .int .i64 f.b, .int .i64 f.len, .int .i64 f.risk] 62)
          have hwz := hbF.size
          have hbF1 := bl_alloc (Below.refl wr.heap.size wr) (.cells #[.int .i64 f.a, .int .i64 f.b, .int .i64 f.len, .int .i64 f.risk] 62)
          have hoF : Hid (Owns elInt _ _ _ _ _) := hown.out.below hbF1
          have hvF := hid ((hv0.out.grow hb).grow hbF1)
          have T0 : ∀ w', Cls (wr.alloc (.cells #[.int .i64 f.a, .int .i64 f.b, .int .i64 f.len, .int .i64 f.risk] 62)) w' → w'.cell? ⟨wr.heap.size, 0, none⟩ = some (.int .i64 f.a) := fun _ h => h.cell (by go_simp)
          have T1 : ∀ w', Cls (wr.alloc (.cells #[.int .i64 f.a, .int .i64 f.b, .int .i64 f.len, .int .i64 f.risk] 62)) w' → w'.cell? ⟨wr.heap.size, 1, none⟩ = some (.int .i64 f.b) := fun _ h => h.cell (by go_simp)
          have hll := idsTo_len (crossF fs l) k
          clear hc hfk hown hb hbF1
          go_wp2
          generalize hwF : wr.alloc (.cells #[.int .i64 f.a, .int .i64 f.b, .int .i64 f.len, .int .i64 f.risk] 62) = wF at *
          refine region_cls (by kernel_rfl) (by kernel_rfl) ?_
          repeat (first
            | ((with_reducible refine quiet_pos ?_ (fun K hK => ?_))
               · rfl
               apply Exists.intro
               refine ⟨fun w' hw' => ?_, ?_⟩
               · go_simp
                 first
                   | with_reducible rfl
                   | (go_at_call 66; exact hw'.same (containsI_any _ _ (hvF.out.grow hw') (by simp only [maxLen]; omega)))
               simp only [Act.put, List.setIfInBounds_toArray, List.set_cons_zero, List.set_cons_succ]
               refine hK _ ?_; clear hK K)
            | ((with_reducible refine quiet_neg ?_ (fun K hK => ?_))
               · rfl
               simp only [Act.put, List.setIfInBounds_toArray, List.set_cons_zero, List.set_cons_succ]
               refine hK _ ?_; clear hK K))
          with_reducible refine wpQuiet_nil ?_
          intro wz hwz'
          have hbZ := bl_then hbF hwz'
          have hoZ : Hid (Owns elInt _ _ _ _ _) := hoF.out.below hwz'
          have hzz := hwz'.size
          clear hoF hbF T0 T1 hvF
          cases g3 : (!(hasB l f.a == hasB l f.b))
          · have HN : Hid (idsTo (crossF fs l) (k + 1) = idsTo (crossF fs l) k) := idsTo_no (hp.out.trans g3)
            have HO := hoZ
            rw [← HN.out] at HO
            clear hp hoZ
            go_wp2
            exact ⟨⟨k + 1, by omega, by go_num, HO, hbZ⟩, by simp [intOf]; omega⟩
          · have HN : Hid (idsTo (crossF fs l) (k + 1) = idsTo (crossF fs l) k ++ [(k : Int)]) := idsTo_yes (hp.out.trans g3)
            have hbG := bl_alloc hbZ (.cells #[.int .i64 k] 3)
            have hoG : Hid (Owns elInt _ _ _ _ _) := hoZ.out.below (bl_alloc (Below.refl _ _) (.cells #[.int .i64 k] 3))
            clear hp hoZ
            go_wp2_with (first
              | (at_builtin; refine wpList_append_own _ rfl _ _ 33 rfl (w.heap.size + 1) 3 i0 (.int .i64 0) 1 8 Try.underlying33 hi hz0 hz1 hz2 rfl (by decide) _ (idsTo (crossF fs l) k).length ((idsTo (crossF fs l) k).flatMap elInt.cells) rfl hoG.out ⟨_, 0, none⟩ 1 1 [.int .i64 k] rfl rfl (one_new _ _ _ (by simp)) (fun u hu => by simp at hu; subst hu; rfl) (by unfold maxLen; omega) (by omega) (by simp; omega) ?_)
              | go_in)
            intro v' w1 hown' hgrow _
            have HO : Hid (Owns elInt w1 (w.heap.size + 1) 3 v' (idsTo (crossF fs l) (k + 1))) := by unfold Hid; rw [HN.out]; exact Owns.appended hown'
            have hbN := bl_grown hbG hgrow (fun g hg => by have := (hoG.out.lies g hg).1; omega)
            clear hown' hgrow hoG hbG
            go_wp2
            go_roundw
            case rel => exact ⟨k + 1, by omega, by go_num, HO, hbN⟩
            case measure => simp [intOf]; omega
        · have hkm : k = m := by omega
          rw [hkm] at hown
          clear hlt
          go_wp2
          go_ret2
          exact ⟨_, by rw [H.out.1]; rfl, by rw [H.out.2]; exact hown.out.base (by omega), hb0.trans (hb.mono (by omega))⟩
set_option maxHeartbeats 1000000 in
set_option maxRecDepth 100000 in
theorem specFibersBetween (w : World) (h : NetIs w A n c A' m d xs fs) (hv : Sees elInt w B V k l) (hkb : k ≤ 1048576) :
    Calls Try.prog 19 #[.agg #[.slice A n c, .slice A' m d], .slice V k c'] w fun e w' => ∃ v, e = .returned (.tuple #[v, .bool (fbB xs fs l)]) ∧ Owns elInt w' w.heap.size 3 v (fbI xs fs l) ∧ Below w.heap.size w w' := by
  obtain ⟨i0, hi, hz0, hz1, hz2⟩ := info_parts int_info
  have hb0 := bl_alloc (Below.refl w.heap.size w) (.cells #[.slice A n c, .slice A' m d] 27)
  have hx0 : Blk (w.alloc (.cells #[.slice A n c, .slice A' m d] 27)) w.heap.size 27 #[.slice A n c, .slice A' m d] := Blk.new _ _ _
  have h0 := h.grow hb0
  have hlx := h.xlen
  have hlf := h.flen
  have hm := h.mle
  have hn := h.nle
  have hbe : Below (w.alloc (.cells #[.slice A n c, .slice A' m d] 27)).heap.size (w.alloc (.cells #[.slice A n c, .slice A' m d] 27)) ((w.alloc (.cells #[.slice A n c, .slice A' m d] 27)).alloc (.cells #[] 3)) := bl_alloc (Below.refl _ _) _
  have hoe : Hid (Owns elInt ((w.alloc (.cells #[.slice A n c, .slice A' m d] 27)).alloc (.cells #[] 3)) (w.heap.size + 1) 3 (.slice (some ⟨w.heap.size + 1, 0, none⟩) 0 0) []) :=
    Owns.of_blk (n := 0) (cap := 0) (cur := #[]) (by have := Blk.new (w.alloc (.cells #[.slice A n c, .slice A' m d] 27)) 3 #[]; simpa using this) (Nat.le_refl _) rfl (Nat.le_refl _) rfl (by decide) (Filled.zero _ _ _)
  have hsz0 : (w.alloc (.cells #[.slice A n c, .slice A' m d] 27)).heap.size = w.heap.size + 1 := by simp
  have h1 := h0.grow hbe
  have hv1 := hid ((hv.grow hb0).grow hbe)
  have hv0 := hid (hv.grow hb0)
  clear hv
  cases g : goodB xs fs
  · have H : Hid (fbB xs fs l = false ∧ fbI xs fs l = []) := by unfold Hid fbI fbB; rw [g]; exact ⟨rfl, rfl⟩
    clear hlx hlf
    go_enter Try.func19, Try.ntmps19
    go_wp2_with fail
    refine (goodN _ h1).mono ?_
    rintro e w2 ⟨rfl, hb2⟩
    rw [g]
    have hoe2 := hid (hoe.out.below hb2)
    clear hoe
    go_wp2_with fail
    go_ret2
    exact ⟨_, by rw [H.out.1]; rfl, by rw [H.out.2]; exact hoe2.out.base (by omega), bl_then (bl_alloc hb0 _) hb2⟩
  · cases g2 : risB 0 ((n : Int) - 1) l
    · have H : Hid (fbB xs fs l = false ∧ fbI xs fs l = []) := by unfold Hid fbI fbB; rw [g, hlx, g2]; exact ⟨rfl, rfl⟩
      clear hlx hlf
      go_enter Try.func19, Try.ntmps19
      go_wp2_with fail
      refine (goodN _ h1).mono ?_
      rintro e w2 ⟨rfl, hb2⟩
      rw [g]
      have q0 := ((hx0.below hbe hx0.lt).below hb2 (by simp; omega)).cell 0
      simp at q0
      go_wp2_with fail
      refine (l1Rising_any _ _ _ (hv1.out.grow hb2) hkb).mono ?_
      rintro e w3 ⟨rfl, hb3⟩
      rw [g2]
      have hoe2 := hid ((hoe.out.below hb2).below hb3)
      clear hoe
      go_wp2_with fail
      go_ret2
      exact ⟨_, by rw [H.out.1]; rfl, by rw [H.out.2]; exact hoe2.out.base (by omega), bl_then (bl_then (bl_alloc hb0 _) hb2) hb3⟩
    · have H : Hid (fbB xs fs l = true ∧ fbI xs fs l = idsTo (crossF fs l) m) := by
        have hh : fbB xs fs l = true := by unfold fbB; rw [g, hlx, g2]; rfl
        exact ⟨hh, by unfold fbI; rw [if_pos hh, hlf]⟩
      clear hlx
      go_enter Try.func19, Try.ntmps19
      go_wp2_with fail
      refine (goodN _ h1).mono ?_
      rintro e w2 ⟨rfl, hb2⟩
      rw [g]
      have q0 := ((hx0.below hbe hx0.lt).below hb2 (by simp; omega)).cell 0
      simp at q0
      go_wp2_with fail
      refine (l1Rising_any _ _ _ (hv1.out.grow hb2) hkb).mono ?_
      rintro e w3 ⟨rfl, hb3⟩
      rw [g2]
      have hoe2 : Hid (Owns elInt w3 (w.heap.size + 1) 3 (.slice (some ⟨w.heap.size + 1, 0, none⟩) 0 0) (idsTo (crossF fs l) 0)) := hid ((hoe.out.below hb2).below hb3)
      have hbw := hbe.trans ((bl_then hb2 hb3).mono (by simp))
      clear hbe hb2 hb3 q0 h1 hoe
      go_wp2_with fail
      generalize hw0 : w.alloc (.cells #[.slice A n c, .slice A' m d] 27) = w0 at *
      go_loopw [6, 7] (fun v i wr => ∃ k : Nat, k ≤ m ∧ i = .int .i64 k ∧ Hid (Owns elInt wr (w.heap.size + 1) 3 v (idsTo (crossF fs l) k)) ∧ Below w0.heap.size w0 wr) (fun _ i _ => m - (intOf i).toNat)
      case atStart => exact ⟨0, Nat.zero_le _, rfl, hoe2, hbw⟩
      case round =>
        clear hbw hoe2
        obtain ⟨k, hk, rfl, hown, hb⟩ := hrel
        have hxr := hx0.below hb hx0.lt
        have q1 := hxr.cell 1
        simp at q1
        by_cases hlt : k < m
        · obtain ⟨b, o, rfl, _, hc⟩ := h0.fibs.at_ hlt
          obtain ⟨f, hfk⟩ := get_of (k := k) hlf hlt
          have f0 := bl_cell hb (hc k f hfk 0 _ rfl)
          have f1 := bl_cell hb (hc k f hfk 1 _ rfl)
          simp only [elFib, Nat.add_zero] at f0 f1
          have T0 : ∀ w', Cls wr w' → w'.cell? ⟨b, o + k * 4, none⟩ = some (.int .i64 f.a) := fun _ h => h.cell f0
          have T1 : ∀ w', Cls wr w' → w'.cell? ⟨b, o + k * 4 + 1, none⟩ = some (.int .i64 f.b) := fun _ h => h.cell f1
          have Q1 : ∀ w', Cls wr w' → w'.cell? ⟨w.heap.size, 1, none⟩ = some (.slice (some ⟨b, o, none⟩) m d) := fun _ h => h.cell q1
          have iz : (k : Int) < (m : Int) := by omega
          have hp : Hid (crossF fs l k = (!(hasB l f.a == hasB l f.b))) := by unfold Hid crossF; rw [getD_of hfk]
          have hwz := hb.size
          have hvF := hid (hv0.out.grow hb)
          have hll := idsTo_len (crossF fs l) k
          clear hc hfk f0 f1 hxr
          go_wp2
          refine region_cls (by kernel_rfl) (by kernel_rfl) ?_
          repeat (first
            | ((with_reducible refine quiet_pos ?_ (fun K hK => ?_))
               · rfl
               apply Exists.intro
               refine ⟨fun w' hw' => ?_, ?_⟩
               · go_simp
                 first
                   | with_reducible rfl
                   | (go_at_call 69; exact hw'.same (l1Has_any _ _ (hvF.out.grow hw') (by simp only [maxLen]; omega)))
               simp only [Act.put, List.setIfInBounds_toArray, List.set_cons_zero, List.set_cons_succ]
               refine hK _ ?_; clear hK K)
            | ((with_reducible refine quiet_neg ?_ (fun K hK => ?_))
               · rfl
               simp only [Act.put, List.setIfInBounds_toArray, List.set_cons_zero, List.set_cons_succ]
               refine hK _ ?_; clear hK K))
          with_reducible refine wpQuiet_nil ?_
          intro wz hwz'
          have hbZ := bl_then hb hwz'
          have hoZ : Hid (Owns elInt _ _ _ _ _) := hown.out.below hwz'
          have hzz := hwz'.size
          clear hown T0 T1 Q1 q1 hvF hb
          cases g3 : (!(hasB l f.a == hasB l f.b))
          · have HN : Hid (idsTo (crossF fs l) (k + 1) = idsTo (crossF fs l) k) := idsTo_no (hp.out.trans g3)
            have HO := hoZ
            rw [← HN.out] at HO
            clear hp hoZ
            go_wp2
            exact ⟨⟨k + 1, by omega, by go_num, HO, hbZ⟩, by simp [intOf]; omega⟩
          · have HN : Hid (idsTo (crossF fs l) (k + 1) = idsTo (crossF fs l) k ++ [(k : Int)]) := idsTo_yes (hp.out.trans g3)
            have hbG := bl_alloc hbZ (.cells #[.int .i64 k] 3)
            have hoG : Hid (Owns elInt _ _ _ _ _) := hoZ.out.below (bl_alloc (Below.refl _ _) (.cells #[.int .i64 k] 3))
            clear hp hoZ
            go_wp2_with (first
              | (at_builtin; refine wpList_append_own _ rfl _ _ 33 rfl (w.heap.size + 1) 3 i0 (.int .i64 0) 1 8 Try.underlying33 hi hz0 hz1 hz2 rfl (by decide) _ (idsTo (crossF fs l) k).length ((idsTo (crossF fs l) k).flatMap elInt.cells) rfl hoG.out ⟨_, 0, none⟩ 1 1 [.int .i64 k] rfl rfl (one_new _ _ _ (by simp)) (fun u hu => by simp at hu; subst hu; rfl) (by unfold maxLen; omega) (by omega) (by simp; omega) ?_)
              | go_in)
            intro v' w1 hown' hgrow _
            have HO : Hid (Owns elInt w1 (w.heap.size + 1) 3 v' (idsTo (crossF fs l) (k + 1))) := by unfold Hid; rw [HN.out]; exact Owns.appended hown'
            have hbN := bl_grown hbG hgrow (fun g hg => by have := (hoG.out.lies g hg).1; omega)
            clear hown' hgrow hoG hbG
            go_wp2
            go_roundw
            case rel => exact ⟨k + 1, by omega, by go_num, HO, hbN⟩
            case measure => simp [intOf]; omega
        · have hkm : k = m := by omega
          rw [hkm] at hown
          clear hlt
          go_wp2
          go_ret2
          exact ⟨_, by rw [H.out.1]; rfl, by rw [H.out.2]; exact hown.out.base (by omega), hb0.trans (hb.mono (by omega))⟩
end
end Go.Proofs.Ytfepilpllfiegaa
