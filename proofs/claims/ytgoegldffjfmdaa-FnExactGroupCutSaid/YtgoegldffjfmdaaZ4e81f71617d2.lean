/- Lemmas and walks that the claim rests on, laid together. Conditions: none. -/
import Derived.Test.YtgoegldffjfmdaaZ44f4b0e7b5aa
import Derived.Test.YtgoegldffjfmdaaZda6d71dec378
import Derived.Test.YtgoegldffjfmdaaZd45350718704
import Derived.Deep.RegionHeld3
import Derived.Test.YtgoegldffjfmdaaRows
import Derived.Test.YtgoegldffjfmdaaZ5937fb145e81
import Derived.Test.YtgoegldffjfmdaaZ342be6a000f6
/- The reference's minimum cut: l6Singles, l6Choose, l6Cut, l6Ends, walked. Conditions: as each states. -/
namespace Go.Proofs.Ytgoegldffjfmdaa
open Go.RowKit
/-- The sets of single fibers, as numbers. -/
def singL (m : Nat) : List Int := (List.range m).map fun (j : Nat) => ((2 ^ j : Nat) : Int)
theorem singL_len (m : Nat) : (singL m).length = m := by simp [singL]
theorem singL_succ (m : Nat) : singL (m + 1) = singL m ++ [((2 ^ m : Nat) : Int)] := by simp [singL, List.range_succ]
theorem singL_get {m j : Nat} (h : j < m) : (singL m)[j]? = some ((2 ^ j : Nat) : Int) := by simp [singL, h]
theorem fromL_marks (N : Nat) : fromL N 0 = marks 0 N := by
  unfold fromL marks
  rw [Nat.sub_zero, ← List.range_eq_range']
  apply List.map_congr_left
  intro j _
  omega
theorem chooseS_len {q : Nat → Bool} {S : Nat → Nat} {N : Nat} : ∀ {k s M : Nat} {R : List Int}, chooseS q S N k s M = some R → R.length = k := by
  intro k
  induction k with
  | zero =>
    intro s M R h
    have h : (if q M then some [] else none) = some R := h
    split at h
    · injection h with h; subst h; rfl
    · cases h
  | succ k ih =>
    intro s M R h
    have h : firstO (fun i => (chooseS q S N k (i + 1) (M ||| S i)).map fun R => (i : Int) :: R) s (N - k - s) = some R := h
    have key : ∀ r j, firstO (fun i => (chooseS q S N k (i + 1) (M ||| S i)).map fun R => (i : Int) :: R) j r = some R → R.length = k + 1 := by
      intro r
      induction r with
      | zero => intro j h; cases h
      | succ r ihr =>
        intro j h
        cases hf : chooseS q S N k (j + 1) (M ||| S j) with
        | some x =>
          rw [firstO_some (x := (j : Int) :: x) (by rw [hf]; rfl)] at h
          injection h with h; subst h
          simp [ih hf]
        | none => rw [firstO_none (by rw [hf]; rfl)] at h; exact ihr (j + 1) h
    exact key _ _ h
section
variable {n c m d : Nat} {A A' : Option Addr} {xs : List ByteArray} {fs : List Fib}
set_option maxHeartbeats 2000000 in
set_option maxRecDepth 100000 in
theorem l6Singles_any (w : World) (_h : NetIs w A n c A' m d xs fs) (hm20 : m ≤ 20) :
    Calls Try.prog 133 #[.agg #[.slice A n c, .slice A' m d]] w fun e w' => ∃ v, e = .returned v ∧ Owns elInt w' w.heap.size 3 v (singL m) ∧ Below w.heap.size w w' := by
  obtain ⟨i0, hi, hz0, hz1, hz2⟩ := info_parts int_info
  have hS := ((Led.nil w).blk_ w.heap.size rfl 34 #[.slice A n c, .slice A' m d]).empty elInt 3 (w.heap.size + 1) (by simp) w.heap.size (by omega)
  have HS : Hid (Led w ((w.alloc (.cells #[.slice A n c, .slice A' m d] 34)).alloc (.cells #[] 3)) [tOwns elInt w.heap.size 3 (.slice (some ⟨w.heap.size + 1, 0, none⟩) 0 0) (singL 0), tBlk w.heap.size 34 #[.slice A n c, .slice A' m d]]) := hS
  clear hS
  go_enter Try.func133, Try.ntmps133
  go_wp2_with fail
  go_loopw [3, 4] (fun V i wr => ∃ k : Nat, k ≤ m ∧ i = .int .i64 k ∧ Hid (Led w wr [tOwns elInt w.heap.size 3 (V) (singL k), tBlk w.heap.size 34 #[.slice A n c, .slice A' m d]])) (fun _ i _ => m - (intOf i).toNat)
  case atStart => exact ⟨0, Nat.zero_le _, rfl, HS⟩
  case round =>
    clear HS
    obtain ⟨k, hk, rfl, HS⟩ := hrel
    have p0 := HS.out.cell 1 1 rfl rfl
    by_cases hlt : k < m
    · have hml := hid (singL_len k)
      obtain ⟨A1, c1, rfl, _⟩ := HS.out.form 0 rfl
      have HS2 := hid (HS.out.blk_ wr.heap.size rfl 3 #[.int .i64 ((2 ^ k : Nat) : Int)])
      have iu : IntKind.u64.wrap (k : Int) = (k : Int) := by rw [IntKind.wrap_u64]; omega
      have imn : min k 64 = k := by omega
      have HW := hid (shl_one (j := k) (by omega))
      have HM := hid (singL_succ k)
      clear HS
      go_wp2_with (first
        | (at_builtin; rw [HW.out]; refine wpList_append_led rfl _ _ 27 rfl HS2.out 1 rfl Try.underlying27 hi hz0 hz1 (by rw [hz2]; decide) rfl rfl rfl (show Sees elInt _ _ _ 1 [((2 ^ k : Nat) : Int)] from sees_new elInt _ _ _ _ rfl) (by rw [hml.out]; omega) HS2.out.bl.size ?_)
        | go_in)
      intro A2 c2 w2 hS3
      have HS3 := hid (hS3.drop 1)
      clear hS3 HS2 p0
      go_wp2
      go_roundw
      case rel => exact ⟨k + 1, by omega, by go_num, by rw [HM.out]; exact HS3⟩
      case measure => simp [intOf]; omega
    · have hkm : k = m := by omega
      subst hkm
      clear hlt
      go_wp2
      go_ret
      exact ⟨_, rfl, HS.out.own 0 rfl, HS.out.bl⟩
set_option maxHeartbeats 4000000 in
set_option maxRecDepth 100000 in
theorem l6Choose_any {N f t cG : Nat} {G : Option Addr} {ss : List Int} {S : Nat → Nat} (hN : ss.length = N) (hN30 : N ≤ 30) (hss : ∀ i, i < N → ss[i]? = some ((S i : Nat) : Int)) (hS20 : ∀ i, i < N → S i < 2 ^ 20) (he : endsB n fs) (hn0 : 0 < n) (hm20 : m ≤ 20) (hf : f < n) (ht : t < n) :
    ∀ (k s M : Nat) (w : World), k ≤ 40 → s ≤ 40 → M < 2 ^ 20 → NetIs w A n c A' m d xs fs → Sees elInt w w.heap.size G N ss →
    Calls Try.prog 179 #[.agg #[.slice A n c, .slice A' m d], .int .i64 f, .int .i64 t, .slice G N cG, .int .i64 s, .int .i64 k, .int .i64 M] w fun e w' => ∃ v, e = .returned (.tuple #[v, .bool (chooseS (cutQ fs n f t) S N k s M).isSome]) ∧ Owns elInt w' w.heap.size 3 v ((chooseS (cutQ fs n f t) S N k s M).getD []) ∧ Below w.heap.size w w' := by
  intro k
  induction k with
  | zero =>
    intro s M w _ _ hM h hG
    obtain ⟨b, hb⟩ : ∃ b, b = cutQ fs n f t M := ⟨_, rfl⟩
    have HR : Hid (chooseS (cutQ fs n f t) S N 0 s M = if b then some [] else none) := by rw [hb]; rfl
    obtain ⟨y, hy⟩ : ∃ y, y = compL (fun i => M.testBit i) fs n := ⟨_, rfl⟩
    have HB : Hid (b = (valL y f != valL y t)) := by rw [hb, hy]; rfl
    have hlc : Hid (y.length = n) := by rw [hy]; exact compL_len
    have HY := hid hy
    have hS := (Led.nil w).blk_ w.heap.size rfl 34 #[.slice A n c, .slice A' m d]
    have HN := hid h
    have iF : (f : Int) < (n : Int) := by omega
    have iT : (t : Int) < (n : Int) := by omega
    have q0 := hS.cell 0 0 rfl rfl
    have q1 := hS.cell 0 1 rfl rfl
    clear hb hy h hG
    go_enter Try.func179, Try.ntmps179
    go_wp2_with fail
    refine (labels_any M _ (HN.out.grow hS.bl) hM he hn0 hm20).mono ?_
    rintro e w1 ⟨v, rfl, ho, hb⟩
    obtain ⟨g, cV, rfl⟩ := ho.splitg compL_len hn0
    rw [← HY.out] at ho
    replace hS := hS.owns hb ho
    have V0 : ∀ w', Cls w1 w' → w'.cell? ⟨g, f, none⟩ = some (.int .i64 (valL y f)) := fun _ h => h.cell (hS.int_at 0 rfl (j := f) (by rw [hlc.out]; omega))
    have V1 : ∀ w', Cls w1 w' → w'.cell? ⟨g, t, none⟩ = some (.int .i64 (valL y t)) := fun _ h => h.cell (hS.int_at 0 rfl (j := t) (by rw [hlc.out]; omega))
    clear ho hb q0 q1
    go_wp2_with fail
    go_region_held3 (fun w' => Cls w1 w') (first | exact Cls.refl _ | exact Cls.drew _ | assumption | exact bl_alloc (by assumption) _ | exact bl_alloc (Cls.drew _) _ | exact (bl_alloc (Cls.refl _) _).drew) (fail)
    all_goals
      have hS2 := (hS.empty elInt 3 w1.heap.size rfl w.heap.size hS.bl.size).step ((Below.refl _ _).drew)
      have HZ := hid hS2
      clear hS2 V0 V1
      go_wp2
      go_ret2
      refine ⟨_, by rw [HR.out, HB.out]; cases (valL y f != valL y t) <;> rfl, ?_, HZ.out.bl⟩
      have e : (chooseS (cutQ fs n f t) S N 0 s M).getD [] = [] := by rw [HR.out]; cases b <;> rfl
      rw [e]
      exact HZ.out.own 0 rfl
  | succ k ih =>
    intro s M w hk hs hM h hG
    obtain ⟨i0, hi, hz0, hz1, hz2⟩ := info_parts int_info
    obtain ⟨ff, hff⟩ : ∃ ff : Nat → Option (List Int), ff = fun i => (chooseS (cutQ fs n f t) S N k (i + 1) (M ||| S i)).map fun R => (i : Int) :: R := ⟨_, rfl⟩
    have HR : Hid (chooseS (cutQ fs n f t) S N (k + 1) s M = firstO ff s (N - k - s)) := by rw [hff]; rfl
    have HFK : Hid (∀ i, ff i = (chooseS (cutQ fs n f t) S N k (i + 1) (M ||| S i)).map fun R => (i : Int) :: R) := fun i => by rw [hff]
    have hS := (Led.nil w).blk_ w.heap.size rfl 34 #[.slice A n c, .slice A' m d]
    have HN := hid h
    have HG := hid hG
    have HIH := hid ih
    have HSS := hid hss
    have HS20 := hid hS20
    have hz : (((k : Nat) : Int) + 1 == 0) = false := by simp; omega
    have HLN := hid hN
    have HS : Hid (Led w (w.alloc (.cells #[.slice A n c, .slice A' m d] 34)) [tBlk w.heap.size 34 #[.slice A n c, .slice A' m d]]) := hS
    clear hff h hG ih hS hss hS20 hN
    go_enter Try.func179, Try.ntmps179
    go_wp2_with fail
    go_loopw [17] (fun i wr => ∃ i' : Nat, s ≤ i' ∧ i' ≤ max s (N - k) ∧ i = .int .i64 i' ∧ Hid (Led w wr [tBlk w.heap.size 34 #[.slice A n c, .slice A' m d]]) ∧ Hid (firstO ff s (N - k - s) = firstO ff i' (N - k - i'))) (fun i _ => N - k - (intOf i).toNat)
    case atStart => exact ⟨s, Nat.le_refl _, by omega, rfl, HS, rfl⟩
    case round =>
      clear HS
      obtain ⟨i', hsi, hiN, rfl, HS, HE⟩ := hrel
      have iw0 : IntKind.i64.wrap ((i' : Int) + ((k : Int) + 1)) = (i' : Int) + ((k : Int) + 1) := IntWalk.i64_in _ (by omega)
      by_cases hlt : i' < N - k
      · have hc1 : decide ((i' : Int) + ((k : Int) + 1) ≤ (N : Int)) = true := decide_eq_true (by omega)
        have iw1 : IntKind.i64.wrap ((i' : Int) + 1) = (i' : Int) + 1 := IntWalk.i64_in _ (by omega)
        have iw2 : IntKind.i64.wrap (k : Int) = (k : Int) := IntWalk.i64_in _ (by omega)
        have ii : (i' : Int) < (N : Int) := by omega
        have hiN' : i' < N := by omega
        have hGs := HG.out.grow HS.out.bl
        obtain ⟨gb, go, rfl, _, hgc⟩ := hGs.at_ hiN'
        have e0 := hgc i' _ (HSS.out i' hiN') 0 _ rfl
        simp only [elInt, Nat.mul_one, Nat.add_zero] at e0
        have E0 : ∀ w', Cls wr w' → w'.cell? ⟨gb, go + i', none⟩ = some (.int .i64 ((S i' : Nat) : Int)) := fun _ h => h.cell e0
        have C0 : ∀ w', Cls wr w' → w'.cell? ⟨w.heap.size, 0, none⟩ = some (.slice A n c) := fun _ h => h.cell (HS.out.cell 0 0 rfl rfl)
        have C1 : ∀ w', Cls wr w' → w'.cell? ⟨w.heap.size, 1, none⟩ = some (.slice A' m d) := fun _ h => h.cell (HS.out.cell 0 1 rfl rfl)
        have hSi := HS20.out i' hiN'
        have HO := hid (bits_or_n hM hSi)
        have hMS : M ||| S i' < 2 ^ 20 := Nat.or_lt_two_pow hM hSi
        have HL := hid (fun w' (h : Cls wr w') => HS.out.step h)
        have HCX : Hid (∀ w', Cls wr w' → Calls Try.prog 179 #[.agg #[.slice A n c, .slice A' m d], .int .i64 f, .int .i64 t, .slice (some ⟨gb, go, none⟩) N cG, .int .i64 ((i' : Int) + 1), .int .i64 k, .int .i64 ((M ||| S i' : Nat) : Int)] w' fun e w2 => ∃ v, e = .returned (.tuple #[v, .bool (chooseS (cutQ fs n f t) S N k (i' + 1) (M ||| S i')).isSome]) ∧ Owns elInt w2 w'.heap.size 3 v ((chooseS (cutQ fs n f t) S N k (i' + 1) (M ||| S i')).getD []) ∧ Below w'.heap.size w' w2) := fun w' hw' =>
          HIH.out (i' + 1) (M ||| S i') w' (by omega) (by omega) hMS (HN.out.grow (HL.out w' hw').bl) ((HG.out.grow (HL.out w' hw').bl).more (HL.out w' hw').bl.size)
        clear hGs hgc e0
        go_wp2_with fail
        go_region_held3 (fun w' => Cls wr w') (first | exact Cls.refl _ | exact Cls.drew _ | assumption | exact Cls.next (by assumption) (by assumption))
          (first
            | (go_at_call 179; rw [HO.out]; have hcl := ‹Cls wr _›; refine (HCX.out _ (by assumption)).mono ?_; rintro e w' ⟨v, rfl, ho, hb⟩))
        have hL2 := (HL.out _ hcl).owns hb ho
        clear HL C0 C1 E0 HCX ho hb hcl HO
        generalize w' = W2 at *
        cases gx : chooseS (cutQ fs n f t) S N k (i' + 1) (M ||| S i') with
        | none =>
          have HE2 : Hid (firstO ff s (N - k - s) = firstO ff (i' + 1) (N - k - (i' + 1))) := by
            unfold Hid
            rw [HE.out, show N - k - i' = (N - k - (i' + 1)) + 1 by omega]
            exact firstO_none (by rw [HFK.out, gx]; rfl)
          have HS4 := hid (hL2.drop 1)
          clear gx HE hL2 HS
          simp only [Option.isSome_none]
          go_wp2
          refine ⟨?_, by simp [intOf]; omega⟩
          first
            | exact ⟨i' + 1, by omega, by omega, by go_num, HS4, HE2⟩
            | ((repeat apply Exists.intro); exact ⟨⟨i' + 1, by omega, by omega, by go_num, HS4, HE2⟩, rfl⟩)
        | some R =>
          have HE2 : Hid (chooseS (cutQ fs n f t) S N (k + 1) s M = some ((i' : Int) :: R)) := by
            unfold Hid
            rw [HR.out, HE.out, show N - k - i' = (N - k - (i' + 1)) + 1 by omega]
            exact firstO_some (by rw [HFK.out, gx]; rfl)
          rw [gx] at hL2
          have hRl : R.length ≤ 2000 := by
            have hlow := chooseS_len gx
            omega
          obtain ⟨A3, c3, rfl, _⟩ := hL2.form 0 rfl
          have HL3 := hid (hL2.single elInt (i' : Int) 3 W2.heap.size rfl w.heap.size hL2.bl.size)
          clear gx HE hL2 HS
          simp only [Option.isSome_some]
          go_wp2_with (first
            | (at_builtin; refine wpList_append_led rfl _ _ 27 rfl HL3.out 0 rfl Try.underlying27 hi hz0 hz1 (by rw [hz2]; decide) rfl rfl rfl (HL3.out.sees 1 rfl rfl) (by simp; omega) HL3.out.bl.size ?_)
            | go_in)
          intro A4 c4 w5 hS5
          have HS5 := hid hS5
          clear hS5 HL3
          go_wp2
          go_ret2
          exact ⟨_, by rw [HE2.out]; rfl, by rw [HE2.out]; exact HS5.out.own 0 rfl, HS5.out.bl⟩
      · have hk0 : N - k - i' = 0 := by omega
        have hc1 : decide ((i' : Int) + ((k : Int) + 1) ≤ (N : Int)) = false := decide_eq_false (by omega)
        have HE2 : Hid (chooseS (cutQ fs n f t) S N (k + 1) s M = none) := by unfold Hid; rw [HR.out, HE.out, hk0]; rfl
        have HS2 := hid (HS.out.empty elInt 3 wr.heap.size rfl w.heap.size HS.out.bl.size)
        clear hk0 HE HS
        go_wp2
        go_ret2
        exact ⟨_, by rw [HE2.out]; rfl, by rw [HE2.out]; exact HS2.out.own 0 rfl, HS2.out.bl⟩
set_option maxHeartbeats 2000000 in
set_option maxRecDepth 100000 in
theorem l6Cut_any {N f t cG : Nat} {G : Option Addr} {ss : List Int} {S : Nat → Nat} (hN : ss.length = N) (hN30 : N ≤ 30) (hss : ∀ i, i < N → ss[i]? = some ((S i : Nat) : Int)) (hS20 : ∀ i, i < N → S i < 2 ^ 20) (he : endsB n fs) (hn0 : 0 < n) (hm20 : m ≤ 20) (hf : f < n) (ht : t < n)
    (w : World) (h : NetIs w A n c A' m d xs fs) (hG : Sees elInt w w.heap.size G N ss) :
    Calls Try.prog 109 #[.agg #[.slice A n c, .slice A' m d], .int .i64 f, .int .i64 t, .slice G N cG] w fun e w' => ∃ v, e = .returned v ∧ Owns elInt w' w.heap.size 3 v (cutS (cutQ fs n f t) S N) ∧ Below w.heap.size w w' := by
  obtain ⟨i0, hi, hz0, hz1, hz2⟩ := info_parts int_info
  obtain ⟨ff, hff⟩ : ∃ ff : Nat → Option (List Int), ff = fun c => chooseS (cutQ fs n f t) S N c 0 0 := ⟨_, rfl⟩
  have HR : Hid (cutS (cutQ fs n f t) S N = (firstO ff 0 N).getD (marks 0 N)) := by unfold Hid cutS; rw [hff, fromL_marks]
  have HFK : Hid (∀ k, ff k = chooseS (cutQ fs n f t) S N k 0 0) := fun k => by rw [hff]
  have hS := (Led.nil w).blk_ w.heap.size rfl 34 #[.slice A n c, .slice A' m d]
  have HN := hid h
  have HG := hid hG
  have HCH := hid (l6Choose_any (c := c) (A := A) (d := d) (A' := A') (m := m) (xs := xs) (cG := cG) (G := G) hN hN30 hss hS20 he hn0 hm20 hf ht)
  have HS : Hid (Led w (w.alloc (.cells #[.slice A n c, .slice A' m d] 34)) [tBlk w.heap.size 34 #[.slice A n c, .slice A' m d]]) := hS
  clear hff h hG hS hss hS20 hN
  go_enter Try.func109, Try.ntmps109
  go_wp2_with fail
  go_loopw [9] (fun i wr => ∃ k : Nat, k ≤ N ∧ i = .int .i64 k ∧ Hid (Led w wr [tBlk w.heap.size 34 #[.slice A n c, .slice A' m d]]) ∧ Hid (firstO ff 0 N = firstO ff k (N - k))) (fun i _ => N - (intOf i).toNat)
  case atStart => exact ⟨0, Nat.zero_le _, rfl, HS, rfl⟩
  case round =>
    clear HS
    obtain ⟨k, hk, rfl, HS, HE⟩ := hrel
    by_cases hlt : k < N
    · have q0 := HS.out.cell 0 0 rfl rfl
      have q1 := HS.out.cell 0 1 rfl rfl
      have HC := hid (HCH.out k 0 0 wr (by omega) (by omega) (by decide) (HN.out.grow HS.out.bl) ((HG.out.grow HS.out.bl).more HS.out.bl.size))
      go_wp2_with fail
      refine HC.out.mono ?_
      rintro e w2 ⟨v, rfl, ho, hb⟩
      have hL2 := HS.out.owns hb ho
      clear ho hb q0 q1 HC
      cases gx : chooseS (cutQ fs n f t) S N k 0 0 with
      | none =>
        have HE2 : Hid (firstO ff 0 N = firstO ff (k + 1) (N - (k + 1))) := by
          unfold Hid
          rw [HE.out, show N - k = (N - (k + 1)) + 1 by omega]
          exact firstO_none (by rw [HFK.out, gx])
        have HS4 := hid (hL2.drop 1)
        clear gx HE hL2 HS
        simp only [Option.isSome_none]
        go_wp2
        refine ⟨?_, by simp [intOf]; omega⟩
        first
          | exact ⟨k + 1, by omega, by go_num, HS4, HE2⟩
          | ((repeat apply Exists.intro); exact ⟨⟨k + 1, by omega, by go_num, HS4, HE2⟩, rfl⟩)
      | some R =>
        have HE2 : Hid (cutS (cutQ fs n f t) S N = R) := by
          unfold Hid
          rw [HR.out, HE.out, show N - k = (N - (k + 1)) + 1 by omega, firstO_some (by rw [HFK.out, gx])]
          rfl
        rw [gx] at hL2
        have HL2 := hid hL2
        have hwr := HS.out.bl.size
        clear gx HE hL2 HS
        simp only [Option.isSome_some]
        go_wp2
        go_ret
        exact ⟨_, rfl, by rw [HE2.out]; exact (HL2.out.own 0 rfl).base hwr, HL2.out.bl⟩
    · have hkN : N - k = 0 := by omega
      have HE2 : Hid (cutS (cutQ fs n f t) S N = marks 0 N) := by unfold Hid; rw [HR.out, HE.out, hkN]; rfl
      have hSE := HS.out.empty elInt 3 wr.heap.size rfl w.heap.size HS.out.bl.size
      have HS1 : Hid (Led w (wr.alloc (.cells #[] 3)) [tOwns elInt w.heap.size 3 (.slice (some ⟨wr.heap.size, 0, none⟩) 0 0) (marks 0 0), tBlk w.heap.size 34 #[.slice A n c, .slice A' m d]]) := hSE
      clear hkN HE HS hSE
      go_wp2_with fail
      go_loopw [12, 13] (fun V i wr => ∃ j : Nat, j ≤ N ∧ i = .int .i64 j ∧ Hid (Led w wr [tOwns elInt w.heap.size 3 (V) (marks 0 j), tBlk w.heap.size 34 #[.slice A n c, .slice A' m d]])) (fun _ i _ => N - (intOf i).toNat)
      case atStart => exact ⟨0, Nat.zero_le _, rfl, HS1⟩
      case round =>
        clear HS1
        obtain ⟨j, hj, rfl, HS⟩ := hrel
        by_cases hlt2 : j < N
        · have hml := hid (marks_len 0 j)
          obtain ⟨A1, c1, rfl, _⟩ := HS.out.form 0 rfl
          have HS2 := hid (HS.out.blk_ wr.heap.size rfl 3 #[.int .i64 j])
          have HM : Hid (marks 0 (j + 1) = marks 0 j ++ [(j : Int)]) := by unfold Hid; rw [marks_succ]; simp
          clear HS
          go_wp2_with (first
            | (at_builtin; refine wpList_append_led rfl _ _ 27 rfl HS2.out 1 rfl Try.underlying27 hi hz0 hz1 (by rw [hz2]; decide) rfl rfl rfl (show Sees elInt _ _ _ 1 [(j : Int)] from sees_new elInt _ _ _ _ rfl) (by rw [hml.out]; omega) HS2.out.bl.size ?_)
            | go_in)
          intro A2 c2 w2 hS3
          have HS3 := hid (hS3.drop 1)
          clear hS3 HS2
          go_wp2
          go_roundw
          case rel => exact ⟨j + 1, by omega, by go_num, by rw [HM.out]; exact HS3⟩
          case measure => simp [intOf]; omega
        · have hjN : j = N := by omega
          subst hjN
          clear hlt2
          go_wp2
          go_ret
          exact ⟨_, rfl, by rw [HE2.out]; exact HS.out.own 0 rfl, HS.out.bl⟩
set_option maxHeartbeats 2000000 in
set_option maxRecDepth 100000 in
theorem l6Ends_any (f t : Int) (w : World) (h : NetIs w A n c A' m d xs fs) :
    Calls Try.prog 106 #[.agg #[.slice A n c, .slice A' m d], .int .i64 f, .int .i64 t] w fun e w' => e = .returned (.bool (mcB xs fs f t)) ∧ Below w.heap.size w w' := by
  have hS := (Led.nil w).blk_ w.heap.size rfl 34 #[.slice A n c, .slice A' m d]
  have hn := h.nle
  have HK : Hid (mcB xs fs f t = (((goodB xs fs && inB 0 ((n : Int) - 1) f) && inB 0 ((n : Int) - 1) t) && !(f == t))) := by unfold Hid mcB; rw [h.xlen]
  have iw : IntKind.i64.wrap ((n : Int) - 1) = (n : Int) - 1 := IntWalk.i64_in _ (by omega)
  rw [HK.out]
  clear HK
  cases g : goodB xs fs
  · go_enter Try.func106, Try.ntmps106
    go_wp2_with fail
    refine (goodN _ (h.grow hS.bl)).mono ?_
    rintro e w1 ⟨rfl, hb⟩
    rw [g]
    go_wp2_with fail
    go_ret
    exact ⟨rfl, bl_then hS.bl hb⟩
  · cases g2 : inB 0 ((n : Int) - 1) f
    · go_enter Try.func106, Try.ntmps106
      go_wp2_with fail
      refine (goodN _ (h.grow hS.bl)).mono ?_
      rintro e w1 ⟨rfl, hb⟩
      rw [g]
      replace hS := hS.step hb
      have q0 := hS.cell 0 0 rfl rfl
      clear hb
      go_wp2_with fail
      refine (l1In_any _ _ _ _).mono ?_
      rintro e w3 ⟨rfl, rfl⟩
      rw [g2]
      go_wp2_with fail
      go_ret
      exact ⟨rfl, hS.bl⟩
    · cases g3 : inB 0 ((n : Int) - 1) t
      · go_enter Try.func106, Try.ntmps106
        go_wp2_with fail
        refine (goodN _ (h.grow hS.bl)).mono ?_
        rintro e w1 ⟨rfl, hb⟩
        rw [g]
        replace hS := hS.step hb
        have q0 := hS.cell 0 0 rfl rfl
        clear hb
        go_wp2_with fail
        refine (l1In_any _ _ _ _).mono ?_
        rintro e w3 ⟨rfl, rfl⟩
        rw [g2]
        go_wp2_with fail
        refine (l1In_any _ _ _ _).mono ?_
        rintro e w3 ⟨rfl, rfl⟩
        rw [g3]
        go_wp2_with fail
        go_ret
        exact ⟨rfl, hS.bl⟩
      · go_enter Try.func106, Try.ntmps106
        go_wp2_with fail
        refine (goodN _ (h.grow hS.bl)).mono ?_
        rintro e w1 ⟨rfl, hb⟩
        rw [g]
        replace hS := hS.step hb
        have q0 := hS.cell 0 0 rfl rfl
        clear hb
        go_wp2_with fail
        refine (l1In_any _ _ _ _).mono ?_
        rintro e w3 ⟨rfl, rfl⟩
        rw [g2]
        go_wp2_with fail
        refine (l1In_any _ _ _ _).mono ?_
        rintro e w3 ⟨rfl, rfl⟩
        rw [g3]
        go_wp2_with fail
        go_ret
        exact ⟨by cases hft : (f == t) <;> simp_all [bne], hS.bl⟩
set_option maxHeartbeats 4000000 in
set_option maxRecDepth 100000 in
theorem specMinimumCut (f t : Int) (w : World) (h : NetIs w A n c A' m d xs fs) :
    Calls Try.prog 55 #[.agg #[.slice A n c, .slice A' m d], .int .i64 f, .int .i64 t] w fun e w' => ∃ v, e = .returned (.tuple #[v, .bool (mcB xs fs f t)]) ∧ Owns elInt w' w.heap.size 3 v (mcL xs fs f t) ∧ Below w.heap.size w w' := by
  have hS := (Led.nil w).blk_ w.heap.size rfl 34 #[.slice A n c, .slice A' m d]
  cases g : mcB xs fs f t
  · have H : Hid (mcL xs fs f t = []) := by unfold Hid mcL; rw [g]; rfl
    go_enter Try.func55, Try.ntmps55
    go_wp2_with fail
    refine (l6Ends_any f t _ (h.grow hS.bl)).mono ?_
    rintro e w1 ⟨rfl, hb⟩
    rw [g]
    replace hS := hS.step hb
    clear hb
    have HS1 := hid (hS.empty elInt 3 w1.heap.size rfl w.heap.size hS.bl.size)
    clear hS
    go_wp2_with fail
    go_ret2
    exact ⟨_, rfl, by rw [H.out]; exact HS1.out.own 0 rfl, HS1.out.bl⟩
  · obtain ⟨hg, hf, ht, hne⟩ := mcB_parts g
    obtain ⟨he, hn0, hn8, hm14⟩ := good_parts h hg
    rw [h.xlen] at hf ht
    obtain ⟨f', rfl⟩ : ∃ f' : Nat, f = (f' : Int) := ⟨f.toNat, by omega⟩
    obtain ⟨t', rfl⟩ : ∃ t' : Nat, t = (t' : Int) := ⟨t.toNat, by omega⟩
    have hlf := h.flen
    have H : Hid (mcL xs fs (f' : Int) (t' : Int) = cutS (cutQ fs n f' t') (fun i => 2 ^ i) m) := by unfold Hid mcL cutL; rw [g, h.xlen, hlf]; rfl
    have HN := hid h
    have HE := hid he
    have HG := hid g
    have hS20 : ∀ i, i < m → 2 ^ i < 2 ^ 20 := fun i hi => Nat.pow_lt_pow_right (by decide) (by omega)
    clear h he hlf hg g
    go_enter Try.func55, Try.ntmps55
    go_wp2_with fail
    refine (l6Ends_any _ _ _ (HN.out.grow hS.bl)).mono ?_
    rintro e w1 ⟨rfl, hb⟩
    rw [HG.out]
    replace hS := hS.step hb
    clear hb
    have C0 : ∀ w', Cls w1 w' → w'.cell? ⟨w.heap.size, 0, none⟩ = some (.slice A n c) := fun _ h => h.cell (hS.cell 0 0 rfl rfl)
    have C1 : ∀ w', Cls w1 w' → w'.cell? ⟨w.heap.size, 1, none⟩ = some (.slice A' m d) := fun _ h => h.cell (hS.cell 0 1 rfl rfl)
    have HL := hid (fun w' (h : Cls w1 w') => hS.step h)
    have HS20 := hid hS20
    clear hS hS20
    go_wp2_with fail
    go_region_held3 (fun w' => Cls w1 w') (first | exact Cls.refl _ | exact Cls.drew _ | assumption | exact Cls.next (by assumption) (by assumption))
      (first
        | (go_at_call 133; refine (l6Singles_any _ (HN.out.grow (HL.out _ (by assumption)).bl) (by omega)).mono ?_; rintro e w2 ⟨v, rfl, ho, hb⟩; obtain ⟨A1, c1, hv1, _⟩ := ho.form; rw [singL_len] at hv1; subst hv1; have hl2 := Led.owns (HL.out _ (by assumption)) hb ho; have hcl2 : Cls w1 _ := Cls.next hb (by assumption))
        | (go_at_call 109; have hcl3 := ‹Cls w1 _›; refine (l6Cut_any (S := fun i => 2 ^ i) (singL_len m) (by omega) (fun i hi => singL_get hi) HS20.out HE.out hn0 (by omega) (by omega) (by omega) _ (HN.out.grow (HL.out _ hcl3).bl) (hl2.sees 0 rfl (singL_len m).symm)).mono ?_; rintro e w3 ⟨v3, rfl, ho3, hb3⟩; obtain ⟨A3, c3, hv3, _⟩ := ho3.form; subst hv3; have hl3 := hl2.owns hb3 ho3))
    have HZ := hid hl3
    have hw2 := hl2.bl.size
    clear hl2 hl3 ho3 hb3 ho hb hcl2 hcl3 HL C0 C1
    go_wp2
    go_ret2
    exact ⟨_, rfl, by rw [H.out]; exact (HZ.out.own 0 rfl).base hw2, HZ.out.bl⟩
end
end Go.Proofs.Ytgoegldffjfmdaa
/- GroupCut of the reference, walked. Conditions: none. -/
namespace Go.Proofs.Ytgoegldffjfmdaa
open Go.RowKit
/-- The sets of the first k groups, as numbers. -/
def setsL (fs : List Fib) (k : Nat) : List Int := (List.range k).map fun (j : Nat) => ((setG fs j : Nat) : Int)
theorem setsL_len (fs : List Fib) (k : Nat) : (setsL fs k).length = k := by simp [setsL]
theorem setsL_succ (fs : List Fib) (k : Nat) : setsL fs (k + 1) = setsL fs k ++ [((setG fs k : Nat) : Int)] := by simp [setsL, List.range_succ]
theorem setsL_get {fs : List Fib} {k j : Nat} (h : j < k) : (setsL fs k)[j]? = some ((setG fs j : Nat) : Int) := by simp [setsL, h]
section
variable {n c m d : Nat} {A A' : Option Addr} {xs : List ByteArray} {fs : List Fib}
set_option maxHeartbeats 4000000 in
set_option maxRecDepth 100000 in
theorem specGroupCut (f t : Int) (w : World) (h : NetIs w A n c A' m d xs fs) :
    Calls Try.prog 34 #[.agg #[.slice A n c, .slice A' m d], .int .i64 f, .int .i64 t] w fun e w' => ∃ v, e = .returned (.tuple #[v, .bool (mcB xs fs f t)]) ∧ Owns elInt w' w.heap.size 3 v (gcL xs fs f t) ∧ Below w.heap.size w w' := by
  obtain ⟨i0, hi, hz0, hz1, hz2⟩ := info_parts int_info
  have hS := (Led.nil w).blk_ w.heap.size rfl 34 #[.slice A n c, .slice A' m d]
  cases g : mcB xs fs f t
  · have H : Hid (gcL xs fs f t = []) := by unfold Hid gcL; rw [g]; rfl
    go_enter Try.func34, Try.ntmps34
    go_wp2_with fail
    refine (l6Ends_any f t _ (h.grow hS.bl)).mono ?_
    rintro e w1 ⟨rfl, hb⟩
    rw [g]
    replace hS := hS.step hb
    clear hb
    have HS1 := hid (hS.empty elInt 3 w1.heap.size rfl w.heap.size hS.bl.size)
    clear hS
    go_wp2_with fail
    go_ret2
    exact ⟨_, rfl, by rw [H.out]; exact HS1.out.own 0 rfl, HS1.out.bl⟩
  · obtain ⟨hg, hf, ht, hne⟩ := mcB_parts g
    obtain ⟨he, hn0, hn8, hm14⟩ := good_parts h hg
    rw [h.xlen] at hf ht
    obtain ⟨f', rfl⟩ : ∃ f' : Nat, f = (f' : Int) := ⟨f.toNat, by omega⟩
    obtain ⟨t', rfl⟩ : ∃ t' : Nat, t = (t' : Int) := ⟨t.toNat, by omega⟩
    have hlf := h.flen
    have hgl := groups_len fs
    have H : Hid (gcL xs fs (f' : Int) (t' : Int) = cutS (cutQ fs n f' t') (setG fs) (groupsL fs).length) := by unfold Hid gcL gcS; rw [g, h.xlen]; rfl
    have HN := hid h
    have HE := hid he
    have HG := hid g
    have HS20 : Hid (∀ i, i < (groupsL fs).length → setG fs i < 2 ^ 20) := fun i _ => setG_lt (by omega) i
    have HLF := hid hlf
    have HGL := hid hgl
    clear h he hlf hg g
    go_enter Try.func34, Try.ntmps34
    go_wp2_with fail
    refine (l6Ends_any _ _ _ (HN.out.grow hS.bl)).mono ?_
    rintro e w1 ⟨rfl, hb⟩
    rw [HG.out]
    replace hS := hS.step hb
    have q0 := hS.cell 0 0 rfl rfl
    have q1 := hS.cell 0 1 rfl rfl
    clear hb
    go_wp2_with fail
    refine (l2Groups_any _ (HN.out.grow hS.bl)).mono ?_
    rintro e w2 ⟨⟨A2, n2, c2⟩, ss, rfl, hss, hb2⟩
    dsimp only [slV] at hss ⊢
    obtain rfl := ss_n hss
    replace hS := hS.ss hb2 hss
    replace hS := hS.empty elInt 3 w2.heap.size rfl w.heap.size hS.bl.size
    obtain ⟨G, hG⟩ : ∃ G, G = groupsL fs := ⟨_, rfl⟩
    have HGG := hid hG
    rw [← hG] at hS hgl H HS20
    have HS : Hid (Led w (w2.alloc (.cells #[] 3)) [tOwns elInt w.heap.size 3 (.slice (some ⟨w2.heap.size, 0, none⟩) 0 0) (setsL fs 0), tSS w1.heap.size (.slice A2 G.length c2) ss G, tBlk w.heap.size 34 #[.slice A n c, .slice A' m d]]) := hS
    rw [← hG]
    have hG30 : G.length ≤ 30 := by have := HLF.out; omega
    clear hS hb2 hss q0 q1 hG
    go_wp2_with fail
    go_loopw [9, 10] (fun V i wr => ∃ j : Nat, j ≤ G.length ∧ i = .int .i64 j ∧ Hid (Led w wr [tOwns elInt w.heap.size 3 V (setsL fs j), tSS w1.heap.size (.slice A2 G.length c2) ss G, tBlk w.heap.size 34 #[.slice A n c, .slice A' m d]])) (fun _ i _ => G.length - (intOf i).toNat)
    case atStart => exact ⟨0, Nat.zero_le _, rfl, HS⟩
    case round =>
      clear HS
      obtain ⟨j, hj, rfl, HS⟩ := hrel
      obtain ⟨A1, c1, rfl, _⟩ := HS.out.form 0 rfl
      have hml := hid (setsL_len fs j)
      by_cases hlt : j < G.length
      · obtain ⟨r, hr⟩ := get_of (k := j) (l := G) rfl hlt
        have hOO : OwnsSS wr w1.heap.size (.slice A2 G.length c2) ss G := HS.out.get 1 rfl
        obtain ⟨ga, s, rfl, _, hsk, hq, hor⟩ := hOO.at_ hr
        obtain ⟨A3, c3, hv, _⟩ := hor.form
        injection hv with v1 v2 v3
        rw [v2] at hq hor
        have hsr := hor.sees
        have HSR := hid hsr
        have hrg : r ∈ groupsL fs := by rw [← HGG.out]; exact List.mem_of_getElem? hr
        have hrl := groups_row hrg
        have HRB : Hid (∀ x ∈ r, 0 ≤ x ∧ x < 20) := fun x hx => by
          have := groupsL_range hrg x hx
          have := HLF.out
          omega
        have HM : Hid (((maskN r : Nat) : Int) = ((setG fs j : Nat) : Int)) := by
          unfold Hid setG
          rw [List.getD_eq_getElem?_getD, ← HGG.out, hr]; rfl
        have hlf2 := HLF.out
        have hrl2 : r.length ≤ 1048576 := by omega
        have HMM := hid (setsL_succ fs j)
        clear hr hOO hsk hor v1 v2 v3 hsr hrg hlf2
        go_wp2_with fail
        refine (mask_any _ HSR.out HRB.out hrl2).mono ?_
        rintro e w5 ⟨rfl, hw5⟩
        subst hw5
        rw [HM.out]
        have HS2 := hid (HS.out.blk_ wr.heap.size rfl 3 #[.int .i64 ((setG fs j : Nat) : Int)])
        clear HS hq
        go_wp2_with (first
          | (at_builtin; refine wpList_append_led rfl _ _ 27 rfl HS2.out 1 rfl Try.underlying27 hi hz0 hz1 (by rw [hz2]; decide) rfl rfl rfl (show Sees elInt _ _ _ 1 [((setG fs j : Nat) : Int)] from sees_new elInt _ _ _ _ rfl) (by rw [hml.out]; omega) HS2.out.bl.size ?_)
          | go_in)
        intro A6 c6 w6 h6
        have HS5 := hid (h6.drop 1)
        clear h6 HS2
        go_wp2
        go_roundw
        case rel => exact ⟨j + 1, by omega, by go_num, by rw [HMM.out]; exact HS5⟩
        case measure => simp [intOf]; omega
      · have hjk : j = G.length := by omega
        have HJ := hid hjk
        have q0 := HS.out.cell 2 0 rfl rfl
        have q1 := HS.out.cell 2 1 rfl rfl
        have HSE := hid (HS.out.sees 0 rfl rfl)
        have HBL := hid HS.out.bl
        have hj30 : j ≤ 30 := by omega
        have HLL : Hid ((setsL fs j).length = (groupsL fs).length) := by unfold Hid; rw [hml.out, hjk, HGG.out]
        have HCT := hid (l6Cut_any (c := c) (A := A) (d := d) (A' := A') (m := m) (xs := xs) (cG := c1) (N := (setsL fs j).length) (S := setG fs) rfl (by rw [hml.out]; exact hj30) (fun i hi => setsL_get (by rw [hml.out] at hi; exact hi)) (fun i hi => HS20.out i (by rw [hml.out] at hi; omega)) HE.out hn0 (by omega) (f := f') (t := t') (by omega) (by omega) wr (HN.out.grow HS.out.bl) HSE.out)
        clear hjk HSE
        go_wp2_with fail
        refine HCT.out.mono ?_
        rintro e w5 ⟨v, rfl, ho, hb⟩
        have HO := hid (ho.base (base' := w.heap.size) HBL.out.size)
        have HZ := hid (bl_then HBL.out hb)
        clear ho hb q0 q1 HS
        go_wp2_with fail
        go_ret2
        exact ⟨_, rfl, by have := HO.out; rw [HLL.out, ← HGG.out] at this; rw [H.out]; exact this, HZ.out⟩
end
theorem gcL_len {xs : List ByteArray} {fs : List Fib} {f t : Int} : (gcL xs fs f t).length ≤ 40 := by
  unfold gcL
  cases g : mcB xs fs f t
  · simp
  · obtain ⟨hg, hf, ht, hne⟩ := mcB_parts g
    have h1 := gcS_len hg (f := f.toNat) (t := t.toNat) (n := xs.length) (by omega) (by omega) (by omega)
    have h2 := groups_len fs
    have h3 := (goodB_bd hg).2.2
    rw [if_pos rfl]
    omega
end Go.Proofs.Ytgoegldffjfmdaa
/- szStringS, walked: it takes the lengths off a number, -1 if that is too small. Conditions: the number lies in 0 .. 1048576. -/
namespace Go.Proofs.Ytgoegldffjfmdaa
open Go.RowKit
def lessI (left : Int) (t : Nat) : Int := if (t : Int) ≤ left then left - t else -1
def sumTo (xs : List ByteArray) (k : Nat) : Nat := ((xs.take k).map ByteArray.size).sum
def strTot (xs : List ByteArray) : Nat := xs.length + sumTo xs xs.length
theorem sumTo_succ {xs : List ByteArray} {k : Nat} {x : ByteArray} (h : xs[k]? = some x) : sumTo xs (k + 1) = sumTo xs k + x.size := by
  unfold sumTo
  obtain ⟨hk, hx⟩ := List.getElem?_eq_some_iff.1 h
  rw [List.take_succ_eq_append_getElem hk, hx, List.map_append, List.sum_append]; simp
theorem sumTo_mono {xs : List ByteArray} {j k : Nat} (h : j ≤ k) : sumTo xs j ≤ sumTo xs k := by
  unfold sumTo
  obtain ⟨d, rfl⟩ := Nat.exists_eq_add_of_le h
  rw [List.take_add, List.map_append, List.sum_append]; omega
theorem size_le_tot {xs : List ByteArray} {x : ByteArray} (h : x ∈ xs) : x.size ≤ strTot xs := by
  obtain ⟨k, hk, e⟩ := List.mem_iff_getElem.1 h
  have h1 := sumTo_succ (xs := xs) (k := k) (x := x) (by rw [List.getElem?_eq_getElem hk, e])
  have h2 := sumTo_mono (xs := xs) (j := k + 1) (k := xs.length) hk
  unfold strTot; omega
theorem lessI_neg {left : Int} {t : Nat} (h : left < t) : lessI left t = -1 := by unfold lessI; rw [if_neg (by omega)]
theorem lessI_pos {left : Int} {t : Nat} (h : (t : Int) ≤ left) : lessI left t = left - t := by unfold lessI; rw [if_pos h]
set_option maxRecDepth 100000 in
theorem szStringS_any {B n c : Nat} {A : Option Addr} {xs : List ByteArray} (left : Int) (w : World) (hA : Sees elStr w B A n xs) (hn : n ≤ maxLen) (hx : ∀ x ∈ xs, x.size ≤ maxLen) (h0 : 0 ≤ left) (hl : left ≤ 1048576) :
    Calls Try.prog 78 #[.slice A n c, .int .i64 left] w fun e w' => e = .returned (.int .i64 (lessI left (strTot xs))) ∧ w = w' := by
  have hlen := hA.len
  unfold maxLen at hn hx
  by_cases hs : (n : Int) ≤ left
  · have HL := hid hlen
    clear hlen
    have e0 : decide (left - (n : Int) < 0) = false := by simp; omega
    go_enter Try.func78, Try.ntmps78
    go_wp2
    clear e0
    go_loop [1, 5] (fun l i => ∃ (k : Nat) (r : Int), k ≤ n ∧ i = .int .i64 k ∧ l = .int .i64 r ∧ 0 ≤ r ∧ r ≤ 1048576 ∧ Hid (r = left - n - sumTo xs k)) (fun _ i => n - (intOf i).toNat)
    case atStart => exact ⟨0, left - n, Nat.zero_le _, rfl, rfl, by omega, by omega, by unfold Hid sumTo; simp⟩
    case round =>
      obtain ⟨k, r, hk, rfl, rfl, hr0, hr1, hr⟩ := hrel
      by_cases hlt : k < n
      · obtain ⟨b, o, rfl, _, hc⟩ := hA.at_ hlt
        obtain ⟨x, hxk⟩ : ∃ x, xs[k]? = some x := ⟨xs[k]'(by rw [HL.out]; exact hlt), List.getElem?_eq_getElem _⟩
        have hcx := hc k x hxk 0 _ rfl
        simp only [elStr, Nat.mul_one, Nat.add_zero] at hcx
        have hxs : x.size ≤ 2 ^ 63 - 1 := hx x (List.mem_of_getElem? hxk)
        have hsucc := sumTo_succ hxk
        have hmono := sumTo_mono (xs := xs) (j := k + 1) (k := n) hlt
        clear hc hxk
        by_cases hneg : r - (x.size : Int) < 0
        · have HN : Hid (lessI left (strTot xs) = -1) := lessI_neg (by have := hr.out; have := HL.out; unfold strTot; rw [this]; omega)
          clear hsucc hmono
          go_wp2
          go_ret
          exact ⟨by rw [HN.out]; rfl, rfl⟩
        · have HR : Hid (r - (x.size : Int) = left - n - sumTo xs (k + 1)) := by have := hr.out; unfold Hid; omega
          clear hsucc hmono hr
          go_wp2
          go_round
          case rel => exact ⟨k + 1, _, by omega, by go_num, rfl, by omega, by omega, HR⟩
          case measure => simp [intOf]; omega
      · have HR : Hid (lessI left (strTot xs) = r) := by
          obtain rfl : k = n := by omega
          have h1 := hr.out; have h2 := HL.out
          refine hid ?_
          rw [lessI_pos (by unfold strTot; rw [h2]; omega)]; unfold strTot; rw [h2]; omega
        clear hr
        go_wp2
        go_ret
        exact ⟨by rw [HR.out]; rfl, rfl⟩
  · have HN : Hid (lessI left (strTot xs) = -1) := lessI_neg (by unfold strTot; omega)
    clear hlen
    go_enter Try.func78, Try.ntmps78
    go_wp2
    go_ret
    exact ⟨by rw [HN.out]; rfl, rfl⟩
end Go.Proofs.Ytgoegldffjfmdaa
/- szFiberS and szNetwork, walked. Conditions: the number lies in 0 .. 1048576. -/
namespace Go.Proofs.Ytgoegldffjfmdaa
open Go.RowKit
set_option maxRecDepth 100000 in
theorem szFiberS_any {n c : Nat} {A : Option Addr} (left : Int) (w : World) (hn : n ≤ maxLen) (h0 : 0 ≤ left) (hl : left ≤ 1048576) :
    Calls Try.prog 79 #[.slice A n c, .int .i64 left] w fun e w' => e = .returned (.int .i64 (lessI left n)) ∧ w = w' := by
  unfold maxLen at hn
  by_cases hs : (n : Int) ≤ left
  · have HN := hid (lessI_pos hs)
    go_enter Try.func79, Try.ntmps79
    go_wp2
    go_ret
    exact ⟨by rw [HN.out]; rfl, rfl⟩
  · have HN := hid (lessI_neg (left := left) (t := n) (by omega))
    go_enter Try.func79, Try.ntmps79
    go_wp2
    go_ret
    exact ⟨by rw [HN.out]; rfl, rfl⟩
theorem lessI_bd {left : Int} {t : Nat} : (lessI left t = -1 ∧ left < t) ∨ (0 ≤ lessI left t ∧ lessI left t ≤ left ∧ (t : Int) ≤ left) := by
  unfold lessI; split <;> omega
theorem lessI_lessI {left : Int} {s t : Nat} : lessI left (s + t) = if lessI left s < 0 then -1 else lessI (lessI left s) t := by
  unfold lessI; split <;> split <;> (try split) <;> omega
/-- What a network holds: names, letters, fibers. -/
def netTot {α : Type} (xs : List ByteArray) (fs : List α) : Nat := strTot xs + fs.length
set_option maxHeartbeats 1000000 in
set_option maxRecDepth 100000 in
theorem szNetwork_any {B n c m d : Nat} {A A' : Option Addr} {xs : List ByteArray} {fs : List Fib} (left : Int) (w : World) (hA : Sees elStr w B A n xs) (hF : Sees elFib w B A' m fs) (hB : B ≤ w.heap.size) (hn : n ≤ maxLen) (hm : m ≤ maxLen)
    (hx : ∀ x ∈ xs, x.size ≤ maxLen) (h0 : 0 ≤ left) (hl : left ≤ 1048576) :
    Calls Try.prog 13 #[.agg #[.slice A n c, .slice A' m d], .int .i64 left] w fun e w' => e = .returned (.int .i64 (lessI left (netTot xs fs))) ∧ Below w.heap.size w w' := by
  have hA' : Sees elStr (w.alloc (.cells #[.slice A n c, .slice A' m d] 25)) B A n xs := hA.below ((bl_alloc (Below.refl _ _) _).mono hB)
  have hll := lessI_lessI (left := left) (s := strTot xs) (t := fs.length)
  rw [hF.len] at hll
  unfold netTot
  rw [hF.len]
  rcases lessI_bd (left := left) (t := strTot xs) with ⟨h1, _⟩ | ⟨h1, h2, _⟩
  · have HN : Hid (lessI left (strTot xs + m) = -1) := by rw [hll, if_pos (by omega)]; rfl
    have HS := hid h1
    clear hll h1
    go_enter Try.func13, Try.ntmps13
    go_wp2_with fail
    refine (szStringS_any left _ hA' hn hx h0 hl).mono ?_
    rintro e w' ⟨rfl, rfl⟩
    rw [HS.out]
    go_wp2_with fail
    go_ret
    exact ⟨by rw [HN.out]; rfl, bl_alloc (Below.refl _ _) _⟩
  · have HN : Hid (lessI left (strTot xs + m) = lessI (lessI left (strTot xs)) m) := by rw [hll, if_neg (by omega)]; rfl
    clear hll
    go_enter Try.func13, Try.ntmps13
    go_wp2_with fail
    refine (szStringS_any left _ hA' hn hx h0 hl).mono ?_
    rintro e w' ⟨rfl, rfl⟩
    generalize lessI left (strTot xs) = r at *
    rcases lessI_bd (left := r) (t := m) with ⟨h3, _⟩ | ⟨h3, h4, _⟩
    · have HS := hid h3
      clear h3
      go_wp2_with fail
      refine (szFiberS_any r _ hm h1 (by omega)).mono ?_
      rintro e w' ⟨rfl, rfl⟩
      rw [HS.out]
      go_wp2_with fail
      go_ret
      exact ⟨by rw [HN.out, HS.out]; rfl, bl_alloc (Below.refl _ _) _⟩
    · go_wp2_with fail
      refine (szFiberS_any r _ hm h1 (by omega)).mono ?_
      rintro e w' ⟨rfl, rfl⟩
      go_wp2_with fail
      go_ret
      exact ⟨by rw [HN.out]; rfl, bl_alloc (Below.refl _ _) _⟩
end Go.Proofs.Ytgoegldffjfmdaa
/- How an argument that can be read is opened: strings, slices, networks, routes. Conditions: none. -/
namespace Go.Proofs.Ytgoegldffjfmdaa
open Go.ChangeShapes Go.WideShapes Go.ChangeAt Go.RowKit Go.Deep
theorem i64_bd {n : Int} (h : (Lit.int .i64 n).wf = true) : -9223372036854775808 ≤ n ∧ n ≤ 9223372036854775807 := by
  simp [Lit.wf, IntKind.min, IntKind.max, IntKind.signed, IntKind.bits] at h; omega
section
variable {H : Type} {enc : TypeId × Value → H} {P : Program} {W : World} {spare : Nat → Bool} {held : Bool}
/-- A slice whose elements' cells are known. -/
theorem open_sl {α : Type} (E : El α) {t e : TypeId} {fuel : Nat} {cs : List Value} {x : DataW H × List MemPlace} (good : α → Prop) (ht : P.underlying t = some (.slice e)) (hsz : P.cellsOf e = E.sz)
    (hel : ∀ fuel cs y, DataW.trod enc P W 0 spare held fuel e cs = some y → ∃ a, cs = E.cells a ∧ good a)
    (h : DataW.trod enc P W 0 spare held fuel t cs = some x) :
    ∃ A n c xs, cs = [.slice A n c] ∧ n ≤ c ∧ c ≤ maxLen ∧ Sees E W W.heap.size A n xs ∧ ∀ a ∈ xs, good a := by
  rcases open_slice ht h with ⟨h0, _⟩ | ⟨a, len, cap, m, k, D, Pl, hcs, _, hl, hm, hmm, _, hi⟩
  · exact ⟨none, 0, 0, [], h0, Nat.le_refl _, Nat.zero_le _, Sees.nil _ _ _ _, fun _ h => by cases h⟩
  · have hlm : len ≤ m := by rw [hmm]; split <;> omega
    have key : ∀ i : Nat, i < len → ∃ y : α, good y ∧ ∀ j u, (E.cells y)[j]? = some u → W.cell? (a.add (i * E.sz + j)) = some u := by
      intro i hlt
      obtain ⟨cs', hc, htr⟩ := hi i (by omega)
      obtain ⟨y, rfl, hg⟩ := hel _ _ _ htr
      obtain ⟨_, hlen, hat⟩ := World.cells?_some hc
      refine ⟨y, hg, fun j u hu => ?_⟩
      have hj : j < P.cellsOf e := by rw [hsz, ← E.len y]; exact (List.getElem?_eq_some_iff.1 hu).1
      have := hat j hj
      rw [add_add, hsz] at this
      rw [this, hu]
    rcases Nat.eq_zero_or_pos len with h0 | h0
    · subst h0
      exact ⟨some a, 0, cap, [], hcs, hl, hm, Sees.nil _ _ _ _, fun _ h => by cases h⟩
    · have hspot : a.spot = none := by
        obtain ⟨y, _, hy⟩ := key 0 h0
        have hpos := E.pos
        have hlen := E.len y
        have h1 := hy 0 ((E.cells y)[0]'(by omega)) (List.getElem?_eq_getElem (by omega))
        simp only [Nat.zero_mul, Nat.zero_add] at h1
        rw [show a.add 0 = a by simp [Addr.add]] at h1
        unfold World.cell? at h1
        split at h1
        · split at h1
          · cases h1
          · rename_i hs; simpa using hs
        · cases h1
      obtain ⟨y0, _, _⟩ := key 0 h0
      have : Inhabited α := ⟨y0⟩
      obtain ⟨f, hf⟩ := choose_lt key
      refine ⟨some a, len, cap, (List.range len).map f, hcs, hl, hm, ⟨by simp, .inr ⟨a.block, a.off, by cases a; simp_all, ?_, ?_⟩⟩, ?_⟩
      · obtain ⟨_, hy⟩ := hf 0 h0
        have hpos := E.pos
        have hlen := E.len (f 0)
        have h1 := hy 0 ((E.cells (f 0))[0]'(by omega)) (List.getElem?_eq_getElem (by omega))
        have := World.block_lt_of_cell? W _ h1
        simp only [Addr.add] at this
        split at this <;> simpa using this
      · intro k x hx j u hu
        have hk : k < len := by have := (List.getElem?_eq_some_iff.1 hx).1; simpa using this
        have hx' : f k = x := by simpa [List.getElem?_map, List.getElem?_range, hk] using hx
        have := (hf k hk).2 j u (by rw [hx']; exact hu)
        rw [← this]
        unfold Addr.add
        split
        · rename_i h00; rw [Nat.add_assoc, h00, Nat.add_zero]; cases a; simp_all
        · rw [Nat.add_assoc]
      · intro x hx
        obtain ⟨i, hi, rfl⟩ := List.mem_map.1 hx
        exact (hf i (by simpa using hi)).1
/-- A slice that came in. -/
def SlArg {α : Type} (E : El α) (W : World) (A : Option Addr) (n c : Nat) (xs : List α) (good : α → Prop) : Prop := n ≤ c ∧ c ≤ maxLen ∧ Sees E W W.heap.size A n xs ∧ ∀ a ∈ xs, good a
theorem open_sl_val {α : Type} (E : El α) {t e : TypeId} {base : Nat} {v : Value} {d : DataW H} {p : List MemPlace} (good : α → Prop) (ht : P.underlying t = some (.slice e)) (hsz : P.cellsOf e = E.sz)
    (hel : ∀ fuel cs y, DataW.trod enc P W 0 spare held fuel e cs = some y → ∃ a, cs = E.cells a ∧ good a)
    (hv : Value.okWide P W .any base t v) (h : DataW.Trod enc P W 0 spare held t v d p) : ∃ A n c xs, v = .slice A n c ∧ SlArg E W A n c xs good := by
  obtain ⟨a, len, cap, rfl⟩ := okWide_slice ht hv
  obtain ⟨fuel, h⟩ := h
  obtain ⟨A, n, c, xs, e, h1, h2, h3, h4⟩ := open_sl E good ht hsz hel h
  exact ⟨A, n, c, xs, by simpa [Value.cells] using e, h1, h2, h3, h4⟩
theorem el_int {e : TypeId} (he : P.underlying e = some (.int .i64)) (fuel : Nat) (cs : List Value) (y : DataW H × List MemPlace) (h : DataW.trod enc P W 0 spare held fuel e cs = some y) :
    ∃ a, cs = elInt.cells a ∧ (-9223372036854775808 ≤ a ∧ a ≤ 9223372036854775807) := by
  obtain ⟨n, rfl, _, hw⟩ := DataW.trod_int he h
  exact ⟨n, rfl, i64_bd hw⟩
theorem el_str {e : TypeId} (he : P.underlying e = some .string) (fuel : Nat) (cs : List Value) (y : DataW H × List MemPlace) (h : DataW.trod enc P W 0 spare held fuel e cs = some y) :
    ∃ a, cs = elStr.cells a ∧ a.size ≤ maxLen := by
  obtain ⟨n, rfl, _, hw⟩ := DataW.trod_string he h
  exact ⟨n, rfl, hw⟩
end
end Go.Proofs.Ytgoegldffjfmdaa
/- How a network that can be read is opened. Conditions: none. -/
namespace Go.Proofs.Ytgoegldffjfmdaa
open Go.ChangeShapes Go.WideShapes Go.ChangeAt Go.RowKit Go.Deep Go.Joins
theorem cellsN : Try.prog.cellsOf 25 = 2 := by kernel_rfl
theorem cellsF : Try.prog.cellsOf 160 = 4 := by kernel_rfl
theorem cellsS : Try.prog.cellsOf 9 = 1 := by kernel_rfl
theorem cellsI : Try.prog.cellsOf 3 = 1 := by kernel_rfl
section
variable {H : Type} {enc : TypeId × Value → H} {W : World} {spare : Nat → Bool} {held : Bool}
set_option maxRecDepth 100000 in
theorem el_fib (fuel : Nat) (cs : List Value) (y : DataW H × List MemPlace) (h : DataW.trod enc Try.prog W 0 spare held fuel 160 cs = some y) : ∃ a, cs = elFib.cells a ∧ True := by
  obtain ⟨ys, n, _, _, hl, hyl, hf⟩ := DataW.trod_struct Try.underlying160 h
  rw [cellsF] at hl
  have hi : ∀ k, k < 4 → ∃ m : Int, (cs.drop k).take 1 = [.int .i64 m] := by
    intro k hk
    have hy : k < ys.length := by rw [hyl]; exact hk
    match k, hk with
    | 0, _ => have := hf 0 _ rfl; rw [List.getElem?_eq_getElem hy] at this; obtain ⟨m, hm, _⟩ := DataW.trod_int Try.underlying3 this; exact ⟨m, by simpa [cellsI] using hm⟩
    | 1, _ => have := hf 1 _ rfl; rw [List.getElem?_eq_getElem hy] at this; obtain ⟨m, hm, _⟩ := DataW.trod_int Try.underlying3 this; exact ⟨m, by simpa [cellsI] using hm⟩
    | 2, _ => have := hf 2 _ rfl; rw [List.getElem?_eq_getElem hy] at this; obtain ⟨m, hm, _⟩ := DataW.trod_int Try.underlying3 this; exact ⟨m, by simpa [cellsI] using hm⟩
    | 3, _ => have := hf 3 _ rfl; rw [List.getElem?_eq_getElem hy] at this; obtain ⟨m, hm, _⟩ := DataW.trod_int Try.underlying3 this; exact ⟨m, by simpa [cellsI] using hm⟩
  match cs, hl with
  | [v0, v1, v2, v3], _ =>
    obtain ⟨m0, h0⟩ := hi 0 (by omega)
    obtain ⟨m1, h1⟩ := hi 1 (by omega)
    obtain ⟨m2, h2⟩ := hi 2 (by omega)
    obtain ⟨m3, h3⟩ := hi 3 (by omega)
    simp at h0 h1 h2 h3
    exact ⟨⟨m0, m1, m2, m3⟩, by simp [elFib, h0, h1, h2, h3], trivial⟩
/-- A network that came in. -/
def NetArg (W : World) (A : Option Addr) (n c : Nat) (A' : Option Addr) (m d : Nat) (xs : List ByteArray) (fs : List Fib) : Prop :=
  SlArg elStr W A n c xs (fun s => s.size ≤ maxLen) ∧ SlArg elFib W A' m d fs (fun _ => True)
set_option maxRecDepth 100000 in
theorem open_net {base : Nat} {v : Value} {d : DataW H} {p : List MemPlace} (hv : Value.okWide Try.prog W .any base 25 v) (h : DataW.Trod enc Try.prog W 0 spare held 25 v d p) :
    ∃ A n c A' m d xs fs, v = .agg #[.slice A n c, .slice A' m d] ∧ NetArg W A n c A' m d xs fs := by
  obtain ⟨v0, v1, y0, y1, k, rfl, _, _, h0, h1⟩ := open_agg2 Try.underlying25 (by kernel_rfl) cellsN hv h
  obtain ⟨A, n, c, xs, e0, a1, a2, a3, a4⟩ := open_sl elStr (fun s => s.size ≤ maxLen) Try.underlying22 cellsS (el_str Try.underlying9) h0
  obtain ⟨A', m, d, fs, e1, b1, b2, b3, b4⟩ := open_sl elFib (fun _ => True) Try.underlying23 cellsF el_fib h1
  simp at e0 e1
  exact ⟨A, n, c, A', m, d, xs, fs, by rw [e0, e1], ⟨a1, a2, a3, a4⟩, ⟨b1, b2, b3, b4⟩⟩
end
end Go.Proofs.Ytgoegldffjfmdaa
/- FnExactGroupCut, walked. Conditions: none. -/
namespace Go.Proofs.Ytgoegldffjfmdaa.fnExactGroupCut
open Go.RowKit
set_option maxHeartbeats 2000000 in
set_option maxRecDepth 100000 in
theorem walk (w : World) {A0 E0 : Option Addr} {n0 c0 m0 d0 : Nat} {xs0 : List ByteArray} {fs0 : List Fib} (h0 : NetArg w A0 n0 c0 E0 m0 d0 xs0 fs0) {a1 : Int} (_u1 : -9223372036854775808 ≤ a1 ∧ a1 ≤ 9223372036854775807) {a2 : Int} (_u2 : -9223372036854775808 ≤ a2 ∧ a2 ≤ 9223372036854775807) :
    Calls Try.prog 6 #[.agg #[.slice A0 n0 c0, .slice E0 m0 d0], .int .i64 a1, .int .i64 a2] w fun e w' => e = .returned (.bool true) ∧ Below w.heap.size w w' := by
  obtain ⟨⟨h0nc, h0cm, h0A, h0x⟩, ⟨h0md, h0dm, h0F, _⟩⟩ := h0
  have hS := Led.nil w
  replace hS := hS.blk_ (w.heap.size) (by simp) 25 #[.slice A0 n0 c0, .slice E0 m0 d0]
  obtain ⟨r0, hr0⟩ : ∃ r, r = lessI 1048576 (netTot xs0 fs0) := ⟨_, rfl⟩
  have hlb0 := lessI_bd (left := 1048576) (t := (netTot xs0 fs0))
  rw [← hr0] at hlb0
  have HR0 := hid hr0
  clear hr0
  rcases hlb0 with ⟨hz0, _⟩ | ⟨hz0, hy0, hx0⟩
  case inl =>
    subst hz0
    go_enter Try.func6, Try.ntmps6
    go_wp2_with fail
    refine (szNetwork_any 1048576 _ (h0A.below hS.bl) (h0F.below hS.bl) hS.bl.size (by omega) (by omega) h0x (by omega) (by omega)).mono ?_
    rintro e W1 ⟨rfl, hb⟩; replace hS := hS.step hb; clear hb
    rw [← HR0.out]
    go_wp2_with fail
    go_ret
    exact ⟨rfl, hS.bl⟩
  have h0n : n0 ≤ 1048576 := by have := h0A.len; unfold netTot strTot at hx0; omega
  have h0m : m0 ≤ 1048576 := by have := h0F.len; unfold netTot strTot at hx0; omega
  have h0I := hid (show NetIs w A0 n0 c0 E0 m0 d0 xs0 fs0 from ⟨⟨h0nc, h0n⟩, ⟨h0md, h0m⟩, h0A, h0F, h0x⟩)
  clear hx0
  go_enter Try.func6, Try.ntmps6
  go_wp2_with fail
  refine (szNetwork_any 1048576 _ (h0A.below hS.bl) (h0F.below hS.bl) hS.bl.size (by omega) (by omega) h0x (by omega) (by omega)).mono ?_
  rintro e W1 ⟨rfl, hb⟩; replace hS := hS.step hb; clear hb
  rw [← HR0.out]
  -- the reference
  have q0 := hS.cell 0 0 rfl rfl
  have q1 := hS.cell 0 1 rfl rfl
  go_wp2_with fail
  refine (toNetwork_own _ (h0I.out.grow hS.bl).strs (h0I.out.grow hS.bl).fibs (Nat.le_refl _) h0n h0m).mono ?_
  rintro e W2 ⟨Aw0, cw0, Ew0, dw0, rfl, ho, hb⟩
  replace hS := hS.net hb ho
  clear hb ho
  clear q0 q1
  go_wp2_with fail
  refine (specGroupCut a1 a2 _ (hS.netIs 0 rfl h0n h0m h0x)).mono ?_
  rintro e W3 ⟨vw0, rfl, ho0, hb⟩
  have hlen0 := hid ((Nat.le_trans gcL_len (by decide) : (gcL xs0 fs0 a1 a2).length ≤ 1048576))
  generalize hL0 : gcL xs0 fs0 a1 a2 = L0 at *
  obtain ⟨Aw0, cw0, rfl, _, _, _⟩ := ho0.form
  replace hS := hS.owns hb ho0
  clear hb ho0
  -- the program on copies that are kept
  have q0 := hS.cell 2 0 rfl rfl
  have q1 := hS.cell 2 1 rfl rfl
  go_wp2_with fail
  refine (toNetwork_own _ (h0I.out.grow hS.bl).strs (h0I.out.grow hS.bl).fibs (Nat.le_refl _) h0n h0m).mono ?_
  rintro e W4 ⟨Ax0, cx0, Ex0, dx0, rfl, ho, hb⟩
  replace hS := hS.net hb ho
  clear hb ho
  clear q0 q1
  replace hS := hS.blk_ (W4.heap.size) (by simp) 34 #[.slice Ax0 n0 cx0, .slice Ex0 m0 dx0]
  go_wp2_with fail
  refine (implGroupCut a1 a2 _ (hS.netIs 1 rfl h0n h0m h0x)).mono ?_
  rintro e W5 ⟨vg0, rfl, ho0, hb⟩
  rw [hL0] at ho0
  obtain ⟨Ag0, cg0, rfl, _, _, _⟩ := ho0.form
  replace hS := hS.owns hb ho0
  clear hb ho0
  -- the results are equal
  go_wp2_with fail
  refine (eqI_led hS 0 3 rfl rfl hlen0.out).mono ?_
  rintro e W6 ⟨rfl, hS1⟩; replace hS := hS1; clear hS1
  -- the arguments are as they were
  have C0 : ∀ w', Cls W6 w' → w'.cell? ⟨w.heap.size, 0, none⟩ = some (.slice A0 n0 c0) := fun _ h => h.cell (hS.cell 5 0 rfl rfl)
  have C1 : ∀ w', Cls W6 w' → w'.cell? ⟨w.heap.size, 1, none⟩ = some (.slice E0 m0 d0) := fun _ h => h.cell (hS.cell 5 1 rfl rfl)
  have C2 : ∀ w', Cls W6 w' → w'.cell? ⟨W4.heap.size, 0, none⟩ = some (.slice Ax0 n0 cx0) := fun _ h => h.cell (hS.cell 1 0 rfl rfl)
  have C3 : ∀ w', Cls W6 w' → w'.cell? ⟨W4.heap.size, 1, none⟩ = some (.slice Ex0 m0 dx0) := fun _ h => h.cell (hS.cell 1 1 rfl rfl)
  have HL := hid (fun w' (h : Cls W6 w') => hS.step h)
  go_wp2_with fail
  go_region_held3 (fun w' => Cls W6 w') (first | exact Cls.drew _ | exact Cls.next (by assumption) (by assumption))
    (first
      | (go_at_call 15; refine (toNetwork_own _ (h0I.out.grow (HL.out _ (by assumption)).bl).strs (h0I.out.grow (HL.out _ (by assumption)).bl).fibs (Nat.le_refl _) h0n h0m).mono ?_; rintro e w' ⟨Ay0, cy0, Ey0, dy0, rfl, ho1, hb1⟩; have hL1 := (HL.out _ (by assumption)).net hb1 ho1)
      | (go_at_call 18; refine (eqN_led2 hL1 3 0 rfl rfl h0n h0m).mono ?_; rintro e w' ⟨rfl, hS2, hb2⟩))
  clear HL hL1 ho1 hb1 hb2 C0 C1 C2 C3
  replace hS := hS2.drop 1
  clear hS2
  dsimp only [List.drop] at hS
  generalize w' = W7 at *
  -- marks
  have q0 := hS.cell 1 0 rfl rfl
  have q1 := hS.cell 1 1 rfl rfl
  go_wp2_with fail
  refine (markN_led hS 2 rfl _ h0n h0m (by omega) (by omega)).mono ?_
  rintro e W8 ⟨rfl, hS1⟩; replace hS := hS1; clear hS1; dsimp only [List.set] at hS
  clear q0 q1
  go_wp2_with fail
  refine (eqI_led hS 0 3 rfl rfl hlen0.out).mono ?_
  rintro e W9 ⟨rfl, hS1⟩; replace hS := hS1; clear hS1
  go_wp2_with fail
  refine (markI_led hS 0 rfl _ hlen0.out (by have := hlen0.out; omega) (by have := hlen0.out; omega)).mono ?_
  rintro e W10 ⟨rfl, hS1⟩; replace hS := hS1; clear hS1; dsimp only [List.set] at hS
  go_wp2_with fail
  refine (heldI_led hS 0 _ rfl hlen0.out (by have := hlen0.out; omega) (by have := hlen0.out; omega)).mono ?_
  rintro e W11 ⟨rfl, hS1⟩; replace hS := hS1; clear hS1
  -- once more
  have q0 := hS.cell 5 0 rfl rfl
  have q1 := hS.cell 5 1 rfl rfl
  go_wp2_with fail
  refine (toNetwork_own _ (h0I.out.grow hS.bl).strs (h0I.out.grow hS.bl).fibs (Nat.le_refl _) h0n h0m).mono ?_
  rintro e W12 ⟨Ah0, ch0, Eh0, dh0, rfl, ho, hb⟩
  replace hS := hS.net hb ho
  clear hb ho
  clear q0 q1
  go_wp2_with fail
  refine (implGroupCut a1 a2 _ (hS.netIs 0 rfl h0n h0m h0x)).mono ?_
  rintro e W13 ⟨vh0, rfl, ho0, hb⟩
  rw [hL0] at ho0
  obtain ⟨Ah0, ch0, rfl, _, _, _⟩ := ho0.form
  replace hS := hS.owns hb ho0
  clear hb ho0
  go_wp2_with fail
  refine (eqI_led hS 0 5 rfl rfl hlen0.out).mono ?_
  rintro e W14 ⟨rfl, hS1⟩; replace hS := hS1; clear hS1
  go_wp2_with fail
  refine (heldI_led hS 2 _ rfl hlen0.out (by have := hlen0.out; omega) (by have := hlen0.out; omega)).mono ?_
  rintro e W15 ⟨rfl, hS1⟩; replace hS := hS1; clear hS1
  go_wp2_with fail
  go_ret
  exact ⟨rfl, hS.bl⟩
end Go.Proofs.Ytgoegldffjfmdaa.fnExactGroupCut
