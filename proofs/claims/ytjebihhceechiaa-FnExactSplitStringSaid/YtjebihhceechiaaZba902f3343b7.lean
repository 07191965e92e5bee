/- FnExactSplitString: the law returns true at every input; memory that was there reads as it did. Conditions: none. -/
import Derived.Test.YtjebihhceechiaaZ2aeabead8aa4
import Derived.Test.YtjebihhceechiaaRows
/- SplitString of both sides, walked. Conditions: the string has at most 1048576 bytes. -/
namespace Go.Proofs.Ytjebihhceechiaa
open Go.RowKit
set_option maxHeartbeats 2000000 in
set_option maxRecDepth 100000 in
theorem l1Split_any (s : ByteArray) (b : Int) (w : World) (hs : s.size ≤ 1048576) :
    Calls Try.prog 28 #[.string s, .int .u8 b] w fun e w' => ∃ v, e = .returned v ∧ Owns elStr w' w.heap.size 9 v (splA s b) ∧ Below w.heap.size w w' := by
  have hS := (Led.nil w).empty elStr 9 w.heap.size rfl w.heap.size (Nat.le_refl _)
  obtain ⟨i0, hi, hz0, hz1, hz2⟩ := info_parts str_info
  have HS : Hid (Led w (w.alloc (.cells #[] 9)) [tOwns elStr w.heap.size 9 (.slice (some ⟨w.heap.size, 0, none⟩) 0 0) (splT s b 0).1]) := hS
  have HA : Hid (splA s b = (splT s b s.size).1 ++ [s.extract (splT s b s.size).2 s.size]) := rfl
  clear hS
  go_enter Try.func28, Try.ntmps28
  go_wp2_with fail
  go_loopw [5, 6, 7] (fun v f i wr => ∃ k m : Nat, k ≤ s.size ∧ m ≤ k ∧ i = .int .i64 k ∧ f = .int .i64 m ∧ Hid (m = (splT s b k).2) ∧ Hid (Led w wr [tOwns elStr w.heap.size 9 v (splT s b k).1])) (fun _ _ i _ => s.size - (intOf i).toNat)
  case atStart => exact ⟨0, 0, Nat.zero_le _, Nat.le_refl _, rfl, rfl, rfl, HS⟩
  case round =>
    clear HS
    obtain ⟨k, m, hk, hm, rfl, rfl, HM, HS⟩ := hrel
    have hbd := splT_bd (s := s) (b := b) k
    obtain ⟨A3, c3, rfl, _⟩ := HS.out.form 0 rfl
    by_cases hlt : k < s.size
    · by_cases hb : (s[k].toNat : Int) = b
      · have HN : Hid (splT s b (k + 1) = ((splT s b k).1 ++ [s.extract m k], k + 1)) := by have := splT_yes hlt hb; rw [← HM.out] at this; exact this
        have hb2 : ((s[k].toNat : Int) == b) = true := by rw [hb]; exact beq_self_eq_true b
        have HS2 := hid (HS.out.blk_ wr.heap.size rfl 9 #[.string (s.extract m k)])
        clear hb HM
        go_wp2_with (first
          | (at_builtin; refine wpList_append_led rfl _ _ 27 rfl HS2.out 1 rfl Try.underlying27 hi hz0 hz1 (by rw [hz2]; decide) rfl rfl rfl (show Sees elStr _ _ _ 1 [s.extract m k] from sees_new elStr _ _ _ _ rfl) (by omega) HS2.out.bl.size ?_)
          | go_in)
        intro A2 c2 w7 hS5
        have hS6 := hid (hS5.drop 1)
        have HM2 : Hid (k + 1 = (splT s b (k + 1)).2) := by rw [HN.out]; rfl
        clear HS2 hS5
        go_wp2
        go_roundw
        case rel => exact ⟨k + 1, k + 1, by omega, Nat.le_refl _, by go_num, by go_num, HM2, by rw [HN.out]; exact hS6⟩
        case measure => simp [intOf]; omega
      · have HN : Hid (splT s b (k + 1) = splT s b k) := splT_no hlt hb
        have hb2 : ((s[k].toNat : Int) == b) = false := by rw [beq_eq_false_iff_ne]; exact hb
        clear hb
        go_wp2
        go_roundw
        case rel => exact ⟨k + 1, m, by omega, by omega, by go_num, rfl, by rw [HN.out]; exact HM, by rw [HN.out]; exact HS⟩
        case measure => simp [intOf]; omega
    · have hkm : k = s.size := by omega
      subst hkm
      have HS2 := hid (HS.out.blk_ wr.heap.size rfl 9 #[.string (s.extract m s.size)])
      go_wp2_with (first
        | (at_builtin; refine wpList_append_led rfl _ _ 27 rfl HS2.out 1 rfl Try.underlying27 hi hz0 hz1 (by rw [hz2]; decide) rfl rfl rfl (show Sees elStr _ _ _ 1 [s.extract m s.size] from sees_new elStr _ _ _ _ rfl) (by omega) HS2.out.bl.size ?_)
        | go_in)
      intro A2 c2 w7 hS5
      have hS6 := hid (hS5.drop 1)
      clear HS2 hS5
      go_wp2
      go_ret
      refine ⟨_, rfl, ?_, hS6.out.bl⟩
      rw [HA.out, ← HM.out]
      exact hS6.out.own 0 rfl
/-- The byte of a separator. -/
def sepB (sep : ByteArray) : Int := if h : 0 < sep.size then (sep[0].toNat : Int) else 0
def splOk (s sep : ByteArray) : Bool := decide (s.size ≤ 4000) && decide (sep.size = 1)
def splR (s sep : ByteArray) : List ByteArray := if splOk s sep then splA s (sepB sep) else []
set_option maxHeartbeats 2000000 in
set_option maxRecDepth 100000 in
theorem specSplit_any (s sep : ByteArray) (w : World) (hs : s.size ≤ 1048576) (_hp : sep.size ≤ 1048576) :
    Calls Try.prog 13 #[.string s, .string sep] w fun e w' => ∃ v, e = .returned (.tuple #[v, .bool (splOk s sep)]) ∧ Owns elStr w' w.heap.size 9 v (splR s sep) ∧ Below w.heap.size w w' := by
  by_cases h1 : sep.size = 1
  · by_cases h2 : s.size ≤ 4000
    · have h0 : 0 < sep.size := by omega
      have HO : Hid (splOk s sep = true) := by unfold Hid splOk; rw [decide_eq_true h1, decide_eq_true h2]; rfl
      have HB : Hid (sepB sep = ((sep[0]'h0).toNat : Int)) := by unfold Hid sepB; rw [dif_pos h0]
      have HR : Hid (splR s sep = splA s ((sep[0]'h0).toNat : Int)) := by unfold Hid splR; rw [HO.out, HB.out]; rfl
      rw [HO.out]
      have e1 : ((sep.size : Int) != 1) = false := by rw [h1]; rfl
      clear h1
      go_enter Try.func13, Try.ntmps13
      go_wp2_with fail
      refine (l1Split_any s _ _ hs).mono ?_
      rintro e w1 ⟨v, rfl, ho, hb⟩
      go_wp2_with fail
      go_ret2
      exact ⟨_, rfl, by rw [HR.out]; exact ho, hb⟩
    · have HO : Hid (splOk s sep = false) := by unfold Hid splOk; rw [decide_eq_false h2]; rfl
      have HR : Hid (splR s sep = []) := by unfold Hid splR; rw [HO.out]; rfl
      rw [HO.out]
      have e1 : ((sep.size : Int) != 1) = false := by rw [h1]; rfl
      clear h1
      have hS := (Led.nil w).empty elStr 9 w.heap.size rfl w.heap.size (Nat.le_refl _)
      have HS := hid hS
      clear hS
      go_enter Try.func13, Try.ntmps13
      go_wp2_with fail
      go_ret2
      exact ⟨_, rfl, by rw [HR.out]; exact HS.out.own 0 rfl, HS.out.bl⟩
  · have HO : Hid (splOk s sep = false) := by unfold Hid splOk; rw [decide_eq_false h1]; simp
    have HR : Hid (splR s sep = []) := by unfold Hid splR; rw [HO.out]; rfl
    rw [HO.out]
    have e1 : ((sep.size : Int) != 1) = true := by rw [bne_iff_ne]; omega
    have hS := (Led.nil w).empty elStr 9 w.heap.size rfl w.heap.size (Nat.le_refl _)
    have HS := hid hS
    clear hS h1
    go_enter Try.func13, Try.ntmps13
    go_wp2_with fail
    go_ret2
    exact ⟨_, rfl, by rw [HR.out]; exact HS.out.own 0 rfl, HS.out.bl⟩
set_option maxHeartbeats 2000000 in
set_option maxRecDepth 100000 in
theorem implSplit_any (s sep : ByteArray) (w : World) (hs : s.size ≤ 1048576) (_hp : sep.size ≤ 1048576) :
    Calls Try.prog 14 #[.string s, .string sep] w fun e w' => ∃ v, e = .returned (.tuple #[v, .bool (splOk s sep)]) ∧ Owns elStr w' w.heap.size 9 v (splR s sep) ∧ Below w.heap.size w w' := by
  by_cases h1 : sep.size = 1
  · by_cases h2 : s.size ≤ 4000
    · have h0 : 0 < sep.size := by omega
      have HO : Hid (splOk s sep = true) := by unfold Hid splOk; rw [decide_eq_true h1, decide_eq_true h2]; rfl
      obtain ⟨b, hbv⟩ : ∃ b, b = ((sep[0]'h0).toNat : Int) := ⟨_, rfl⟩
      have HBV := hid hbv
      have HB : Hid (sepB sep = b) := by unfold Hid sepB; rw [dif_pos h0, hbv]
      have HR : Hid (splR s sep = splA s b) := by unfold Hid splR; rw [HO.out, HB.out]; rfl
      rw [HO.out]
      have e1 : ((sep.size : Int) != 1) = false := by rw [h1]; rfl
      clear h1
      have hS := (Led.nil w).empty elStr 9 w.heap.size rfl w.heap.size (Nat.le_refl _)
      obtain ⟨i0, hi, hz0, hz1, hz2⟩ := info_parts str_info
      have HS : Hid (Led w (w.alloc (.cells #[] 9)) [tOwns elStr w.heap.size 9 (.slice (some ⟨w.heap.size, 0, none⟩) 0 0) (splT s b 0).1]) := hS
      have HA : Hid (splA s b = (splT s b s.size).1 ++ [s.extract (splT s b s.size).2 s.size]) := rfl
      clear hS hbv
      go_enter Try.func14, Try.ntmps14
      go_wp2_with fail
      go_loopw [6, 7, 8] (fun v f i wr => ∃ k m : Nat, k ≤ s.size ∧ m ≤ k ∧ i = .int .i64 k ∧ f = .int .i64 m ∧ Hid (m = (splT s b k).2) ∧ Hid (Led w wr [tOwns elStr w.heap.size 9 v (splT s b k).1])) (fun _ _ i _ => s.size - (intOf i).toNat)
      case atStart => exact ⟨0, 0, Nat.zero_le _, Nat.le_refl _, rfl, rfl, rfl, HS⟩
      case round =>
        clear HS
        obtain ⟨k, m, hk, hm, rfl, rfl, HM, HS⟩ := hrel
        have hbd := splT_bd (s := s) (b := b) k
        obtain ⟨A3, c3, rfl, _⟩ := HS.out.form 0 rfl
        by_cases hlt : k < s.size
        · have i1 : (k : Int) < (s.size : Int) := by omega
          by_cases hb : (s[k].toNat : Int) = b
          · have HN : Hid (splT s b (k + 1) = ((splT s b k).1 ++ [s.extract m k], k + 1)) := by have := splT_yes hlt hb; rw [← HM.out] at this; exact this
            have hb2 : ((s[k].toNat : Int) == (sep[0].toNat : Int)) = true := by rw [hb, HBV.out]; exact beq_self_eq_true _
            clear hb HM
            go_wp2_with fail
            refine region_cls (by kernel_rfl) (by kernel_rfl) ?_
            repeat (first
              | ((with_reducible refine quiet_pos ?_ (fun K hK => ?_))
                 · rfl
                 apply Exists.intro
                 refine ⟨fun w' hw' => ?_, ?_⟩
                 · go_simp
                   with_reducible rfl
                 simp only [Act.put, List.setIfInBounds_toArray, List.set_cons_zero, List.set_cons_succ]
                 refine hK _ ?_; clear hK K)
              | ((with_reducible refine quiet_neg ?_ (fun K hK => ?_))
                 · rfl
                 simp only [Act.put, List.setIfInBounds_toArray, List.set_cons_zero, List.set_cons_succ]
                 refine hK _ ?_; clear hK K))
            with_reducible refine wpQuiet_nil ?_
            intro wz hwz'
            have HS2 := hid (HS.out.step hwz')
            have HS3 := hid (HS2.out.blk_ wz.heap.size rfl 9 #[.string (s.extract m k)])
            clear hwz'
            go_wp2_with (first
              | (at_builtin; refine wpList_append_led rfl _ _ 27 rfl HS3.out 1 rfl Try.underlying27 hi hz0 hz1 (by rw [hz2]; decide) rfl rfl rfl (show Sees elStr _ _ _ 1 [s.extract m k] from sees_new elStr _ _ _ _ rfl) (by omega) HS3.out.bl.size ?_)
              | go_in)
            intro A2 c2 w7 hS5
            have hS6 := hid (hS5.drop 1)
            have HM2 : Hid (k + 1 = (splT s b (k + 1)).2) := by rw [HN.out]; rfl
            clear HS2 HS3 hS5
            go_wp2
            go_roundw
            case rel => exact ⟨k + 1, k + 1, by omega, Nat.le_refl _, by go_num, by go_num, HM2, by rw [HN.out]; exact hS6⟩
            case measure => simp [intOf]; omega
          · have HN : Hid (splT s b (k + 1) = splT s b k) := splT_no hlt hb
            have hb2 : ((s[k].toNat : Int) == (sep[0].toNat : Int)) = false := by rw [beq_eq_false_iff_ne, ← HBV.out]; exact hb
            clear hb
            go_wp2_with fail
            refine region_cls (by kernel_rfl) (by kernel_rfl) ?_
            repeat (first
              | ((with_reducible refine quiet_pos ?_ (fun K hK => ?_))
                 · rfl
                 apply Exists.intro
                 refine ⟨fun w' hw' => ?_, ?_⟩
                 · go_simp
                   with_reducible rfl
                 simp only [Act.put, List.setIfInBounds_toArray, List.set_cons_zero, List.set_cons_succ]
                 refine hK _ ?_; clear hK K)
              | ((with_reducible refine quiet_neg ?_ (fun K hK => ?_))
                 · rfl
                 simp only [Act.put, List.setIfInBounds_toArray, List.set_cons_zero, List.set_cons_succ]
                 refine hK _ ?_; clear hK K))
            with_reducible refine wpQuiet_nil ?_
            intro wz hwz'
            have HS2 := hid (HS.out.step hwz')
            clear hwz'
            go_wp2
            go_roundw
            case rel => exact ⟨k + 1, m, by omega, by omega, by go_num, rfl, by rw [HN.out]; exact HM, by rw [HN.out]; exact HS2⟩
            case measure => simp [intOf]; omega
        · have hkm : k = s.size := by omega
          subst hkm
          have HS2 := hid (HS.out.blk_ wr.heap.size rfl 9 #[.string (s.extract m s.size)])
          go_wp2_with (first
            | (at_builtin; refine wpList_append_led rfl _ _ 27 rfl HS2.out 1 rfl Try.underlying27 hi hz0 hz1 (by rw [hz2]; decide) rfl rfl rfl (show Sees elStr _ _ _ 1 [s.extract m s.size] from sees_new elStr _ _ _ _ rfl) (by omega) HS2.out.bl.size ?_)
            | go_in)
          intro A2 c2 w7 hS5
          have hS6 := hid (hS5.drop 1)
          clear HS2 hS5
          go_wp2
          go_ret2
          refine ⟨_, rfl, ?_, hS6.out.bl⟩
          rw [HR.out, HA.out, ← HM.out]
          exact hS6.out.own 0 rfl
    · have HO : Hid (splOk s sep = false) := by unfold Hid splOk; rw [decide_eq_false h2]; rfl
      have HR : Hid (splR s sep = []) := by unfold Hid splR; rw [HO.out]; rfl
      rw [HO.out]
      have e1 : ((sep.size : Int) != 1) = false := by rw [h1]; rfl
      clear h1
      go_enter Try.func14, Try.ntmps14
      go_wp2_with fail
      go_ret2
      exact ⟨_, rfl, by rw [HR.out]; exact World.ownsRow_nil _ _ _ _, Below.refl _ _⟩
  · have HO : Hid (splOk s sep = false) := by unfold Hid splOk; rw [decide_eq_false h1]; simp
    have HR : Hid (splR s sep = []) := by unfold Hid splR; rw [HO.out]; rfl
    rw [HO.out]
    have e1 : ((sep.size : Int) != 1) = true := by rw [bne_iff_ne]; omega
    clear h1
    by_cases h2 : s.size ≤ 4000
    all_goals
      go_enter Try.func14, Try.ntmps14
      go_wp2_with fail
      go_ret2
      exact ⟨_, rfl, by rw [HR.out]; exact World.ownsRow_nil _ _ _ _, Below.refl _ _⟩
end Go.Proofs.Ytjebihhceechiaa
/- Strings in the ledger: equal, marked, held. Conditions: at most 1048576 strings; marks below 2^40. -/
namespace Go.Proofs.Ytjebihhceechiaa
open Go.RowKit
variable {w0 w : World} {L : List Thing} {base base' n c c' : Nat} {A A' : Option Addr} {xs : List ByteArray}
theorem eqT_led (h : Led w0 w L) (i j : Nat) (hi : L[i]? = some (tOwns elStr base 9 (.slice A n c) xs)) (hj : L[j]? = some (tOwns elStr base' 9 (.slice A' n c') xs)) (hl : xs.length = n) (hn : n ≤ 1048576) :
    Calls Try.prog 15 #[.slice A n c, .slice A' n c'] w fun e w' => e = .returned (.bool true) ∧ Led w0 w' L := by
  have h1 := Owns.sees (h.get i hi)
  have h2 := Owns.sees (h.get j hj)
  rw [hl] at h1 h2
  exact (eqStringS_any w h1 h2 (by unfold maxLen; omega)).mono fun _ _ ⟨he, q, hq⟩ => ⟨he, h.step (by rw [hq]; exact bl_drewN (Below.refl _ _) _)⟩
theorem markT_led (h : Led w0 w L) (i : Nat) (hi : L[i]? = some (tOwns elStr base 9 (.slice A n c) xs)) (hl : xs.length = n) (k : Int) (hn : n ≤ 1048576) (hk0 : 0 ≤ k) (hk : k ≤ 1099510579200) :
    Calls Try.prog 16 #[.slice A n c, .int .i64 k] w fun e w' => e = .returned (.int .i64 (k + n)) ∧ Led w0 w' (L.set i (tOwns elStr base 9 (.slice A n c) (smarks k n))) :=
  (markStringS_any k w (h.get i hi) hl hn hk0 hk).mono fun _ _ ⟨he, ho, ht⟩ => ⟨he, h.touch i hi rfl ht ho⟩
theorem heldT_led (h : Led w0 w L) (i : Nat) (k : Int) (hi : L[i]? = some (tOwns elStr base 9 (.slice A n c) (smarks k n))) (hn : n ≤ 1048576) (hk0 : 0 ≤ k) (hk : k ≤ 1099510579200) :
    Calls Try.prog 17 #[.slice A n c, .int .i64 k] w fun e w' => e = .returned (.int .i64 (k + n)) ∧ Led w0 w' L :=
  (heldStringS_any k w (by have := Owns.sees (h.get i hi); rw [smarks_len] at this; exact this) hn hk0 hk).mono fun _ _ ⟨he, hw⟩ => ⟨he, h.step hw⟩
end Go.Proofs.Ytjebihhceechiaa
/- FnExactSplitString, walked. Conditions: none. -/
namespace Go.Proofs.Ytjebihhceechiaa
open Go.RowKit
theorem splR_len {s sep : ByteArray} : (splR s sep).length ≤ 4001 := by
  unfold splR
  split
  · rename_i h
    have := (splA_len (s := s) (b := sepB sep)).2
    unfold splOk at h
    simp at h
    omega
  · simp
set_option maxHeartbeats 2000000 in
set_option maxRecDepth 100000 in
theorem walkSplitString (w : World) {s sep : ByteArray} (h0 : s.size ≤ maxLen) (h1 : sep.size ≤ maxLen) : Calls Try.prog 6 #[.string s, .string sep] w fun e w' => e = .returned (.bool true) ∧ Below w.heap.size w w' := by
  unfold maxLen at h0 h1
  by_cases hs : s.size ≤ 1048576
  · by_cases hp : sep.size ≤ 1048576
    · obtain ⟨k, hk⟩ : ∃ k, splOk s sep = k := ⟨_, rfl⟩
      obtain ⟨xs, hx⟩ : ∃ xs, splR s sep = xs := ⟨_, rfl⟩
      have hl := splR_len (s := s) (sep := sep)
      have P1 := fun w' => specSplit_any s sep w' hs hp
      have P2 := fun w' => implSplit_any s sep w' hs hp
      rw [hx] at hl
      rw [hk, hx] at P1 P2
      clear hk hx
      have H0 := hid (Led.nil w)
      have hl0 : (0 : Int) ≤ 1 + (xs.length : Int) := by omega
      have HP2 := hid P2
      go_enter Try.func6, Try.ntmps6
      go_wp2_with fail
      refine (P1 _).mono ?_
      rintro e w1 ⟨v1, rfl, ho1, hb1⟩
      obtain ⟨A1, c1, rfl, _⟩ := ho1.form
      have H1 := hid (H0.out.owns hb1 ho1)
      clear hb1 ho1 P1 H0 P2
      go_wp2_with fail
      refine (HP2.out _).mono ?_
      rintro e w2 ⟨v2, rfl, ho2, hb2⟩
      obtain ⟨A2, c2, rfl, _⟩ := ho2.form
      have H2 := hid (H1.out.owns hb2 ho2)
      clear hb2 ho2 H1
      go_wp2_with fail
      refine (eqT_led H2.out 0 1 rfl rfl rfl (by omega)).mono ?_
      rintro e w3 ⟨rfl, h3⟩
      have H3 := hid h3
      clear h3 H2
      cases k
      all_goals
        go_wp2_with fail
        refine (markT_led H3.out 0 rfl rfl 1 (by omega) (by decide) (by decide)).mono ?_
        rintro e w4 ⟨rfl, h4⟩
        have H4 := hid h4
        clear h4 H3
        go_wp2_with fail
        refine (heldT_led H4.out 0 1 rfl (by omega) (by decide) (by decide)).mono ?_
        rintro e w5 ⟨rfl, h5⟩
        have H5 := hid h5
        clear h5 H4
        go_wp2_with fail
        refine (HP2.out _).mono ?_
        rintro e w6 ⟨v6, rfl, ho6, hb6⟩
        obtain ⟨A6, c6, rfl, _⟩ := ho6.form
        have H6 := hid (H5.out.owns hb6 ho6)
        clear hb6 ho6 H5
        go_wp2_with fail
        refine (eqT_led H6.out 0 2 rfl rfl rfl (by omega)).mono ?_
        rintro e w7 ⟨rfl, h7⟩
        have H7 := hid h7
        clear h7 H6
        go_wp2_with fail
        refine (heldT_led H7.out 1 1 rfl (by omega) (by decide) (by decide)).mono ?_
        rintro e w8 ⟨rfl, h8⟩
        have H8 := hid h8
        clear h8 H7
        go_wp2_with fail
        go_ret
        exact ⟨rfl, H8.out.bl⟩
    · go_enter Try.func6, Try.ntmps6
      go_wp2
      go_ret
      exact ⟨rfl, Below.refl _ _⟩
  · go_enter Try.func6, Try.ntmps6
    go_wp2
    go_ret
    exact ⟨rfl, Below.refl _ _⟩
end Go.Proofs.Ytjebihhceechiaa
/- How an argument that can be read is opened: strings, slices, networks, routes. Conditions: none. -/
namespace Go.Proofs.Ytjebihhceechiaa
open Go.ChangeShapes Go.WideShapes Go.ChangeAt Go.RowKit Go.Deep
theorem i64_bd {n : Int} (h : (Lit.int .i64 n).wf = true) : -9223372036854775808 ≤ n ∧ n ≤ 9223372036854775807 := by
  simp [Lit.wf, IntKind.min, IntKind.max, IntKind.signed, IntKind.bits] at h; omega
section
variable {H : Type} {enc : TypeId × Value → H} {P : Program} {W : World} {spare : Nat → Bool} {held : Bool}
/-- A slice whose elements' cells are known. -/
theorem open_sl {α : Type} (E : El α) {t e : TypeId} {fuel : Nat} {cs : List Value} {x : DataW H × List MemPlace} (good : α → Prop) (ht : P.underlying t = some (.slice e)) (hsz : P.cellsOf e = E.sz)
    (hel : ∀ fuel cs y, DataW.trod enc P W 0 spare held fuel e cs = some y → ∃ a, cs = E.cells a ∧ good a)
    (h : DataW.trod enc P W 0 spare held fuel t cs = some x) :
    ∃ A n c xs, cs = [.slice A n c] ∧ n ≤ c ∧ c ≤ maxLen ∧ Sees E W W.heap.size A n xs ∧ ∀ a ∈ xs, good a := by
  rcases open_slice ht h with ⟨h0, _⟩ | ⟨a, len, cap, m, k, D, Pl, hcs, _, hl, hm, hmm, _, hi⟩
  · exact ⟨none, 0, 0, [], h0, Nat.le_refl _, Nat.zero_le _, Sees.nil _ _ _ _, fun _ h => by cases h⟩
  · have hlm : len ≤ m := by rw [hmm]; split <;> omega
    have key : ∀ i : Nat, i < len → ∃ y : α, good y ∧ ∀ j u, (E.cells y)[j]? = some u → W.cell? (a.add (i * E.sz + j)) = some u := by
      intro i hlt
      obtain ⟨cs', hc, htr⟩ := hi i (by omega)
      obtain ⟨y, rfl, hg⟩ := hel _ _ _ htr
      obtain ⟨_, hlen, hat⟩ := World.cells?_some hc
      refine ⟨y, hg, fun j u hu => ?_⟩
      have hj : j < P.cellsOf e := by rw [hsz, ← E.len y]; exact (List.getElem?_eq_some_iff.1 hu).1
      have := hat j hj
      rw [add_add, hsz] at this
      rw [this, hu]
    rcases Nat.eq_zero_or_pos len with h0 | h0
    · subst h0
      exact ⟨some a, 0, cap, [], hcs, hl, hm, Sees.nil _ _ _ _, fun _ h => by cases h⟩
    · have hspot : a.spot = none := by
        obtain ⟨y, _, hy⟩ := key 0 h0
        have hpos := E.pos
        have hlen := E.len y
        have h1 := hy 0 ((E.cells y)[0]'(by omega)) (List.getElem?_eq_getElem (by omega))
        simp only [Nat.zero_mul, Nat.zero_add] at h1
        rw [show a.add 0 = a by simp [Addr.add]] at h1
        unfold World.cell? at h1
        split at h1
        · split at h1
          · cases h1
          · rename_i hs; simpa using hs
        · cases h1
      obtain ⟨y0, _, _⟩ := key 0 h0
      have : Inhabited α := ⟨y0⟩
      obtain ⟨f, hf⟩ := choose_lt key
      refine ⟨some a, len, cap, (List.range len).map f, hcs, hl, hm, ⟨by simp, .inr ⟨a.block, a.off, by cases a; simp_all, ?_, ?_⟩⟩, ?_⟩
      · obtain ⟨_, hy⟩ := hf 0 h0
        have hpos := E.pos
        have hlen := E.len (f 0)
        have h1 := hy 0 ((E.cells (f 0))[0]'(by omega)) (List.getElem?_eq_getElem (by omega))
        have := World.block_lt_of_cell? W _ h1
        simp only [Addr.add] at this
        split at this <;> simpa using this
      · intro k x hx j u hu
        have hk : k < len := by have := (List.getElem?_eq_some_iff.1 hx).1; simpa using this
        have hx' : f k = x := by simpa [List.getElem?_map, List.getElem?_range, hk] using hx
        have := (hf k hk).2 j u (by rw [hx']; exact hu)
        rw [← this]
        unfold Addr.add
        split
        · rename_i h00; rw [Nat.add_assoc, h00, Nat.add_zero]; cases a; simp_all
        · rw [Nat.add_assoc]
      · intro x hx
        obtain ⟨i, hi, rfl⟩ := List.mem_map.1 hx
        exact (hf i (by simpa using hi)).1
/-- A slice that came in. -/
def SlArg {α : Type} (E : El α) (W : World) (A : Option Addr) (n c : Nat) (xs : List α) (good : α → Prop) : Prop := n ≤ c ∧ c ≤ maxLen ∧ Sees E W W.heap.size A n xs ∧ ∀ a ∈ xs, good a
theorem open_sl_val {α : Type} (E : El α) {t e : TypeId} {base : Nat} {v : Value} {d : DataW H} {p : List MemPlace} (good : α → Prop) (ht : P.underlying t = some (.slice e)) (hsz : P.cellsOf e = E.sz)
    (hel : ∀ fuel cs y, DataW.trod enc P W 0 spare held fuel e cs = some y → ∃ a, cs = E.cells a ∧ good a)
    (hv : Value.okWide P W .any base t v) (h : DataW.Trod enc P W 0 spare held t v d p) : ∃ A n c xs, v = .slice A n c ∧ SlArg E W A n c xs good := by
  obtain ⟨a, len, cap, rfl⟩ := okWide_slice ht hv
  obtain ⟨fuel, h⟩ := h
  obtain ⟨A, n, c, xs, e, h1, h2, h3, h4⟩ := open_sl E good ht hsz hel h
  exact ⟨A, n, c, xs, by simpa [Value.cells] using e, h1, h2, h3, h4⟩
theorem el_int {e : TypeId} (he : P.underlying e = some (.int .i64)) (fuel : Nat) (cs : List Value) (y : DataW H × List MemPlace) (h : DataW.trod enc P W 0 spare held fuel e cs = some y) :
    ∃ a, cs = elInt.cells a ∧ (-9223372036854775808 ≤ a ∧ a ≤ 9223372036854775807) := by
  obtain ⟨n, rfl, _, hw⟩ := DataW.trod_int he h
  exact ⟨n, rfl, i64_bd hw⟩
theorem el_str {e : TypeId} (he : P.underlying e = some .string) (fuel : Nat) (cs : List Value) (y : DataW H × List MemPlace) (h : DataW.trod enc P W 0 spare held fuel e cs = some y) :
    ∃ a, cs = elStr.cells a ∧ a.size ≤ maxLen := by
  obtain ⟨n, rfl, _, hw⟩ := DataW.trod_string he h
  exact ⟨n, rfl, hw⟩
end
end Go.Proofs.Ytjebihhceechiaa
/- FnExactSplitString: the law returns true at every input; memory that was there reads as it did. Conditions: none. -/
namespace Go.Proofs.Ytjebihhceechiaa.fnExactSplitString
open Go.ChangeShapes Go.WideShapes Go.ChangeAt Go.RowKit Go.Deep
open Go.ChangeMaps (open_string shut_string)
open Go.RowKit
theorem own : ownKnob Try.prog.godebug = none := by kernel_rfl
theorem laidOut : laidOutB Try.prog = true := by kernel_rfl
theorem reads : Try.f6.params.toList.all (fun t => Try.prog.readableRec t && decide (t < Try.prog.types.size)) = true := by kernel_rfl
theorem plain {H : Type} (ds : List (DataW H)) (h : ds.length = Try.f6.params.toList.length) : (Rows.fnExactSplitStringSpec.fn H ds).results = [.lit (.bool true)] ∧ (Rows.fnExactSplitStringSpec.fn H ds).args = ds ∧ (Rows.fnExactSplitStringSpec.fn H ds).vars = [] := by
  rw [Try.params6] at h
  match ds, h with
  | [d0, d1], _ => exact ⟨rfl, rfl, rfl⟩
set_option maxRecDepth 100000 in
theorem lifted (os : Os) (started : os.Started) (H : Type) (enc : TypeId × Value → H) :
    ReturnsInHanded {} Try.checked os 6 .any (Rows.fnExactSplitStringSpec.pre6 enc Try.prog Try.f6 Rows.fnExactSplitStringRow.domain false) (Rows.fnExactSplitStringSpec.post enc Try.prog Try.f6 false true false false) := by
  refine returnsInHanded_of_change (C := Try.checked) own started (by kernel_rfl) Try.func6
    (ChangeSpec.witness6 (enc := enc) (C := Try.checked) false ⟨#[], #[.string ByteArray.empty, .string ByteArray.empty], []⟩ 8 (by kernel_rfl) (by kernel_rfl) (by kernel_rfl) (by kernel_rfl)) ?_
  intro W base args ds gs before hval0 hW _ _
  have hval : ∀ (j : Nat) t v, Try.f6.params[j]? = some t → args[j]? = some v → Value.okWide Try.prog W .any base t v := hval0
  refine law_contract (P := Try.prog) laidOut reads rfl Try.underlying4 rfl plain W args ds gs before hW (fun p hA => ?_)
  clear hval0 hW
  rw [Try.params6] at hA hval
  obtain ⟨v0, vs0, d0, ds0, p0, q0, hargs, rfl, rfl, h0, r0⟩ := trodAll_cons hA
  obtain ⟨v1, vs1, d1, ds1, p1, q1, rfl, rfl, rfl, h1, r1⟩ := trodAll_cons r0
  obtain ⟨rfl, rfl, rfl⟩ := trodAll_nil r1
  obtain rfl : args = #[v0, v1] := by cases args; simp_all
  obtain ⟨a0, rfl, _, _, w0⟩ := open_string Try.underlying9 (hval 0 9 v0 rfl rfl) h0
  obtain ⟨a1, rfl, _, _, w1⟩ := open_string Try.underlying9 (hval 1 9 v1 rfl rfl) h1
  exact walkSplitString W w0 w1
theorem proved : Rows.FnExactSplitStringSaid :=
  OpenClaim.holds_of_wide 6 Try.f6 rfl rfl rfl rfl rfl rfl rfl ⟨rfl, rfl, rfl, rfl, rfl⟩ rfl rfl rfl rfl rfl (by kernel_rfl) Try.func6 (by kernel_rfl)
    (of_decide_eq_true (by kernel_rfl)) (by unfold Func.isWrapper; first | (rw [if_pos (by decide +kernel)]; kernel_rfl) | (rw [if_neg (by decide +kernel)]; exact ⟨rfl, rfl⟩))
    (fun os started H enc _ => lifted os started H enc)
#print axioms proved
end Go.Proofs.Ytjebihhceechiaa.fnExactSplitString
