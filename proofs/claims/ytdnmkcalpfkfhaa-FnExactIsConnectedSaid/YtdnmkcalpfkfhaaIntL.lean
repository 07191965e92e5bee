/- Lists of numbers: slices.Index, slices.Contains, l1Has, l1Rising, isSet, toIntS, walked. Conditions: none (toIntS: at most 1048576). -/
import Derived.Test.YtdnmkcalpfkfhaaRows
import Derived.Test.YtdnmkcalpfkfhaaFind
import Derived.Test.YtdnmkcalpfkfhaaApp
import Derived.Test.YtdnmkcalpfkfhaaNet1
import Derived.Test.YtdnmkcalpfkfhaaNet0
namespace Go.Proofs.Ytdnmkcalpfkfhaa
open Go.RowKit
section
variable {B n c : Nat} {A : Option Addr} {xs : List Int}
theorem indexI_any (s : Int) (w : World) (hA : Sees elInt w B A n xs) (hn : n ≤ maxLen) :
    Calls Try.prog 137 #[.slice A n c, .int .i64 s] w fun e w' => e = .returned (.int .i64 (findI xs s)) ∧ w = w' := by
  unfold maxLen at hn
  go_enter Try.func137, Try.ntmps137
  go_wp2
  go_loop [8] (fun i => ∃ k : Nat, k ≤ n ∧ i = .int .i64 k ∧ Hid (noneTo xs s k)) (fun i => n - (intOf i).toNat)
  case atStart => exact ⟨0, Nat.zero_le _, rfl, noneTo_zero⟩
  case round =>
    obtain ⟨k, hk, rfl, hno⟩ := hrel
    by_cases hlt : k < n
    · obtain ⟨b, o, rfl, _, hx⟩ := hA.at_ hlt
      obtain ⟨x, hxk⟩ : ∃ x, xs[k]? = some x := ⟨xs[k]'(by rw [hA.len]; exact hlt), List.getElem?_eq_getElem _⟩
      have hc := hx k x hxk 0 _ rfl
      simp only [elInt, Nat.mul_one, Nat.add_zero] at hc
      clear hx
      by_cases heq : x = s
      · subst heq
        have HF := hid (findI_at hno hxk)
        clear hxk
        go_wp2
        go_ret
        exact ⟨by rw [HF.out]; rfl, rfl⟩
      · have hne : (s == x) = false := by simp; exact fun e => heq e.symm
        have HN := hid (noneTo_succ hno hxk heq)
        clear hxk hno
        go_wp2
        go_round
        case rel => exact ⟨k + 1, by omega, by go_num, HN⟩
        case measure => simp [intOf]; omega
    · have HF : Hid (findI xs s = -1) := findI_none hA.len (by obtain rfl : k = n := (by omega); exact hno.out)
      go_wp2
      go_ret
      exact ⟨by rw [HF.out]; rfl, rfl⟩
theorem containsI_any (s : Int) (w : World) (hA : Sees elInt w B A n xs) (hn : n ≤ maxLen) :
    Calls Try.prog 110 #[.slice A n c, .int .i64 s] w fun e w' => e = .returned (.bool (hasB xs s)) ∧ w = w' := by
  go_enter Try.func110, Try.ntmps110
  go_wp2_with (go_at_call 137; refine (indexI_any s _ hA hn).mono ?_; rintro e w' ⟨rfl, rfl⟩)
  go_ret
  exact ⟨rfl, rfl⟩
theorem l1Has_any (s : Int) (w : World) (hA : Sees elInt w B A n xs) (hn : n ≤ maxLen) :
    Calls Try.prog 79 #[.slice A n c, .int .i64 s] w fun e w' => e = .returned (.bool (hasB xs s)) ∧ w = w' := by
  unfold maxLen at hn
  go_enter Try.func79, Try.ntmps79
  go_wp2
  go_loop [5] (fun i => ∃ k : Nat, k ≤ n ∧ i = .int .i64 k ∧ Hid (noneTo xs s k)) (fun i => n - (intOf i).toNat)
  case atStart => exact ⟨0, Nat.zero_le _, rfl, noneTo_zero⟩
  case round =>
    obtain ⟨k, hk, rfl, hno⟩ := hrel
    by_cases hlt : k < n
    · obtain ⟨b, o, rfl, _, hx⟩ := hA.at_ hlt
      obtain ⟨x, hxk⟩ : ∃ x, xs[k]? = some x := ⟨xs[k]'(by rw [hA.len]; exact hlt), List.getElem?_eq_getElem _⟩
      have hc := hx k x hxk 0 _ rfl
      simp only [elInt, Nat.mul_one, Nat.add_zero] at hc
      clear hx
      by_cases heq : x = s
      · subst heq
        have HF : Hid (hasB xs x = true) := hasB_iff.2 (List.mem_of_getElem? hxk)
        clear hxk
        go_wp2
        go_ret
        exact ⟨by rw [HF.out]; rfl, rfl⟩
      · have hne : (x == s) = false := by simp; exact heq
        have HN := hid (noneTo_succ hno hxk heq)
        clear hxk hno
        go_wp2
        go_round
        case rel => exact ⟨k + 1, by omega, by go_num, HN⟩
        case measure => simp [intOf]; omega
    · have HF : Hid (hasB xs s = false) := by
        unfold Hid
        cases g : hasB xs s
        · rfl
        · exact absurd (hasB_iff.1 g) (noneTo_not hA.len (by obtain rfl : k = n := (by omega); exact hno.out))
      go_wp2
      go_ret
      exact ⟨by rw [HF.out]; rfl, rfl⟩
/-- Number k lies within bounds and above the one before it. -/
def riseAt (lo hi : Int) (xs : List Int) (k : Nat) : Bool := inB lo hi (xs.getD k 0) && !(decide (0 < k) && decide (xs.getD k 0 ≤ xs.getD (k - 1) 0))
def risB (lo hi : Int) (xs : List Int) : Bool := allB (riseAt lo hi xs) xs.length
set_option maxHeartbeats 1000000 in
set_option maxRecDepth 100000 in
theorem l1Rising_any (lo hi : Int) (w : World) (hA : Sees elInt w B A n xs) (hn : n ≤ 1048576) :
    Calls Try.prog 128 #[.slice A n c, .int .i64 lo, .int .i64 hi] w fun e w' => e = .returned (.bool (risB lo hi xs)) ∧ Below w.heap.size w w' := by
  have hl := hA.len
  go_enter Try.func128, Try.ntmps128
  go_wp2
  go_loopw [7] (fun i wr => ∃ k : Nat, k ≤ n ∧ i = .int .i64 k ∧ Hid (allTo (riseAt lo hi xs) k) ∧ Below w.heap.size w wr) (fun i _ => n - (intOf i).toNat)
  case atStart => exact ⟨0, Nat.zero_le _, rfl, allTo_zero _, Below.refl _ _⟩
  case round =>
    obtain ⟨k, hk, rfl, hno, hb⟩ := hrel
    by_cases hlt : k < n
    · obtain ⟨b, o, rfl, _, hx⟩ := hA.at_ hlt
      obtain ⟨x, hxk⟩ := get_of (k := k) hl hlt
      have hc := bl_cell hb (hx k x hxk 0 _ rfl)
      simp only [elInt, Nat.mul_one, Nat.add_zero] at hc
      have T0 : ∀ w', Cls wr w' → w'.cell? ⟨b, o + k, none⟩ = some (.int .i64 x) := fun _ h => h.cell hc
      have iz : (k : Int) < (n : Int) := by omega
      cases g1 : inB lo hi x
      · have HF : Hid (risB lo hi xs = false) := allB_no (k := k) (by omega) (by unfold riseAt; rw [getD_of hxk, g1]; rfl)
        clear hx hxk hno hl
        go_wp2
        refine region_cls (by kernel_rfl) (by kernel_rfl) ?_
        repeat (first
          | ((with_reducible refine quiet_pos ?_ (fun K hK => ?_))
             · rfl
             apply Exists.intro
             refine ⟨fun w' hw' => ?_, ?_⟩
             · go_simp
               first
                 | with_reducible rfl
                 | (go_at_call 122; exact hw'.same (l1In_any _ _ _ _))
             simp only [Act.put, List.setIfInBounds_toArray, List.set_cons_zero, List.set_cons_succ]
             refine hK _ ?_; clear hK K)
          | ((with_reducible refine quiet_neg ?_ (fun K hK => ?_))
             · rfl
             simp only [Act.put, List.setIfInBounds_toArray, List.set_cons_zero, List.set_cons_succ]
             refine hK _ ?_; clear hK K))
        with_reducible refine wpQuiet_nil ?_
        intro w3 hw3
        go_wp2
        go_ret
        exact ⟨by rw [HF.out]; rfl, bl_then hb hw3⟩
      · by_cases hk0 : 0 < k
        · obtain ⟨y, hyk⟩ := get_of (k := k - 1) hl (by omega)
          have hcy := bl_cell hb (hx (k - 1) y hyk 0 _ rfl)
          simp only [elInt, Nat.mul_one, Nat.add_zero] at hcy
          have i0 : decide ((0 : Nat) < k) = true := decide_eq_true hk0
          have i1 : IntKind.i64.wrap ((k : Int) - 1) = (k : Int) - 1 := IntWalk.i64_in _ (by omega)
          have i2 : (0 : Int) ≤ (k : Int) - 1 := by omega
          have i3 : ((k : Int) - 1).toNat = k - 1 := by omega
          have i4 : (k : Int) - 1 < (n : Int) := by omega
          have i5 : (1 : Int) ≤ (k : Int) := by omega
          have i6 : 1 ≤ k := by omega
          have T1 : ∀ w', Cls wr w' → w'.cell? ⟨b, o + (k - 1), none⟩ = some (.int .i64 y) := fun _ h => h.cell hcy
          cases g2 : decide (x ≤ y)
          · have HN : Hid (allTo (riseAt lo hi xs) (k + 1)) := allTo_succ hno.out (by unfold riseAt; rw [getD_of hxk, getD_of hyk, g1, g2, i0]; rfl)
            clear hx hxk hyk hno hl
            go_wp2
            refine region_cls (by kernel_rfl) (by kernel_rfl) ?_
            repeat (first
              | ((with_reducible refine quiet_pos ?_ (fun K hK => ?_))
                 · rfl
                 apply Exists.intro
                 refine ⟨fun w' hw' => ?_, ?_⟩
                 · go_simp
                   first
                     | with_reducible rfl
                     | (go_at_call 122; exact hw'.same (l1In_any _ _ _ _))
                 simp only [Act.put, List.setIfInBounds_toArray, List.set_cons_zero, List.set_cons_succ]
                 refine hK _ ?_; clear hK K)
              | ((with_reducible refine quiet_neg ?_ (fun K hK => ?_))
                 · rfl
                 simp only [Act.put, List.setIfInBounds_toArray, List.set_cons_zero, List.set_cons_succ]
                 refine hK _ ?_; clear hK K))
            with_reducible refine wpQuiet_nil ?_
            intro w3 hw3
            go_wp2
            go_roundw
            case rel => exact ⟨k + 1, by omega, by go_num, HN, bl_then hb hw3⟩
            case measure => simp [intOf]; omega
          · have HF : Hid (risB lo hi xs = false) := allB_no (k := k) (by omega) (by unfold riseAt; rw [getD_of hxk, getD_of hyk, g1, g2, i0]; rfl)
            clear hx hxk hyk hno hl
            go_wp2
            refine region_cls (by kernel_rfl) (by kernel_rfl) ?_
            repeat (first
              | ((with_reducible refine quiet_pos ?_ (fun K hK => ?_))
                 · rfl
                 apply Exists.intro
                 refine ⟨fun w' hw' => ?_, ?_⟩
                 · go_simp
                   first
                     | with_reducible rfl
                     | (go_at_call 122; exact hw'.same (l1In_any _ _ _ _))
                 simp only [Act.put, List.setIfInBounds_toArray, List.set_cons_zero, List.set_cons_succ]
                 refine hK _ ?_; clear hK K)
              | ((with_reducible refine quiet_neg ?_ (fun K hK => ?_))
                 · rfl
                 simp only [Act.put, List.setIfInBounds_toArray, List.set_cons_zero, List.set_cons_succ]
                 refine hK _ ?_; clear hK K))
            with_reducible refine wpQuiet_nil ?_
            intro w3 hw3
            go_wp2
            go_ret
            exact ⟨by rw [HF.out]; rfl, bl_then hb hw3⟩
        · have hk00 : k = 0 := by omega
          have e6 : decide (0 < k) = false := by simp; omega
          have HN : Hid (allTo (riseAt lo hi xs) (k + 1)) := allTo_succ hno.out (by unfold riseAt; rw [getD_of hxk, g1, e6]; rfl)
          clear hx hxk hno hl hk0 hk00
          go_wp2
          refine region_cls (by kernel_rfl) (by kernel_rfl) ?_
          repeat (first
            | ((with_reducible refine quiet_pos ?_ (fun K hK => ?_))
               · rfl
               apply Exists.intro
               refine ⟨fun w' hw' => ?_, ?_⟩
               · go_simp
                 first
                   | with_reducible rfl
                   | (go_at_call 122; exact hw'.same (l1In_any _ _ _ _))
               simp only [Act.put, List.setIfInBounds_toArray, List.set_cons_zero, List.set_cons_succ]
               refine hK _ ?_; clear hK K)
            | ((with_reducible refine quiet_neg ?_ (fun K hK => ?_))
               · rfl
               simp only [Act.put, List.setIfInBounds_toArray, List.set_cons_zero, List.set_cons_succ]
               refine hK _ ?_; clear hK K))
          with_reducible refine wpQuiet_nil ?_
          intro w3 hw3
          go_wp2
          go_roundw
          case rel => exact ⟨k + 1, by omega, by go_num, HN, bl_then hb hw3⟩
          case measure => simp [intOf]; omega
    · have HF : Hid (risB lo hi xs = true) := allB_yes hno.out (by omega)
      go_wp2
      go_ret
      exact ⟨by rw [HF.out]; rfl, hb⟩
set_option maxHeartbeats 1000000 in
set_option maxRecDepth 100000 in
theorem isSet_any (hi : Nat) (w : World) (hA : Sees elInt w B A n xs) (hn : n ≤ 1048576) (hh : hi ≤ 1048576) :
    Calls Try.prog 130 #[.slice A n c, .int .i64 hi] w fun e w' => e = .returned (.bool (risB 0 ((hi : Int) - 1) xs)) ∧ w = w' := by
  have hl := hA.len
  go_enter Try.func130, Try.ntmps130
  go_wp2
  go_loop [9] (fun i => ∃ k : Nat, k ≤ n ∧ i = .int .i64 k ∧ Hid (allTo (riseAt 0 ((hi : Int) - 1) xs) k)) (fun i => n - (intOf i).toNat)
  case atStart => exact ⟨0, Nat.zero_le _, rfl, allTo_zero _⟩
  case round =>
    obtain ⟨k, hk, rfl, hno⟩ := hrel
    by_cases hlt : k < n
    · obtain ⟨b, o, rfl, _, hx⟩ := hA.at_ hlt
      obtain ⟨x, hxk⟩ := get_of (k := k) hl hlt
      have hc := hx k x hxk 0 _ rfl
      simp only [elInt, Nat.mul_one, Nat.add_zero] at hc
      cases g1 : inB 0 ((hi : Int) - 1) x
      · have HF : Hid (risB 0 ((hi : Int) - 1) xs = false) := allB_no (k := k) (by omega) (by unfold riseAt; rw [getD_of hxk, g1]; rfl)
        clear hx hxk hno hl
        go_wp2_with (go_at_call 107; refine (within_any _ _ _ _).mono ?_; rintro e w' ⟨rfl, rfl⟩; rw [g1])
        go_ret
        exact ⟨by rw [HF.out]; rfl, rfl⟩
      · by_cases hk0 : 0 < k
        · obtain ⟨y, hyk⟩ := get_of (k := k - 1) hl (by omega)
          have hcy := hx (k - 1) y hyk 0 _ rfl
          simp only [elInt, Nat.mul_one, Nat.add_zero] at hcy
          have i0 : decide ((0 : Nat) < k) = true := decide_eq_true hk0
          have i1 : IntKind.i64.wrap ((k : Int) - 1) = (k : Int) - 1 := IntWalk.i64_in _ (by omega)
          have i2 : (0 : Int) ≤ (k : Int) - 1 := by omega
          have i3 : ((k : Int) - 1).toNat = k - 1 := by omega
          have i4 : (k : Int) - 1 < (n : Int) := by omega
          have i5 : (1 : Int) ≤ (k : Int) := by omega
          have i6 : 1 ≤ k := by omega
          cases g2 : decide (x ≤ y)
          · have HN : Hid (allTo (riseAt 0 ((hi : Int) - 1) xs) (k + 1)) := allTo_succ hno.out (by unfold riseAt; rw [getD_of hxk, getD_of hyk, g1, g2, i0]; rfl)
            clear hx hxk hyk hno hl
            go_wp2_with (go_at_call 107; refine (within_any _ _ _ _).mono ?_; rintro e w' ⟨rfl, rfl⟩; rw [g1])
            go_round
            case rel => exact ⟨k + 1, by omega, by go_num, HN⟩
            case measure => simp [intOf]; omega
          · have HF : Hid (risB 0 ((hi : Int) - 1) xs = false) := allB_no (k := k) (by omega) (by unfold riseAt; rw [getD_of hxk, getD_of hyk, g1, g2, i0]; rfl)
            clear hx hxk hyk hno hl
            go_wp2_with (go_at_call 107; refine (within_any _ _ _ _).mono ?_; rintro e w' ⟨rfl, rfl⟩; rw [g1])
            go_ret
            exact ⟨by rw [HF.out]; rfl, rfl⟩
        · have e6 : decide (0 < k) = false := by simp; omega
          have HN : Hid (allTo (riseAt 0 ((hi : Int) - 1) xs) (k + 1)) := allTo_succ hno.out (by unfold riseAt; rw [getD_of hxk, g1, e6]; rfl)
          clear hx hxk hno hl hk0
          go_wp2_with (go_at_call 107; refine (within_any _ _ _ _).mono ?_; rintro e w' ⟨rfl, rfl⟩; rw [g1])
          go_round
          case rel => exact ⟨k + 1, by omega, by go_num, HN⟩
          case measure => simp [intOf]; omega
    · have HF : Hid (risB 0 ((hi : Int) - 1) xs = true) := allB_yes hno.out (by omega)
      go_wp2
      go_ret
      exact ⟨by rw [HF.out]; rfl, rfl⟩
theorem toIntS_any (w : World) (hA : Sees elInt w B A n xs) (hn : n ≤ 1048576) :
    Calls Try.prog 50 #[.slice A n c] w fun e w' => ∃ v, e = .returned v ∧ Owns elInt w' w.heap.size 3 v xs ∧ Below w.heap.size w w' := by
  obtain ⟨i0, hi, hz0, hz1, hz2⟩ := info_parts int_info
  have hmk := fun W => make_n (P := Try.prog) Try.underlying26 hi hz0 (n := n) (by rw [hz2]; omega) (by omega) W
  rw [hz1] at hmk
  clear hi hz0 hz1 hz2
  go_enter Try.func50, Try.ntmps50
  go_wp2
  have hb0 := bl_alloc (Below.refl w.heap.size w) (.cells (madeCells #[.int .i64 0] n) 3)
  have hk0 : Hid (Blk (w.alloc (.cells (madeCells #[.int .i64 0] n) 3)) w.heap.size 3 (madeCells #[.int .i64 0] n)) := Blk.new _ _ _
  have hs0 : Hid ((madeCells #[.int .i64 0] n).size = n) := size_madeCells _ _
  clear hmk
  go_loopw [4] (fun i wr => ∃ (k : Nat) (cur : Array Value), k ≤ n ∧ i = .int .i64 k ∧ Hid (Blk wr w.heap.size 3 cur) ∧ Hid (cur.size = n) ∧ Hid (Filled elInt cur xs k) ∧ Below w.heap.size w wr) (fun i _ => n - (intOf i).toNat)
  case atStart => exact ⟨0, _, Nat.zero_le _, rfl, hk0, hs0, Filled.zero _ _ _, hb0⟩
  case round =>
    clear hb0 hk0 hs0
    obtain ⟨k, cur, hk, rfl, hblk, hsz, hfill, hb⟩ := hrel
    by_cases hlt : k < n
    · obtain ⟨b, o, rfl, _, hc⟩ := hA.at_ hlt
      obtain ⟨x, hxk⟩ := get_of (k := k) hA.len hlt
      have hcx := bl_cell hb (hc k x hxk 0 _ rfl)
      simp only [elInt, Nat.mul_one, Nat.add_zero] at hcx
      obtain ⟨u, hu⟩ := hblk.out.cell_ (i := k) (by rw [hsz.out]; omega)
      have hfz := hblk.out.frozen k
      have HB := hid (hblk.out.set k (.int .i64 x))
      have HS : Hid ((cur.setIfInBounds k (.int .i64 x)).size = n) := by rw [Array.size_setIfInBounds]; exact hsz
      have HF := hid (filled_int hfill.out hxk (by rw [hsz.out]; omega))
      have hb3 := bl_set hb (p := ⟨w.heap.size, k, none⟩) (.int .i64 x) (Nat.le_refl _)
      clear hc hxk hblk hsz hfill
      go_wp2
      go_roundw
      case rel => exact ⟨k + 1, _, by omega, by go_num, HB, HS, HF, hb3⟩
      case measure => simp [intOf]; omega
    · have hkn : k = n := by omega
      have HO := hid (Owns.of_filled (E := elInt) hblk.out (Nat.le_refl _) hA.len (by rw [hsz.out]; exact (Nat.mul_one _).symm) (by simp only [maxLen]; omega) (by rw [← hkn]; exact hfill.out))
      clear hblk hsz hfill
      go_wp2
      go_ret
      exact ⟨_, rfl, HO.out, hb⟩
end
end Go.Proofs.Ytdnmkcalpfkfhaa

