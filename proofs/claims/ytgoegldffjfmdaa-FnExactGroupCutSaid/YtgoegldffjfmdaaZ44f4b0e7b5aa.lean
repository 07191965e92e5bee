/- Lemmas and walks that the claim rests on, laid together. Conditions: none. -/
import Derived.Test.YtgoegldffjfmdaaRows
import Derived.Test.YtgoegldffjfmdaaZ5937fb145e81
import Derived.Test.YtgoegldffjfmdaaZ342be6a000f6
import Derived.ArgAppend
import Derived.Lib.SliceRun
import Derived.BigQuiet
import Derived.Deep.RegionWith
import Derived.Deep.LoopGhost
import Derived.Deep.RegionHeld3
/- Lists of numbers: slices.Index, slices.Contains, l1Has, l1Rising, isSet, toIntS, walked. Conditions: none (toIntS: at most 1048576). -/
namespace Go.Proofs.Ytgoegldffjfmdaa
open Go.RowKit
section
variable {B n c : Nat} {A : Option Addr} {xs : List Int}
theorem indexI_any (s : Int) (w : World) (hA : Sees elInt w B A n xs) (hn : n ≤ maxLen) :
    Calls Try.prog 188 #[.slice A n c, .int .i64 s] w fun e w' => e = .returned (.int .i64 (findI xs s)) ∧ w = w' := by
  unfold maxLen at hn
  go_enter Try.func188, Try.ntmps188
  go_wp2
  go_loop [8] (fun i => ∃ k : Nat, k ≤ n ∧ i = .int .i64 k ∧ Hid (noneTo xs s k)) (fun i => n - (intOf i).toNat)
  case atStart => exact ⟨0, Nat.zero_le _, rfl, noneTo_zero⟩
  case round =>
    obtain ⟨k, hk, rfl, hno⟩ := hrel
    by_cases hlt : k < n
    · obtain ⟨b, o, rfl, _, hx⟩ := hA.at_ hlt
      obtain ⟨x, hxk⟩ : ∃ x, xs[k]? = some x := ⟨xs[k]'(by rw [hA.len]; exact hlt), List.getElem?_eq_getElem _⟩
      have hc := hx k x hxk 0 _ rfl
      simp only [elInt, Nat.mul_one, Nat.add_zero] at hc
      clear hx
      by_cases heq : x = s
      · subst heq
        have HF := hid (findI_at hno hxk)
        clear hxk
        go_wp2
        go_ret
        exact ⟨by rw [HF.out]; rfl, rfl⟩
      · have hne : (s == x) = false := by simp; exact fun e => heq e.symm
        have HN := hid (noneTo_succ hno hxk heq)
        clear hxk hno
        go_wp2
        go_round
        case rel => exact ⟨k + 1, by omega, by go_num, HN⟩
        case measure => simp [intOf]; omega
    · have HF : Hid (findI xs s = -1) := findI_none hA.len (by obtain rfl : k = n := (by omega); exact hno.out)
      go_wp2
      go_ret
      exact ⟨by rw [HF.out]; rfl, rfl⟩
theorem containsI_any (s : Int) (w : World) (hA : Sees elInt w B A n xs) (hn : n ≤ maxLen) :
    Calls Try.prog 121 #[.slice A n c, .int .i64 s] w fun e w' => e = .returned (.bool (hasB xs s)) ∧ w = w' := by
  go_enter Try.func121, Try.ntmps121
  go_wp2_with (go_at_call 188; refine (indexI_any s _ hA hn).mono ?_; rintro e w' ⟨rfl, rfl⟩)
  go_ret
  exact ⟨rfl, rfl⟩
theorem l1Has_any (s : Int) (w : World) (hA : Sees elInt w B A n xs) (hn : n ≤ maxLen) :
    Calls Try.prog 122 #[.slice A n c, .int .i64 s] w fun e w' => e = .returned (.bool (hasB xs s)) ∧ w = w' := by
  unfold maxLen at hn
  go_enter Try.func122, Try.ntmps122
  go_wp2
  go_loop [5] (fun i => ∃ k : Nat, k ≤ n ∧ i = .int .i64 k ∧ Hid (noneTo xs s k)) (fun i => n - (intOf i).toNat)
  case atStart => exact ⟨0, Nat.zero_le _, rfl, noneTo_zero⟩
  case round =>
    obtain ⟨k, hk, rfl, hno⟩ := hrel
    by_cases hlt : k < n
    · obtain ⟨b, o, rfl, _, hx⟩ := hA.at_ hlt
      obtain ⟨x, hxk⟩ : ∃ x, xs[k]? = some x := ⟨xs[k]'(by rw [hA.len]; exact hlt), List.getElem?_eq_getElem _⟩
      have hc := hx k x hxk 0 _ rfl
      simp only [elInt, Nat.mul_one, Nat.add_zero] at hc
      clear hx
      by_cases heq : x = s
      · subst heq
        have HF : Hid (hasB xs x = true) := hasB_iff.2 (List.mem_of_getElem? hxk)
        clear hxk
        go_wp2
        go_ret
        exact ⟨by rw [HF.out]; rfl, rfl⟩
      · have hne : (x == s) = false := by simp; exact heq
        have HN := hid (noneTo_succ hno hxk heq)
        clear hxk hno
        go_wp2
        go_round
        case rel => exact ⟨k + 1, by omega, by go_num, HN⟩
        case measure => simp [intOf]; omega
    · have HF : Hid (hasB xs s = false) := by
        unfold Hid
        cases g : hasB xs s
        · rfl
        · exact absurd (hasB_iff.1 g) (noneTo_not hA.len (by obtain rfl : k = n := (by omega); exact hno.out))
      go_wp2
      go_ret
      exact ⟨by rw [HF.out]; rfl, rfl⟩
/-- Number k lies within bounds and above the one before it. -/
def riseAt (lo hi : Int) (xs : List Int) (k : Nat) : Bool := inB lo hi (xs.getD k 0) && !(decide (0 < k) && decide (xs.getD k 0 ≤ xs.getD (k - 1) 0))
def risB (lo hi : Int) (xs : List Int) : Bool := allB (riseAt lo hi xs) xs.length
set_option maxHeartbeats 1000000 in
set_option maxRecDepth 100000 in
theorem l1Rising_any (lo hi : Int) (w : World) (hA : Sees elInt w B A n xs) (hn : n ≤ 1048576) :
    Calls Try.prog 97 #[.slice A n c, .int .i64 lo, .int .i64 hi] w fun e w' => e = .returned (.bool (risB lo hi xs)) ∧ Below w.heap.size w w' := by
  have hl := hA.len
  go_enter Try.func97, Try.ntmps97
  go_wp2
  go_loopw [7] (fun i wr => ∃ k : Nat, k ≤ n ∧ i = .int .i64 k ∧ Hid (allTo (riseAt lo hi xs) k) ∧ Below w.heap.size w wr) (fun i _ => n - (intOf i).toNat)
  case atStart => exact ⟨0, Nat.zero_le _, rfl, allTo_zero _, Below.refl _ _⟩
  case round =>
    obtain ⟨k, hk, rfl, hno, hb⟩ := hrel
    by_cases hlt : k < n
    · obtain ⟨b, o, rfl, _, hx⟩ := hA.at_ hlt
      obtain ⟨x, hxk⟩ := get_of (k := k) hl hlt
      have hc := bl_cell hb (hx k x hxk 0 _ rfl)
      simp only [elInt, Nat.mul_one, Nat.add_zero] at hc
      have T0 : ∀ w', Cls wr w' → w'.cell? ⟨b, o + k, none⟩ = some (.int .i64 x) := fun _ h => h.cell hc
      have iz : (k : Int) < (n : Int) := by omega
      cases g1 : inB lo hi x
      · have HF : Hid (risB lo hi xs = false) := allB_no (k := k) (by omega) (by unfold riseAt; rw [getD_of hxk, g1]; rfl)
        clear hx hxk hno hl
        go_wp2
        refine region_cls (by kernel_rfl) (by kernel_rfl) ?_
        repeat (first
          | ((with_reducible refine quiet_pos ?_ (fun K hK => ?_))
             · rfl
             apply Exists.intro
             refine ⟨fun w' hw' => ?_, ?_⟩
             · go_simp
               first
                 | with_reducible rfl
                 | (go_at_call 129; exact hw'.same (l1In_any _ _ _ _))
             simp only [Act.put, List.setIfInBounds_toArray, List.set_cons_zero, List.set_cons_succ]
             refine hK _ ?_; clear hK K)
          | ((with_reducible refine quiet_neg ?_ (fun K hK => ?_))
             · rfl
             simp only [Act.put, List.setIfInBounds_toArray, List.set_cons_zero, List.set_cons_succ]
             refine hK _ ?_; clear hK K))
        with_reducible refine wpQuiet_nil ?_
        intro w3 hw3
        go_wp2
        go_ret
        exact ⟨by rw [HF.out]; rfl, bl_then hb hw3⟩
      · by_cases hk0 : 0 < k
        · obtain ⟨y, hyk⟩ := get_of (k := k - 1) hl (by omega)
          have hcy := bl_cell hb (hx (k - 1) y hyk 0 _ rfl)
          simp only [elInt, Nat.mul_one, Nat.add_zero] at hcy
          have i0 : decide ((0 : Nat) < k) = true := decide_eq_true hk0
          have i1 : IntKind.i64.wrap ((k : Int) - 1) = (k : Int) - 1 := IntWalk.i64_in _ (by omega)
          have i2 : (0 : Int) ≤ (k : Int) - 1 := by omega
          have i3 : ((k : Int) - 1).toNat = k - 1 := by omega
          have i4 : (k : Int) - 1 < (n : Int) := by omega
          have i5 : (1 : Int) ≤ (k : Int) := by omega
          have i6 : 1 ≤ k := by omega
          have T1 : ∀ w', Cls wr w' → w'.cell? ⟨b, o + (k - 1), none⟩ = some (.int .i64 y) := fun _ h => h.cell hcy
          cases g2 : decide (x ≤ y)
          · have HN : Hid (allTo (riseAt lo hi xs) (k + 1)) := allTo_succ hno.out (by unfold riseAt; rw [getD_of hxk, getD_of hyk, g1, g2, i0]; rfl)
            clear hx hxk hyk hno hl
            go_wp2
            refine region_cls (by kernel_rfl) (by kernel_rfl) ?_
            repeat (first
              | ((with_reducible refine quiet_pos ?_ (fun K hK => ?_))
                 · rfl
                 apply Exists.intro
                 refine ⟨fun w' hw' => ?_, ?_⟩
                 · go_simp
                   first
                     | with_reducible rfl
                     | (go_at_call 129; exact hw'.same (l1In_any _ _ _ _))
                 simp only [Act.put, List.setIfInBounds_toArray, List.set_cons_zero, List.set_cons_succ]
                 refine hK _ ?_; clear hK K)
              | ((with_reducible refine quiet_neg ?_ (fun K hK => ?_))
                 · rfl
                 simp only [Act.put, List.setIfInBounds_toArray, List.set_cons_zero, List.set_cons_succ]
                 refine hK _ ?_; clear hK K))
            with_reducible refine wpQuiet_nil ?_
            intro w3 hw3
            go_wp2
            go_roundw
            case rel => exact ⟨k + 1, by omega, by go_num, HN, bl_then hb hw3⟩
            case measure => simp [intOf]; omega
          · have HF : Hid (risB lo hi xs = false) := allB_no (k := k) (by omega) (by unfold riseAt; rw [getD_of hxk, getD_of hyk, g1, g2, i0]; rfl)
            clear hx hxk hyk hno hl
            go_wp2
            refine region_cls (by kernel_rfl) (by kernel_rfl) ?_
            repeat (first
              | ((with_reducible refine quiet_pos ?_ (fun K hK => ?_))
                 · rfl
                 apply Exists.intro
                 refine ⟨fun w' hw' => ?_, ?_⟩
                 · go_simp
                   first
                     | with_reducible rfl
                     | (go_at_call 129; exact hw'.same (l1In_any _ _ _ _))
                 simp only [Act.put, List.setIfInBounds_toArray, List.set_cons_zero, List.set_cons_succ]
                 refine hK _ ?_; clear hK K)
              | ((with_reducible refine quiet_neg ?_ (fun K hK => ?_))
                 · rfl
                 simp only [Act.put, List.setIfInBounds_toArray, List.set_cons_zero, List.set_cons_succ]
                 refine hK _ ?_; clear hK K))
            with_reducible refine wpQuiet_nil ?_
            intro w3 hw3
            go_wp2
            go_ret
            exact ⟨by rw [HF.out]; rfl, bl_then hb hw3⟩
        · have hk00 : k = 0 := by omega
          have e6 : decide (0 < k) = false := by simp; omega
          have HN : Hid (allTo (riseAt lo hi xs) (k + 1)) := allTo_succ hno.out (by unfold riseAt; rw [getD_of hxk, g1, e6]; rfl)
          clear hx hxk hno hl hk0 hk00
          go_wp2
          refine region_cls (by kernel_rfl) (by kernel_rfl) ?_
          repeat (first
            | ((with_reducible refine quiet_pos ?_ (fun K hK => ?_))
               · rfl
               apply Exists.intro
               refine ⟨fun w' hw' => ?_, ?_⟩
               · go_simp
                 first
                   | with_reducible rfl
                   | (go_at_call 129; exact hw'.same (l1In_any _ _ _ _))
               simp only [Act.put, List.setIfInBounds_toArray, List.set_cons_zero, List.set_cons_succ]
               refine hK _ ?_; clear hK K)
            | ((with_reducible refine quiet_neg ?_ (fun K hK => ?_))
               · rfl
               simp only [Act.put, List.setIfInBounds_toArray, List.set_cons_zero, List.set_cons_succ]
               refine hK _ ?_; clear hK K))
          with_reducible refine wpQuiet_nil ?_
          intro w3 hw3
          go_wp2
          go_roundw
          case rel => exact ⟨k + 1, by omega, by go_num, HN, bl_then hb hw3⟩
          case measure => simp [intOf]; omega
    · have HF : Hid (risB lo hi xs = true) := allB_yes hno.out (by omega)
      go_wp2
      go_ret
      exact ⟨by rw [HF.out]; rfl, hb⟩
set_option maxHeartbeats 1000000 in
set_option maxRecDepth 100000 in
theorem isSet_any (hi : Nat) (w : World) (hA : Sees elInt w B A n xs) (hn : n ≤ 1048576) (hh : hi ≤ 1048576) :
    Calls Try.prog 101 #[.slice A n c, .int .i64 hi] w fun e w' => e = .returned (.bool (risB 0 ((hi : Int) - 1) xs)) ∧ w = w' := by
  have hl := hA.len
  go_enter Try.func101, Try.ntmps101
  go_wp2
  go_loop [9] (fun i => ∃ k : Nat, k ≤ n ∧ i = .int .i64 k ∧ Hid (allTo (riseAt 0 ((hi : Int) - 1) xs) k)) (fun i => n - (intOf i).toNat)
  case atStart => exact ⟨0, Nat.zero_le _, rfl, allTo_zero _⟩
  case round =>
    obtain ⟨k, hk, rfl, hno⟩ := hrel
    by_cases hlt : k < n
    · obtain ⟨b, o, rfl, _, hx⟩ := hA.at_ hlt
      obtain ⟨x, hxk⟩ := get_of (k := k) hl hlt
      have hc := hx k x hxk 0 _ rfl
      simp only [elInt, Nat.mul_one, Nat.add_zero] at hc
      cases g1 : inB 0 ((hi : Int) - 1) x
      · have HF : Hid (risB 0 ((hi : Int) - 1) xs = false) := allB_no (k := k) (by omega) (by unfold riseAt; rw [getD_of hxk, g1]; rfl)
        clear hx hxk hno hl
        go_wp2_with (go_at_call 149; refine (within_any _ _ _ _).mono ?_; rintro e w' ⟨rfl, rfl⟩; rw [g1])
        go_ret
        exact ⟨by rw [HF.out]; rfl, rfl⟩
      · by_cases hk0 : 0 < k
        · obtain ⟨y, hyk⟩ := get_of (k := k - 1) hl (by omega)
          have hcy := hx (k - 1) y hyk 0 _ rfl
          simp only [elInt, Nat.mul_one, Nat.add_zero] at hcy
          have i0 : decide ((0 : Nat) < k) = true := decide_eq_true hk0
          have i1 : IntKind.i64.wrap ((k : Int) - 1) = (k : Int) - 1 := IntWalk.i64_in _ (by omega)
          have i2 : (0 : Int) ≤ (k : Int) - 1 := by omega
          have i3 : ((k : Int) - 1).toNat = k - 1 := by omega
          have i4 : (k : Int) - 1 < (n : Int) := by omega
          have i5 : (1 : Int) ≤ (k : Int) := by omega
          have i6 : 1 ≤ k := by omega
          cases g2 : decide (x ≤ y)
          · have HN : Hid (allTo (riseAt 0 ((hi : Int) - 1) xs) (k + 1)) := allTo_succ hno.out (by unfold riseAt; rw [getD_of hxk, getD_of hyk, g1, g2, i0]; rfl)
            clear hx hxk hyk hno hl
            go_wp2_with (go_at_call 149; refine (within_any _ _ _ _).mono ?_; rintro e w' ⟨rfl, rfl⟩; rw [g1])
            go_round
            case rel => exact ⟨k + 1, by omega, by go_num, HN⟩
            case measure => simp [intOf]; omega
          · have HF : Hid (risB 0 ((hi : Int) - 1) xs = false) := allB_no (k := k) (by omega) (by unfold riseAt; rw [getD_of hxk, getD_of hyk, g1, g2, i0]; rfl)
            clear hx hxk hyk hno hl
            go_wp2_with (go_at_call 149; refine (within_any _ _ _ _).mono ?_; rintro e w' ⟨rfl, rfl⟩; rw [g1])
            go_ret
            exact ⟨by rw [HF.out]; rfl, rfl⟩
        · have e6 : decide (0 < k) = false := by simp; omega
          have HN : Hid (allTo (riseAt 0 ((hi : Int) - 1) xs) (k + 1)) := allTo_succ hno.out (by unfold riseAt; rw [getD_of hxk, g1, e6]; rfl)
          clear hx hxk hno hl hk0
          go_wp2_with (go_at_call 149; refine (within_any _ _ _ _).mono ?_; rintro e w' ⟨rfl, rfl⟩; rw [g1])
          go_round
          case rel => exact ⟨k + 1, by omega, by go_num, HN⟩
          case measure => simp [intOf]; omega
    · have HF : Hid (risB 0 ((hi : Int) - 1) xs = true) := allB_yes hno.out (by omega)
      go_wp2
      go_ret
      exact ⟨by rw [HF.out]; rfl, rfl⟩
theorem toIntS_any (w : World) (hA : Sees elInt w B A n xs) (hn : n ≤ 1048576) :
    Calls Try.prog 27 #[.slice A n c] w fun e w' => ∃ v, e = .returned v ∧ Owns elInt w' w.heap.size 3 v xs ∧ Below w.heap.size w w' := by
  obtain ⟨i0, hi, hz0, hz1, hz2⟩ := info_parts int_info
  have hmk := fun W => make_n (P := Try.prog) Try.underlying27 hi hz0 (n := n) (by rw [hz2]; omega) (by omega) W
  rw [hz1] at hmk
  clear hi hz0 hz1 hz2
  go_enter Try.func27, Try.ntmps27
  go_wp2
  have hb0 := bl_alloc (Below.refl w.heap.size w) (.cells (madeCells #[.int .i64 0] n) 3)
  have hk0 : Hid (Blk (w.alloc (.cells (madeCells #[.int .i64 0] n) 3)) w.heap.size 3 (madeCells #[.int .i64 0] n)) := Blk.new _ _ _
  have hs0 : Hid ((madeCells #[.int .i64 0] n).size = n) := size_madeCells _ _
  clear hmk
  go_loopw [4] (fun i wr => ∃ (k : Nat) (cur : Array Value), k ≤ n ∧ i = .int .i64 k ∧ Hid (Blk wr w.heap.size 3 cur) ∧ Hid (cur.size = n) ∧ Hid (Filled elInt cur xs k) ∧ Below w.heap.size w wr) (fun i _ => n - (intOf i).toNat)
  case atStart => exact ⟨0, _, Nat.zero_le _, rfl, hk0, hs0, Filled.zero _ _ _, hb0⟩
  case round =>
    clear hb0 hk0 hs0
    obtain ⟨k, cur, hk, rfl, hblk, hsz, hfill, hb⟩ := hrel
    by_cases hlt : k < n
    · obtain ⟨b, o, rfl, _, hc⟩ := hA.at_ hlt
      obtain ⟨x, hxk⟩ := get_of (k := k) hA.len hlt
      have hcx := bl_cell hb (hc k x hxk 0 _ rfl)
      simp only [elInt, Nat.mul_one, Nat.add_zero] at hcx
      obtain ⟨u, hu⟩ := hblk.out.cell_ (i := k) (by rw [hsz.out]; omega)
      have hfz := hblk.out.frozen k
      have HB := hid (hblk.out.set k (.int .i64 x))
      have HS : Hid ((cur.setIfInBounds k (.int .i64 x)).size = n) := by rw [Array.size_setIfInBounds]; exact hsz
      have HF := hid (filled_int hfill.out hxk (by rw [hsz.out]; omega))
      have hb3 := bl_set hb (p := ⟨w.heap.size, k, none⟩) (.int .i64 x) (Nat.le_refl _)
      clear hc hxk hblk hsz hfill
      go_wp2
      go_roundw
      case rel => exact ⟨k + 1, _, by omega, by go_num, HB, HS, HF, hb3⟩
      case measure => simp [intOf]; omega
    · have hkn : k = n := by omega
      have HO := hid (Owns.of_filled (E := elInt) hblk.out (Nat.le_refl _) hA.len (by rw [hsz.out]; exact (Nat.mul_one _).symm) (by simp only [maxLen]; omega) (by rw [← hkn]; exact hfill.out))
      clear hblk hsz hfill
      go_wp2
      go_ret
      exact ⟨_, rfl, HO.out, hb⟩
end
end Go.Proofs.Ytgoegldffjfmdaa
/- choices, fewest: the first list of the fewest numbers for which something holds, walked over whatever function asks. Conditions: as each states. -/
namespace Go.Proofs.Ytgoegldffjfmdaa
open Go.RowKit
/-- The cells behind a slice's address. -/
theorem sees_cells {α : Type} {E : El α} {w : World} {B n : Nat} {ad : Addr} {ys : List α} (hy : Sees E w B (some ad) n ys) : ∀ j u, (ys.flatMap E.cells)[j]? = some u → w.cell? (ad.add j) = some u := by
  intro j u hj
  have hyl := hy.len
  rcases hy.2 with h | ⟨b, o, h, _, hc⟩
  · subst h
    rw [List.eq_nil_of_length_eq_zero hyl] at hj; simp at hj
  · injection h with h; subst h
    have hpos := E.pos
    have hjl : j < ys.length * E.sz := by rw [← flat_len]; exact (List.getElem?_eq_some_iff.1 hj).1
    have hk : j / E.sz < ys.length := (Nat.div_lt_iff_lt_mul hpos).2 hjl
    obtain ⟨y, hyk⟩ : ∃ y, ys[j / E.sz]? = some y := ⟨ys[j / E.sz], List.getElem?_eq_getElem hk⟩
    have hm : j % E.sz < (E.cells y).length := by rw [E.len]; exact Nat.mod_lt _ hpos
    have h1 := hc (j / E.sz) y hyk (j % E.sz) _ (List.getElem?_eq_getElem hm)
    have h2 := flat_get E ys (j / E.sz) y hyk (j % E.sz) _ (List.getElem?_eq_getElem hm)
    have e1 : j / E.sz * E.sz + j % E.sz = j := by rw [Nat.mul_comm]; exact Nat.div_add_mod j E.sz
    rw [e1] at h2
    rw [hj] at h2
    injection h2 with h2
    rw [← h2] at h1
    have e2 : o + j / E.sz * E.sz + j % E.sz = o + j := by omega
    rw [e2] at h1
    rw [← h1]
    unfold Addr.add
    split
    · rename_i h0; rw [h0, Nat.add_zero]
    · rfl
/-- append onto a slice without room, whose it may be. -/
theorem wpList_append_full {w : World} {ops : Array Oper} {rest : List Oper} {o : Oper} {a : Act} {Q : Exit → Act → World → Prop} (hgd : o.guard = none) (s x : Operand)
    (ho : o.op = Op.call { callee := Callee.builtin Builtin.append, args := #[s, x], argTypes := #[27, 27] }) {B C n c : Nat} {A X : Option Addr} {xs : List Int} {y : Int}
    (hs : a.eval s = .slice A n n) (hA : Sees elInt w B A n xs) (hx : a.eval x = .slice X 1 c) (hX : Sees elInt w C X 1 [y]) (hn : n ≤ 1048576)
    (h : ∀ v' w', Owns elInt w' w.heap.size 3 v' (xs ++ [y]) → Below w.heap.size w w' → wpList Try.prog ops Q rest (a.put o.dst v') w') : wpList Try.prog ops Q (o :: rest) a w := by
  obtain ⟨i0, hi, hz0, hz1, hz2⟩ := info_parts int_info
  have hlen := hA.len
  obtain ⟨b', o', rfl, _, _⟩ := hX.at_ (k := 0) (by decide)
  refine wpList_append_grows w hgd s x 27 ho 3 i0 (.int .i64 0) 1 8 Try.underlying27 hi hz0 hz1 hz2 rfl (by decide) A n n (xs.flatMap elInt.cells) hs (fun e => ?_) (by rw [flat_len, hlen]; rfl) (fun b e => ?_) ⟨b', o', none⟩ 1 c ([y].flatMap elInt.cells) hx rfl (sees_cells hX) (fun u hu => ?_) (by omega) (by unfold maxLen; omega) (by omega) (fun v' w' h1 h2 => h v' w' ?_ ?_)
  · rcases hA.2 with h0 | ⟨b, o, h0, _⟩
    · exact ⟨h0, h0⟩
    · rw [e] at h0; cases h0
  · subst e; exact sees_cells hA
  · obtain ⟨z, _, h2⟩ := List.mem_flatMap.1 hu
    exact elInt.one z u h2
  · unfold Owns
    rw [List.length_append, hlen, List.flatMap_append]
    exact h1
  · exact ⟨h2.os, h2.tape, h2.output, h2.size, fun k hk => h2.block k hk (fun e => by cases e)⟩
/-- A slice whose block is not the one that may have turned. -/
theorem Sees.apart {α : Type} {E : El α} {w w' : World} {B n g : Nat} {A : Option Addr} {xs : List α} (h : Sees E w B A n xs) (t : Touch (fun b => b = g) w w') (hne : ∀ b o, A = some ⟨b, o, none⟩ → b ≠ g) : Sees E w' w'.heap.size A n xs := by
  refine ⟨h.1, ?_⟩
  rcases h.2 with h0 | ⟨b, o, rfl, hb, hc⟩
  · exact .inl h0
  · rcases Nat.eq_zero_or_pos n with h0 | h0
    · exact .inl h0
    · have hk : ∀ k x, xs[k]? = some x → ∀ j u, (E.cells x)[j]? = some u → w'.cell? ⟨b, o + k * E.sz + j, none⟩ = some u := fun k x hx j u hu => by
        have h1 := hc k x hx j u hu
        exact (World.cell?_of_block (a := ⟨b, _, none⟩) (t.block b (World.block_lt_of_cell? w _ h1) (hne b o rfl))).trans h1
      obtain ⟨x, hx⟩ : ∃ x, xs[0]? = some x := ⟨xs[0]'(by rw [h.1]; exact h0), List.getElem?_eq_getElem _⟩
      have hj : 0 < (E.cells x).length := by rw [E.len]; exact E.pos
      exact .inr ⟨b, o, rfl, World.block_lt_of_cell? w' _ (hk 0 x hx 0 _ (List.getElem?_eq_getElem hj)), hk⟩
/-- What a visiting function does: it answers p, keeps I, and leaves what it was shown in the box gb. -/
structure Visit (n : Nat) (p : List Int → Bool) (gb : Nat) (I : World → Prop) (O : List Int → World → Prop) (F : FuncId) (cap : Array Value) : Prop where
  enter : ∀ args wr, (callFunc F args).run Try.prog wr = .ok (.enter F args) wr
  grow : ∀ w w', I w → Below w.heap.size w w' → I w'
  far : ∀ w, I w → gb < w.heap.size
  call : ∀ (w : World) (L : List Int) (A : Option Addr) (c : Nat), I w → Sees elInt w w.heap.size A L.length L → (∀ b o, A = some ⟨b, o, none⟩ → b ≠ gb) → lowL n L → L.length ≤ n → L.length ≤ c →
    Calls Try.prog F (#[.slice A L.length c] ++ cap) w fun e w' => e = .returned (.bool (p L)) ∧ I w' ∧ O L w' ∧ Touch (fun b => b = gb) w w'
section
variable {n : Nat} {p : List Int → Bool} {gb : Nat} {I : World → Prop} {O : List Int → World → Prop} {F : FuncId} {cap : Array Value}
set_option maxHeartbeats 4000000 in
set_option maxRecDepth 100000 in
theorem choices_any (V : Visit n p gb I O F cap) (hn : n ≤ 1000) : ∀ (c s : Nat) (L : List Int) (A : Option Addr) (cc : Nat) (w : World), L.length + c ≤ n → s ≤ 1000 → I w → Sees elInt w w.heap.size A L.length L → (∀ b o, A = some ⟨b, o, none⟩ → b ≠ gb) → lowL n L → L.length ≤ cc →
    Calls Try.prog 180 #[.int .i64 s, .int .i64 n, .int .i64 c, .slice A L.length cc, .func (.func F) #[] cap] w fun e w' => e = .returned (.bool (chooseL p n c s L).isSome) ∧ I w' ∧ Touch (fun b => b = gb) w w' ∧ ∀ R, chooseL p n c s L = some R → O R w' := by
  intro c
  induction c with
  | zero =>
    intro s L A cc w hlc hs hI hA hne hL hcc
    have hcall := V.enter
    have HC := hid (V.call w L A cc hI hA hne hL (by omega) hcc)
    have HR : Hid (chooseL p n 0 s L = if p L then some L else none) := rfl
    clear hI hA
    go_enter Try.func180, Try.ntmps180
    go_wp2_with fail
    refine HC.out.mono ?_
    rintro e w1 ⟨rfl, hI1, hO1, ht1⟩
    have HI := hid hI1
    have HO := hid hO1
    have HT := hid ht1
    clear hI1 hO1 ht1 hcall
    go_wp2_with fail
    go_ret
    refine ⟨?_, HI.out, HT.out, fun R hR => ?_⟩
    · rw [HR.out]; cases p L <;> rfl
    · rw [HR.out] at hR
      split at hR
      · injection hR with hR; rw [← hR]; exact HO.out
      · cases hR
  | succ c ih =>
    intro s L A cc w hlc hs hI hA hne hL hcc
    have hcall := V.enter
    obtain ⟨f, hf⟩ : ∃ f : Nat → Option (List Int), f = fun k => chooseL p n c (k + 1) (L ++ [(k : Int)]) := ⟨_, rfl⟩
    have HR : Hid (chooseL p n (c + 1) s L = firstO f s (n - s)) := by rw [hf]; rfl
    have HF : Hid (∀ k, f k = chooseL p n c (k + 1) (L ++ [(k : Int)])) := fun k => by rw [hf]
    have HI0 := hid hI
    have HA := hid hA
    have HNE := hid hne
    have HL := hid hL
    have HIH := hid ih
    have hz : (((c + 1 : Nat) : Int) == 0) = false := by simp; omega
    have hz2 : (((c : Nat) : Int) + 1 == 0) = false := by simp; omega
    have ic : IntKind.i64.wrap (((c + 1 : Nat) : Int) - 1) = (c : Int) := by rw [IntWalk.i64_in _ (by omega)]; omega
    clear hf hI hA hne hL ih
    go_enter Try.func180, Try.ntmps180
    go_wp2_with fail
    go_loopw [11] (fun i wr => ∃ k : Nat, s ≤ k ∧ k ≤ max s n ∧ i = .int .i64 k ∧ Hid (I wr) ∧ Hid (Touch (fun b => b = gb) w wr) ∧ Hid (firstO f s (n - s) = firstO f k (n - k))) (fun i _ => n - (intOf i).toNat)
    case atStart => exact ⟨s, Nat.le_refl _, by omega, rfl, HI0, Touch.refl _ _, rfl⟩
    case round =>
      clear HI0
      obtain ⟨k, hsk, hkn, rfl, HI, HT, HE⟩ := hrel
      by_cases hlt : k < n
      · have ik : (k : Int) < (n : Int) := by omega
        have iw : IntKind.i64.wrap ((k : Int) + 1) = ((k + 1 : Nat) : Int) := by rw [IntWalk.i64_in _ (by omega)]; omega
        have il : L.length ≤ cc := hcc
        have hA1 := hid (HA.out.apart HT.out HNE.out)
        have hb0 := bl_alloc (Below.refl wr.heap.size wr) (.cells #[.int .i64 k] 3)
        have hA2 := hid (hA1.out.grow hb0)
        have hgb := V.far wr HI.out
        go_wp2_with (first
          | (at_builtin; refine wpList_append_full rfl _ _ rfl rfl hA2.out rfl (show Sees elInt _ _ _ 1 [(k : Int)] from sees_new elInt _ _ _ _ rfl) (by omega) ?_)
          | go_in)
        intro v3 w3 ho3 hb3
        have hbz := bl_then hb0 (by simpa using hb3)
        obtain ⟨A3, c3, rfl, hcc3, _, hs3⟩ := ho3.form
        have hl3 : (L ++ [(k : Int)]).length = L.length + 1 := by simp
        have hne3 : ∀ b o, A3 = some ⟨b, o, none⟩ → b ≠ gb := fun b o e => by
          subst e
          have := (ho3.lies b rfl).1
          have h2 := hb0.size
          omega
        have hcx := HIH.out (k + 1) (L ++ [(k : Int)]) A3 c3 w3 (by rw [hl3]; omega) (by omega) (V.grow _ _ HI.out hbz) hs3 hne3 (lowL_add HL.out hlt) hcc3
        rw [show (((k + 1 : Nat) : Int)) = (k : Int) + 1 by omega, hl3] at hcx
        have HCX := hid hcx
        clear ho3 hs3 hA1 hA2 hb3 hne3 hcx
        go_wp2_with fail
        refine HCX.out.mono ?_
        rintro e w4 ⟨rfl, hI4, ht4, hO4⟩
        have HI4 := hid hI4
        have HT4 : Hid (Touch (fun b => b = gb) w w4) := (HT.out.then_ hbz).trans ht4
        have HO4 := hid hO4
        clear hI4 ht4 hO4 HCX hbz hb0
        cases gx : chooseL p n c (k + 1) (L ++ [(k : Int)]) with
        | none =>
          have HE2 : Hid (firstO f s (n - s) = firstO f (k + 1) (n - (k + 1))) := by
            unfold Hid
            rw [HE.out, show n - k = (n - (k + 1)) + 1 by omega]
            exact firstO_none (by rw [HF.out, gx])
          clear gx HO4 HE
          simp only [Option.isSome_none]
          go_wp2
          refine ⟨?_, by simp [intOf]; omega⟩
          first
            | exact ⟨k + 1, by omega, by omega, by go_num, HI4, HT4, HE2⟩
            | ((repeat apply Exists.intro); exact ⟨⟨k + 1, by omega, by omega, by go_num, HI4, HT4, HE2⟩, rfl⟩)
        | some R =>
          have HE2 : Hid (chooseL p n (c + 1) s L = some R) := by
            unfold Hid
            rw [HR.out, HE.out, show n - k = (n - (k + 1)) + 1 by omega]
            exact firstO_some (by rw [HF.out, gx])
          have HO5 := hid (HO4.out R gx)
          clear gx HO4 HE
          simp only [Option.isSome_some]
          go_wp2
          go_ret
          exact ⟨by rw [HE2.out]; rfl, HI4.out, HT4.out, fun R' hR' => by rw [HE2.out] at hR'; injection hR' with hR'; rw [← hR']; exact HO5.out⟩
      · have hk0 : n - k = 0 := by omega
        have HE2 : Hid (chooseL p n (c + 1) s L = none) := by unfold Hid; rw [HR.out, HE.out, hk0]; rfl
        clear hk0 HE
        go_wp2
        go_ret
        exact ⟨by rw [HE2.out]; rfl, HI.out, HT.out, fun R' hR' => by rw [HE2.out] at hR'; cases hR'⟩
end
end Go.Proofs.Ytgoegldffjfmdaa
/- slices.Clone at numbers, walked. Conditions: at most 1048576 numbers. -/
namespace Go.Proofs.Ytgoegldffjfmdaa
open Go.RowKit
set_option maxHeartbeats 1000000 in
set_option maxRecDepth 100000 in
theorem cloneI_any {B n c : Nat} {A : Option Addr} {xs : List Int} (w : World) (hA : Sees elInt w B A n xs) (hn : n ≤ 1048576) :
    Calls Try.prog 142 #[.slice A n c] w fun e w' => ∃ v, e = .returned v ∧ Owns elInt w' w.heap.size 3 v xs ∧ Below w.heap.size w w' := by
  have qT : ∀ (w : World) (a : Option Addr), (binOp .eql 27 (.slice a n c) (.slice none 0 0)).run Try.prog w = .ok (.bool a.isNone) w := fun w a => Lib.run_eql_slice_nil w _ _ a n c 0 0 Try.underlying27
  rcases A with _ | ad
  · have h0 : xs = [] := by
      rcases hA.2 with h | ⟨b, o, h, _⟩
      · exact List.eq_nil_of_length_eq_zero (by rw [hA.len, h])
      · cases h
    subst h0
    go_enter Try.func142, Try.ntmps142
    go_wp2
    go_ret
    exact ⟨_, rfl, World.ownsRow_nil _ _ _ _, Below.refl _ _⟩
  · obtain ⟨i0, hi, hz0, hz1, hz2⟩ := info_parts int_info
    have hS := (Led.nil w).empty elInt 3 w.heap.size rfl w.heap.size (Nat.le_refl _)
    go_enter Try.func142, Try.ntmps142
    go_wp2_with (first
      | (at_builtin; refine wpList_append_led rfl _ _ 27 rfl hS 0 rfl Try.underlying27 hi hz0 hz1 (by rw [hz2]; decide) rfl rfl rfl (hA.grow hS.bl) (by simp; omega) (by simp) ?_)
      | go_in)
    intro A' c' w1 hS1
    go_wp2
    go_ret
    exact ⟨_, rfl, hS1.own 0 rfl, hS1.bl⟩
end Go.Proofs.Ytgoegldffjfmdaa
/- impl.components: the components without some fibers, walked. Conditions: the fibers' ends are nodes; 2 nodes at least. -/
namespace Go.Proofs.Ytgoegldffjfmdaa
open Go.RowKit
section
variable {n c m d : Nat} {A A' : Option Addr} {xs : List ByteArray} {fs : List Fib}
/-- Fiber j is gone. -/
def goneF (l : List Int) (j : Nat) : Bool := hasB l (j : Int)
theorem goodB_ends (h : goodB xs fs = true) : endsB xs.length fs := fun i hi => by
  have h1 := goodB_fibB h (List.getElem_mem hi)
  have e : fibD fs i = fs[i] := getD_of (List.getElem?_eq_getElem hi)
  rw [e]
  unfold fibB at h1; simp at h1; omega
set_option maxHeartbeats 2000000 in
set_option maxRecDepth 100000 in
theorem components_any {B k c' : Nat} {G : Option Addr} {l : List Int} (w : World) (h : NetIs w A n c A' m d xs fs) (hv : Sees elInt w B G k l) (hkb : k ≤ 1048576) (he : endsB n fs) (hn0 : 0 < n) :
    Calls Try.prog 113 #[.agg #[.slice A n c, .slice A' m d], .slice G k c'] w fun e w' => ∃ v, e = .returned v ∧ Owns elInt w' w.heap.size 3 v (compL (goneF l) fs n) ∧ Below w.heap.size w w' := by
  obtain ⟨i0, hi, hz0, hz1, hz2⟩ := info_parts int_info
  have hlf := hid h.flen
  have hm := h.mle
  have hn := h.nle
  have HE := hid he
  have HV := hid hv
  have HF := hid h
  have hS := ((Led.nil w).blk_ w.heap.size rfl 34 #[.slice A n c, .slice A' m d]).empty elInt 3 (w.heap.size + 1) (by simp) w.heap.size (by omega)
  have HS : Hid (Led w ((w.alloc (.cells #[.slice A n c, .slice A' m d] 34)).alloc (.cells #[] 3)) [tOwns elInt w.heap.size 3 (.slice (some ⟨w.heap.size + 1, 0, none⟩) 0 0) (marks 0 0), tBlk w.heap.size 34 #[.slice A n c, .slice A' m d]]) := hS
  clear hS he hv h
  go_enter Try.func113, Try.ntmps113
  go_wp2_with fail
  go_loopw [5, 14] (fun V i wr => ∃ k : Nat, k ≤ n ∧ i = .int .i64 k ∧ Hid (Led w wr [tOwns elInt w.heap.size 3 V (marks 0 k), tBlk w.heap.size 34 #[.slice A n c, .slice A' m d]])) (fun _ i _ => n - (intOf i).toNat)
  case atStart => exact ⟨0, Nat.zero_le _, rfl, HS⟩
  case round =>
    clear HS
    obtain ⟨k, hk, rfl, HS⟩ := hrel
    by_cases hlt : k < n
    · have hml := hid (marks_len 0 k)
      obtain ⟨A1, c1, rfl, _⟩ := HS.out.form 0 rfl
      have HS2 := hid (HS.out.blk_ wr.heap.size rfl 3 #[.int .i64 k])
      have HM : Hid (marks 0 (k + 1) = marks 0 k ++ [(k : Int)]) := by unfold Hid; rw [marks_succ]; simp
      clear HS
      go_wp2_with (first
        | (at_builtin; refine wpList_append_led rfl _ _ 27 rfl HS2.out 1 rfl Try.underlying27 hi hz0 hz1 (by rw [hz2]; decide) rfl rfl rfl (show Sees elInt _ _ _ 1 [(k : Int)] from sees_new elInt _ _ _ _ rfl) (by rw [hml.out]; omega) HS2.out.bl.size ?_)
        | go_in)
      intro A2 c2 w2 hS3
      have HS3 := hid (hS3.drop 1)
      clear hS3 HS2
      go_wp2
      go_roundw
      case rel => exact ⟨k + 1, by omega, by go_num, by rw [HM.out]; exact HS3⟩
      case measure => simp [intOf]; omega
    · have hkn : k = n := by omega
      subst hkn
      obtain ⟨g, cV, rfl⟩ := HS.out.row_ 0 rfl (marks_len 0 k) hn0
      have p0 := HS.out.cell 1 0 rfl rfl
      have HS1 : Hid (Led w wr [tOwns elInt w.heap.size 3 (.slice (some ⟨g, 0, none⟩) k cV) (rndL (goneF l) fs k 0), tBlk w.heap.size 34 #[.slice A k c, .slice A' m d]]) := HS
      clear hlt HS
      go_wp2_with fail
      clear p0
      go_loopw [25] (fun i wr => ∃ r : Nat, r ≤ k ∧ i = .int .i64 r ∧ Hid (Led w wr [tOwns elInt w.heap.size 3 (.slice (some ⟨g, 0, none⟩) k cV) (rndL (goneF l) fs k r), tBlk w.heap.size 34 #[.slice A k c, .slice A' m d]])) (fun i _ => k - (intOf i).toNat)
      case atStart => exact ⟨0, Nat.zero_le _, rfl, HS1⟩
      case round =>
        clear HS1
        obtain ⟨r, hr, rfl, HS⟩ := hrel
        by_cases hlt : r < k
        · have p1 := HS.out.cell 1 1 rfl rfl
          obtain ⟨X, hX⟩ : ∃ X, X = rndL (goneF l) fs k r := ⟨_, rfl⟩
          have hXl : Hid (X.length = k) := by rw [hX]; exact rndL_len r
          have HN : Hid (rndL (goneF l) fs k (r + 1) = passL (goneF l) fs X) := by rw [hX]; rfl
          rw [← hX] at HS
          clear hX
          have HS1 : Hid (Led w wr [tOwns elInt w.heap.size 3 (.slice (some ⟨g, 0, none⟩) k cV) (passTo (goneF l) fs X 0), tBlk w.heap.size 34 #[.slice A k c, .slice A' m d]]) := HS
          clear HS
          go_wp2_with fail
          clear p1
          go_loopw [30] (fun i wr => ∃ j : Nat, j ≤ m ∧ i = .int .i64 j ∧ Hid (Led w wr [tOwns elInt w.heap.size 3 (.slice (some ⟨g, 0, none⟩) k cV) (passTo (goneF l) fs X j), tBlk w.heap.size 34 #[.slice A k c, .slice A' m d]])) (fun i _ => m - (intOf i).toNat)
          case atStart => exact ⟨0, Nat.zero_le _, rfl, HS1⟩
          case round =>
            clear HS1
            obtain ⟨j, hj, rfl, HS⟩ := hrel
            by_cases hlt2 : j < m
            · obtain ⟨b, o, rfl, _, hc⟩ := HF.out.fibs.at_ hlt2
              obtain ⟨f, hfj⟩ := get_of (k := j) hlf.out hlt2
              have f0 := bl_cell HS.out.bl (hc j f hfj 0 _ rfl)
              have f1 := bl_cell HS.out.bl (hc j f hfj 1 _ rfl)
              have f2 := bl_cell HS.out.bl (hc j f hfj 2 _ rfl)
              have f3 := bl_cell HS.out.bl (hc j f hfj 3 _ rfl)
              simp only [elFib, Nat.add_zero] at f0 f1 f2 f3
              have hfd : fibD fs j = f := getD_of hfj
              have hends := HE.out j (by rw [hlf.out]; exact hlt2)
              rw [hfd] at hends
              obtain ⟨a, ha⟩ : ∃ a : Nat, f.a = (a : Int) := ⟨f.a.toNat, by omega⟩
              obtain ⟨e, hb⟩ : ∃ e : Nat, f.b = (e : Int) := ⟨f.b.toNat, by omega⟩
              rw [ha, hb] at hends
              rw [ha] at f0
              rw [hb] at f1
              have HQ : Hid (goneF l j = hasB l (j : Int)) := rfl
              have HP : Hid (goneF l j = false → passTo (goneF l) fs X (j + 1) = ((passTo (goneF l) fs X j).set a (min (valL (passTo (goneF l) fs X j) a) (valL (passTo (goneF l) fs X j) e))).set e (min (valL (passTo (goneF l) fs X j) a) (valL (passTo (goneF l) fs X j) e))) := fun hq => by
                rw [passTo_no hq, hfd]; unfold joinF; rw [ha, hb]; simp
              have HP2 : Hid (goneF l j = true → passTo (goneF l) fs X (j + 1) = passTo (goneF l) fs X j) := fun hq => by rw [passTo_succ, hq]; rfl
              have hpl : Hid ((passTo (goneF l) fs X j).length = k) := (passTo_len X j).trans hXl.out
              generalize passTo (goneF l) fs X j = Y at *
              have hS1 := HS.out.blk_ wr.heap.size rfl 80 #[.int .i64 (a : Int), .int .i64 (e : Int), .int .i64 f.len, .int .i64 f.risk]
              have ia : (a : Int) < (k : Int) := by omega
              have ie : (e : Int) < (k : Int) := by omega
              have iae : a ≠ e := by omega
              clear hc hfj hfd ha hb hends
              go_wp2_with fail
              refine (containsI_any (j : Int) _ (HV.out.grow hS1.bl) (by unfold maxLen; omega)).mono ?_
              rintro e5 w5 ⟨rfl, rfl⟩
              cases gk : hasB l (j : Int)
              · have HR := hid (HP.out (by rw [HQ.out]; exact gk))
                have v0 := hS1.int_at 1 rfl (j := a) (by rw [hpl.out]; omega)
                have v1 := hS1.int_at 1 rfl (j := e) (by rw [hpl.out]; omega)
                have y0 := hS1.int_free 1 rfl a
                have y1 := hS1.int_free 1 rfl e
                clear HP HP2 HS
                go_wp2_with fail
                generalize wr.alloc (.cells #[.int .i64 (a : Int), .int .i64 (e : Int), .int .i64 f.len, .int .i64 f.risk] 80) = W0 at *
                have C0 : ∀ w', Cls W0 w' → w'.cell? ⟨wr.heap.size, 0, none⟩ = some (.int .i64 (a : Int)) := fun _ h => h.cell (hS1.cell 0 0 rfl rfl)
                have C1 : ∀ w', Cls W0 w' → w'.cell? ⟨wr.heap.size, 1, none⟩ = some (.int .i64 (e : Int)) := fun _ h => h.cell (hS1.cell 0 1 rfl rfl)
                have V0 : ∀ w', Cls W0 w' → w'.cell? ⟨g, a, none⟩ = some (.int .i64 (valL Y a)) := fun _ h => h.cell v0
                have V1 : ∀ w', Cls W0 w' → w'.cell? ⟨g, e, none⟩ = some (.int .i64 (valL Y e)) := fun _ h => h.cell v1
                clear v0 v1 y0 y1
                rcases Int.lt_or_le (valL Y e) (valL Y a) with hle | hle
                · have hx : min (valL Y a) (valL Y e) = valL Y e := by omega
                  rw [hx] at HR
                  clear hx
                  refine region_cls (by kernel_rfl) (by kernel_rfl) ?_
                  repeat (first
                    | ((with_reducible refine quiet_pos ?_ (fun K hK => ?_))
                       · rfl
                       apply Exists.intro
                       refine ⟨fun w' hw' => ?_, ?_⟩
                       · go_simp
                         with_reducible rfl
                       simp only [Act.put, List.setIfInBounds_toArray, List.set_cons_zero, List.set_cons_succ]
                       refine hK _ ?_; clear hK K)
                    | ((with_reducible refine quiet_neg ?_ (fun K hK => ?_))
                       · rfl
                       simp only [Act.put, List.setIfInBounds_toArray, List.set_cons_zero, List.set_cons_succ]
                       refine hK _ ?_; clear hK K))
                  with_reducible refine wpQuiet_nil ?_
                  intro wz hwz'
                  have hS2 := hS1.step hwz'
                  clear C0 C1 V0 V1 hwz' hS1
                  have q0 := hS2.cell 0 0 rfl rfl
                  have q1 := hS2.cell 0 1 rfl rfl
                  have v0 := hS2.int_at 1 rfl (j := a) (by rw [hpl.out]; omega)
                  have v1 := hS2.int_at 1 rfl (j := e) (by rw [hpl.out]; omega)
                  have y0 := hS2.int_free 1 rfl a
                  have y1 := hS2.int_free 1 rfl e
                  have hS3 := hS2.int_set 1 rfl (j := a) (by rw [hpl.out]; omega) (valL Y e)
                  have q2 := hS3.cell 0 0 rfl rfl
                  have q3 := hS3.cell 0 1 rfl rfl
                  have v2 := hS3.int_at 1 rfl (j := e) (by simp; rw [hpl.out]; omega)
                  have y2 := hS3.int_free 1 rfl e
                  clear hS3
                  have HS2 : Hid (∀ u, Led w (((wz.setCell ⟨g, a, none⟩ (.int .i64 (valL Y e))).setCell ⟨g, e, none⟩ (.int .i64 (valL Y e))).drewN u) _) := fun u => (((hS2.int_set 1 rfl (j := a) (by rw [hpl.out]; omega) (valL Y e)).int_set 1 rfl (j := e) (by simp; rw [hpl.out]; omega) (valL Y e)).drop 1).step (bl_drewN (Below.refl _ _) u)
                  clear hS2
                  go_wp2_with fail
                  go_region
                  all_goals
                    go_wp2_with fail
                    refine ⟨?_, by simp [intOf]; omega⟩
                    first
                      | exact ⟨j + 1, by omega, by go_num, by rw [HR.out]; exact HS2.out 1⟩
                      | ((repeat apply Exists.intro); exact ⟨⟨j + 1, by omega, by go_num, by rw [HR.out]; exact HS2.out 1⟩, rfl⟩)
                · have hx : min (valL Y a) (valL Y e) = valL Y a := by omega
                  rw [hx] at HR
                  clear hx
                  refine region_cls (by kernel_rfl) (by kernel_rfl) ?_
                  repeat (first
                    | ((with_reducible refine quiet_pos ?_ (fun K hK => ?_))
                       · rfl
                       apply Exists.intro
                       refine ⟨fun w' hw' => ?_, ?_⟩
                       · go_simp
                         with_reducible rfl
                       simp only [Act.put, List.setIfInBounds_toArray, List.set_cons_zero, List.set_cons_succ]
                       refine hK _ ?_; clear hK K)
                    | ((with_reducible refine quiet_neg ?_ (fun K hK => ?_))
                       · rfl
                       simp only [Act.put, List.setIfInBounds_toArray, List.set_cons_zero, List.set_cons_succ]
                       refine hK _ ?_; clear hK K))
                  with_reducible refine wpQuiet_nil ?_
                  intro wz hwz'
                  have hS2 := hS1.step hwz'
                  clear C0 C1 V0 V1 hwz' hS1
                  have q0 := hS2.cell 0 0 rfl rfl
                  have q1 := hS2.cell 0 1 rfl rfl
                  have v0 := hS2.int_at 1 rfl (j := a) (by rw [hpl.out]; omega)
                  have v1 := hS2.int_at 1 rfl (j := e) (by rw [hpl.out]; omega)
                  have y0 := hS2.int_free 1 rfl a
                  have y1 := hS2.int_free 1 rfl e
                  have hS3 := hS2.int_set 1 rfl (j := a) (by rw [hpl.out]; omega) (valL Y a)
                  have q2 := hS3.cell 0 0 rfl rfl
                  have q3 := hS3.cell 0 1 rfl rfl
                  have v2 := hS3.int_at 1 rfl (j := e) (by simp; rw [hpl.out]; omega)
                  have y2 := hS3.int_free 1 rfl e
                  clear hS3
                  have HS2 : Hid (∀ u, Led w (((wz.setCell ⟨g, a, none⟩ (.int .i64 (valL Y a))).setCell ⟨g, e, none⟩ (.int .i64 (valL Y a))).drewN u) _) := fun u => (((hS2.int_set 1 rfl (j := a) (by rw [hpl.out]; omega) (valL Y a)).int_set 1 rfl (j := e) (by simp; rw [hpl.out]; omega) (valL Y a)).drop 1).step (bl_drewN (Below.refl _ _) u)
                  clear hS2
                  go_wp2_with fail
                  go_region
                  all_goals
                    go_wp2_with fail
                    refine ⟨?_, by simp [intOf]; omega⟩
                    first
                      | exact ⟨j + 1, by omega, by go_num, by rw [HR.out]; exact HS2.out 1⟩
                      | ((repeat apply Exists.intro); exact ⟨⟨j + 1, by omega, by go_num, by rw [HR.out]; exact HS2.out 1⟩, rfl⟩)
              · have HR := hid (HP2.out (by rw [HQ.out]; exact gk))
                have HS2 := hid (hS1.drop 1)
                clear hS1 HP HP2 HS
                go_wp2
                refine ⟨?_, by simp [intOf]; omega⟩
                first
                  | exact ⟨j + 1, by omega, by go_num, by rw [HR.out]; exact HS2⟩
                  | ((repeat apply Exists.intro); exact ⟨⟨j + 1, by omega, by go_num, by rw [HR.out]; exact HS2⟩, rfl⟩)
            · have hjm : j = m := by omega
              have HR : Hid (rndL (goneF l) fs k (r + 1) = passTo (goneF l) fs X j) := by unfold Hid; rw [HN.out, hjm, ← hlf.out]; rfl
              clear hjm
              go_wp2
              refine ⟨?_, by simp [intOf]; omega⟩
              first
                | exact ⟨r + 1, by omega, by go_num, by rw [HR.out]; exact HS⟩
                | ((repeat apply Exists.intro); exact ⟨⟨r + 1, by omega, by go_num, by rw [HR.out]; exact HS⟩, rfl⟩)
        · have hrk : r = k := by omega
          have HR : Hid (compL (goneF l) fs k = rndL (goneF l) fs k r) := by rw [hrk]; rfl
          clear hrk
          go_wp2
          go_ret
          exact ⟨_, rfl, by rw [HR.out]; exact HS.out.own 0 rfl, HS.out.bl⟩
end
end Go.Proofs.Ytgoegldffjfmdaa
/- Sets of fibers as numbers: the reference's l6Mask, walked. Conditions: the numbers are below 20. -/
namespace Go.Proofs.Ytgoegldffjfmdaa
open Go.RowKit
/-- The set as a number. -/
def maskTo (l : List Int) : Nat → Nat
  | 0 => 0
  | k + 1 => maskTo l k ||| 2 ^ (l.getD k 0).toNat
def maskN (l : List Int) : Nat := maskTo l l.length
theorem maskTo_bit {l : List Int} (h : ∀ x ∈ l, 0 ≤ x) (i : Nat) : ∀ k, k ≤ l.length → (maskTo l k).testBit i = decide ((i : Int) ∈ l.take k) := by
  intro k
  induction k with
  | zero => intro _; simp [maskTo]
  | succ k ih =>
    intro hk
    have hkl : k < l.length := by omega
    have e : l.take (k + 1) = l.take k ++ [l[k]] := by rw [List.take_add_one, List.getElem?_eq_getElem hkl]; rfl
    have hx := h _ (List.getElem_mem hkl)
    show (maskTo l k ||| 2 ^ (l.getD k 0).toNat).testBit i = _
    rw [Nat.testBit_or, ih (by omega), Nat.testBit_two_pow, e, getD_of (List.getElem?_eq_getElem hkl)]
    rw [Bool.eq_iff_iff, Bool.or_eq_true, decide_eq_true_eq, decide_eq_true_eq, decide_eq_true_eq, List.mem_append, List.mem_singleton]
    constructor
    · intro h1
      rcases h1 with h1 | h1
      · exact Or.inl h1
      · exact Or.inr (by omega)
    · intro h1
      rcases h1 with h1 | h1
      · exact Or.inl h1
      · exact Or.inr (by omega)
theorem maskN_bit {l : List Int} (h : ∀ x ∈ l, 0 ≤ x) (i : Nat) : (maskN l).testBit i = hasB l (i : Int) := by
  unfold maskN
  rw [maskTo_bit h i _ (Nat.le_refl _), List.take_length, Bool.eq_iff_iff, hasB_iff]
  simp
theorem maskTo_lt {l : List Int} (h : ∀ x ∈ l, 0 ≤ x ∧ x < 20) : ∀ k, k ≤ l.length → maskTo l k < 2 ^ 20 := by
  intro k
  induction k with
  | zero => intro _; simp [maskTo]
  | succ k ih =>
    intro hk
    have hkl : k < l.length := by omega
    have hx := h _ (List.getElem_mem hkl)
    refine Nat.or_lt_two_pow (ih (by omega)) ?_
    rw [getD_of (List.getElem?_eq_getElem hkl)]
    exact Nat.pow_lt_pow_right (by decide) (by omega)
theorem ofInt_small {a : Nat} (h : a < 2 ^ 62) : (BitVec.ofInt 64 (a : Int)).toNat = a := by
  rw [BitVec.ofInt_natCast, BitVec.toNat_ofNat]; exact Nat.mod_eq_of_lt (by omega)
theorem wrap_small {a : Nat} (h : a < 2 ^ 62) : IntKind.i64.wrap (a : Int) = (a : Int) := IntWalk.i64_in _ (by omega)
/-- One bit more. -/
theorem bits_or_n {M N : Nat} (hM : M < 2 ^ 20) (hN : N < 2 ^ 20) : Go.bits .or .i64 (M : Int) (N : Int) = ((M ||| N : Nat) : Int) := by
  have h3 : M ||| N < 2 ^ 20 := Nat.or_lt_two_pow hM hN
  show IntKind.i64.wrap ((BitVec.ofInt 64 (M : Int) ||| BitVec.ofInt 64 (N : Int)).toNat : Int) = _
  rw [BitVec.toNat_or, ofInt_small (by omega), ofInt_small (by omega)]
  exact wrap_small (by omega)
/-- Is bit i set? -/
theorem bits_and_one {M : Nat} (hM : M < 2 ^ 20) (i : Nat) : Go.bits .and .i64 ((M / 2 ^ i : Nat) : Int) 1 = if M.testBit i then 1 else 0 := by
  have h2 : M / 2 ^ i ≤ M := Nat.div_le_self _ _
  have h3 : (M / 2 ^ i) &&& 1 = (M.testBit i).toNat := by
    rw [Nat.testBit_eq_decide_div_mod_eq, Nat.and_one_is_mod]
    have : M / 2 ^ i % 2 = 0 ∨ M / 2 ^ i % 2 = 1 := by omega
    rcases this with h | h <;> simp [h]
  show IntKind.i64.wrap ((BitVec.ofInt 64 ((M / 2 ^ i : Nat) : Int) &&& BitVec.ofInt 64 ((1 : Nat) : Int)).toNat : Int) = _
  rw [BitVec.toNat_and, ofInt_small (by omega), ofInt_small (by omega), h3]
  cases M.testBit i <;> rfl
set_option maxHeartbeats 1000000 in
set_option maxRecDepth 100000 in
theorem mask_any {B c : Nat} {A : Option Addr} {l : List Int} (w : World) (hA : Sees elInt w B A l.length l) (hl : ∀ x ∈ l, 0 ≤ x ∧ x < 20) (hn : l.length ≤ 1048576) :
    Calls Try.prog 108 #[.slice A l.length c] w fun e w' => e = .returned (.int .i64 ((maskN l : Nat) : Int)) ∧ w = w' := by
  have HL := hid hl
  have HB := hid (maskTo_lt hl)
  clear hl
  go_enter Try.func108, Try.ntmps108
  go_wp2
  go_loop [3, 4] (fun t i => ∃ (k M : Nat), k ≤ l.length ∧ i = .int .i64 k ∧ t = .int .i64 (M : Int) ∧ Hid (M = maskTo l k)) (fun _ i => l.length - (intOf i).toNat)
  case atStart => exact ⟨0, 0, Nat.zero_le _, rfl, rfl, rfl⟩
  case round =>
    obtain ⟨k, M, hk, rfl, rfl, hM⟩ := hrel
    by_cases hlt : k < l.length
    · obtain ⟨b, o, rfl, _, hc⟩ := hA.at_ hlt
      obtain ⟨x, hxk⟩ := get_of (k := k) rfl hlt
      have hx := HL.out x (List.mem_of_getElem? hxk)
      obtain ⟨j, rfl⟩ : ∃ j : Nat, x = (j : Int) := ⟨x.toNat, by omega⟩
      have e0 := hc k _ hxk 0 _ rfl
      simp only [elInt, Nat.mul_one, Nat.add_zero] at e0
      have hMb : M < 2 ^ 20 := by rw [hM.out]; exact HB.out k (by omega)
      have hj : (2 : Nat) ^ j < 2 ^ 20 := Nat.pow_lt_pow_right (by decide) (by omega)
      have HN : Hid (maskTo l (k + 1) = M ||| 2 ^ j) := by
        show maskTo l k ||| 2 ^ (l.getD k 0).toNat = _
        rw [getD_of hxk, ← hM.out]; simp
      have HO := hid (bits_or_n hMb hj)
      clear hc hxk hM
      have hw : wrap64 ((2 : Int) ^ j) = ((2 ^ j : Nat) : Int) := by
        have e : ((2 : Int) ^ j) = ((2 ^ j : Nat) : Int) := by simp
        rw [e]
        have h62 : 2 ^ j < 4611686018427387904 := Nat.lt_trans hj (by decide)
        generalize 2 ^ j = y at *
        exact IntWalk.wrap64_in _ (by omega)
      have HW := hid hw
      clear hw
      go_wp2
      exact ⟨⟨k + 1, M ||| 2 ^ j, by omega, by go_num, by rw [HW.out, HO.out], HN.out.symm⟩, by simp [intOf]; omega⟩
    · have hkl : k = l.length := by omega
      have HE : Hid (maskN l = M) := by rw [hM.out, hkl]; rfl
      clear hkl hM
      go_wp2
      go_ret
      exact ⟨by rw [HE.out]; rfl, rfl⟩
end Go.Proofs.Ytgoegldffjfmdaa
/- spec.l6Labels: the reference's components, walked. Conditions: the fibers' ends are nodes; 2 nodes at least; at most 20 fibers. -/
namespace Go.Proofs.Ytgoegldffjfmdaa
open Go.RowKit
set_option maxRecDepth 100000 in
theorem least_any (a b : Int) (w : World) : Calls Try.prog 207 #[.int .i64 a, .int .i64 b] w fun e w' => e = .returned (.int .i64 (min a b)) ∧ w = w' := by
  by_cases h : a < b
  · have H : Hid (min a b = a) := by unfold Hid; omega
    go_enter Try.func207, Try.ntmps207
    go_wp2
    go_ret
    exact ⟨by rw [H.out]; rfl, rfl⟩
  · have H : Hid (min a b = b) := by unfold Hid; omega
    go_enter Try.func207, Try.ntmps207
    go_wp2
    go_ret
    exact ⟨by rw [H.out]; rfl, rfl⟩
section
variable {n c m d : Nat} {A A' : Option Addr} {xs : List ByteArray} {fs : List Fib}
set_option maxHeartbeats 4000000 in
set_option maxRecDepth 100000 in
theorem labels_any (M : Nat) (w : World) (h : NetIs w A n c A' m d xs fs) (hM : M < 2 ^ 20) (he : endsB n fs) (hn0 : 0 < n) (hm20 : m ≤ 20) :
    Calls Try.prog 189 #[.agg #[.slice A n c, .slice A' m d], .int .i64 (M : Int)] w fun e w' => ∃ v, e = .returned v ∧ Owns elInt w' w.heap.size 3 v (compL (fun i => M.testBit i) fs n) ∧ Below w.heap.size w w' := by
  obtain ⟨i0, hi, hz0, hz1, hz2⟩ := info_parts int_info
  have hlf := hid h.flen
  have hn := h.nle
  have HE := hid he
  have HF := hid h
  have HMB := hid hM
  have hS := ((Led.nil w).blk_ w.heap.size rfl 34 #[.slice A n c, .slice A' m d]).empty elInt 3 (w.heap.size + 1) (by simp) w.heap.size (by omega)
  have HS : Hid (Led w ((w.alloc (.cells #[.slice A n c, .slice A' m d] 34)).alloc (.cells #[] 3)) [tOwns elInt w.heap.size 3 (.slice (some ⟨w.heap.size + 1, 0, none⟩) 0 0) (marks 0 0), tBlk w.heap.size 34 #[.slice A n c, .slice A' m d]]) := hS
  clear hS he h hM
  go_enter Try.func189, Try.ntmps189
  go_wp2_with fail
  go_loopw [5, 6] (fun V i wr => ∃ k : Nat, k ≤ n ∧ i = .int .i64 k ∧ Hid (Led w wr [tOwns elInt w.heap.size 3 (V) (marks 0 k), tBlk w.heap.size 34 #[.slice A n c, .slice A' m d]])) (fun _ i _ => n - (intOf i).toNat)
  case atStart => exact ⟨0, Nat.zero_le _, rfl, HS⟩
  case round =>
    clear HS
    obtain ⟨k, hk, rfl, HS⟩ := hrel
    have p0 := HS.out.cell 1 0 rfl rfl
    by_cases hlt : k < n
    · have hml := hid (marks_len 0 k)
      obtain ⟨A1, c1, rfl, _⟩ := HS.out.form 0 rfl
      have HS2 := hid (HS.out.blk_ wr.heap.size rfl 3 #[.int .i64 k])
      have HM : Hid (marks 0 (k + 1) = marks 0 k ++ [(k : Int)]) := by unfold Hid; rw [marks_succ]; simp
      clear HS
      go_wp2_with (first
        | (at_builtin; refine wpList_append_led rfl _ _ 27 rfl HS2.out 1 rfl Try.underlying27 hi hz0 hz1 (by rw [hz2]; decide) rfl rfl rfl (show Sees elInt _ _ _ 1 [(k : Int)] from sees_new elInt _ _ _ _ rfl) (by rw [hml.out]; omega) HS2.out.bl.size ?_)
        | go_in)
      intro A2 c2 w2 hS3
      have HS3 := hid (hS3.drop 1)
      clear hS3 HS2 p0
      go_wp2
      go_roundw
      case rel => exact ⟨k + 1, by omega, by go_num, by rw [HM.out]; exact HS3⟩
      case measure => simp [intOf]; omega
    · have hkn : n = k := by omega
      subst hkn
      obtain ⟨g, cV, rfl⟩ := HS.out.row_ 0 rfl (marks_len 0 n) hn0
      have HS1 : Hid (Led w wr [tOwns elInt w.heap.size 3 (.slice (some ⟨g, 0, none⟩) n cV) (rndL (fun i => M.testBit i) fs n 0), tBlk w.heap.size 34 #[.slice A n c, .slice A' m d]]) := HS
      clear hlt HS
      go_wp2_with fail
      clear p0
      go_loopg [7] (n + 2) (fun gk b wr => ∃ (r : Nat) (more : Bool), b = .bool more ∧ r + gk = n + 2 ∧ Hid (more = true → r ≤ n) ∧ Hid (more = false → rndL (fun i => M.testBit i) fs n r = compL (fun i => M.testBit i) fs n) ∧ Hid (Led w wr [tOwns elInt w.heap.size 3 (.slice (some ⟨g, 0, none⟩) n cV) (rndL (fun i => M.testBit i) fs n r), tBlk w.heap.size 34 #[.slice A n c, .slice A' m d]]))
      case atStart => exact ⟨0, true, rfl, by omega, (show true = true → 0 ≤ n from fun _ => Nat.zero_le _), (show true = false → _ from fun h => Bool.noConfusion h), HS1⟩
      case round =>
        clear HS1
        obtain ⟨r, more, rfl, hrg, hm1, hm2, HS⟩ := hrel
        cases more
        case false =>
          have HR := hid (hm2.out rfl)
          clear hm1 hm2
          go_wp2
          go_ret
          exact ⟨_, rfl, by rw [← HR.out]; exact HS.out.own 0 rfl, HS.out.bl⟩
        case true =>
          have hrn := hm1.out rfl
          clear hm1 hm2
          obtain ⟨X, hX⟩ : ∃ X, X = rndL (fun i => M.testBit i) fs n r := ⟨_, rfl⟩
          have hXl : Hid (X.length = n) := by rw [hX]; exact rndL_len r
          have HN : Hid (rndL (fun i => M.testBit i) fs n (r + 1) = passL (fun i => M.testBit i) fs X) := by rw [hX]; rfl
          rw [← hX] at HS
          have HX := hid hX
          clear hX
          have HS1 : Hid (Led w wr [tOwns elInt w.heap.size 3 (.slice (some ⟨g, 0, none⟩) n cV) (passTo (fun i => M.testBit i) fs X 0), tBlk w.heap.size 34 #[.slice A n c, .slice A' m d]]) := HS
          clear HS
          go_wp2_with fail
          go_loopw [7, 8] (fun b i wr => ∃ j : Nat, j ≤ m ∧ i = .int .i64 j ∧ b = .bool (chgB (fun i => M.testBit i) fs X j) ∧ Hid (Led w wr [tOwns elInt w.heap.size 3 (.slice (some ⟨g, 0, none⟩) n cV) (passTo (fun i => M.testBit i) fs X j), tBlk w.heap.size 34 #[.slice A n c, .slice A' m d]])) (fun _ i _ => m - (intOf i).toNat)
          case atStart => exact ⟨0, Nat.zero_le _, rfl, rfl, HS1⟩
          case round =>
            clear HS1
            obtain ⟨j, hj, rfl, rfl, HS⟩ := hrel
            have p1 := HS.out.cell 1 1 rfl rfl
            obtain ⟨ch, hch⟩ : ∃ ch, ch = chgB (fun i => M.testBit i) fs X j := ⟨_, rfl⟩
            rw [← hch]
            have HCH := hid hch
            clear hch
            by_cases hlt2 : j < m
            · obtain ⟨b, o, rfl, _, hc⟩ := HF.out.fibs.at_ hlt2
              obtain ⟨f, hfj⟩ := get_of (k := j) hlf.out hlt2
              have f0 := bl_cell HS.out.bl (hc j f hfj 0 _ rfl)
              have f1 := bl_cell HS.out.bl (hc j f hfj 1 _ rfl)
              simp only [elFib, Nat.add_zero] at f0 f1
              have hfd : fibD fs j = f := getD_of hfj
              have hends := HE.out j (by rw [hlf.out]; exact hlt2)
              rw [hfd] at hends
              obtain ⟨a, ha⟩ : ∃ a : Nat, f.a = (a : Int) := ⟨f.a.toNat, by omega⟩
              obtain ⟨e, hb⟩ : ∃ e : Nat, f.b = (e : Int) := ⟨f.b.toNat, by omega⟩
              rw [ha, hb] at hends
              rw [ha] at f0
              rw [hb] at f1
              have ia : (a : Int) < (n : Int) := by omega
              have ie : (e : Int) < (n : Int) := by omega
              have ij : (j : Int) < (m : Int) := by omega
              have P1 : ∀ w', Cls wr w' → w'.cell? ⟨w.heap.size, 1, none⟩ = some (.slice (some ⟨b, o, none⟩) m d) := fun _ h => h.cell p1
              have F0 : ∀ w', Cls wr w' → w'.cell? ⟨b, o + j * 4, none⟩ = some (.int .i64 (a : Int)) := fun _ h => h.cell f0
              have F1 : ∀ w', Cls wr w' → w'.cell? ⟨b, o + j * 4 + 1, none⟩ = some (.int .i64 (e : Int)) := fun _ h => h.cell f1
              clear hc hfj f0 f1
              go_wp2_with fail
              refine region_cls (by kernel_rfl) (by kernel_rfl) ?_
              repeat (first
                | ((with_reducible refine quiet_pos ?_ (fun K hK => ?_))
                   · rfl
                   apply Exists.intro
                   refine ⟨fun w' hw' => ?_, ?_⟩
                   · go_simp
                     with_reducible rfl
                   simp only [Act.put, List.setIfInBounds_toArray, List.set_cons_zero, List.set_cons_succ]
                   refine hK _ ?_; clear hK K)
                | ((with_reducible refine quiet_neg ?_ (fun K hK => ?_))
                   · rfl
                   simp only [Act.put, List.setIfInBounds_toArray, List.set_cons_zero, List.set_cons_succ]
                   refine hK _ ?_; clear hK K))
              with_reducible refine wpQuiet_nil ?_
              intro wz hwz'
              go_wp2_with fail
              have hS := HS.out.step hwz'
              clear HS P1 F0 F1 hwz' p1
              have hMB := HMB.out
              have iu : IntKind.u64.wrap (j : Int) = (j : Int) := by rw [IntKind.wrap_u64]; omega
              have imn : min j 64 = j := by omega
              have hdv : ((M : Int) / 2 ^ j) = ((M / 2 ^ j : Nat) : Int) := by simp
              have ib := bits_and_one hMB j
              rw [← hdv] at ib
              clear hdv
              cases gb : M.testBit j
              · rw [gb] at ib
                simp only [Bool.false_eq_true, if_false] at ib
                have hpl : Hid ((passTo (fun i => M.testBit i) fs X j).length = n) := (passTo_len X j).trans hXl.out
                have HP : Hid (passTo (fun i => M.testBit i) fs X (j + 1) = joinF f (passTo (fun i => M.testBit i) fs X j)) := by unfold Hid; rw [passTo_no gb, hfd]
                have HC2 : Hid (chgB (fun i => M.testBit i) fs X (j + 1) = (ch || !(valL (passTo (fun i => M.testBit i) fs X j) a == valL (passTo (fun i => M.testBit i) fs X j) e))) := by
                  show (chgB (fun i => M.testBit i) fs X j || (!(M.testBit j) && !(valL (passTo (fun i => M.testBit i) fs X j) (fibD fs j).a.toNat == valL (passTo (fun i => M.testBit i) fs X j) (fibD fs j).b.toNat))) = _
                  rw [← HCH.out, gb, hfd, ha, hb]; rfl
                generalize passTo (fun i => M.testBit i) fs X j = Y at *
                have v0 := hS.int_at 0 rfl (j := a) (by rw [hpl.out]; omega)
                have v1 := hS.int_at 0 rfl (j := e) (by rw [hpl.out]; omega)
                have V0 : ∀ w', Cls wz w' → w'.cell? ⟨g, a, none⟩ = some (.int .i64 (valL Y a)) := fun _ h => h.cell v0
                have V1 : ∀ w', Cls wz w' → w'.cell? ⟨g, e, none⟩ = some (.int .i64 (valL Y e)) := fun _ h => h.cell v1
                clear v0 v1
                cases gv : (valL Y a == valL Y e)
                · have HJ : Hid (joinF f Y = (Y.set a (min (valL Y a) (valL Y e))).set e (min (valL Y a) (valL Y e))) := by unfold Hid joinF; rw [ha, hb]; simp
                  have HQ : Hid (chgB (fun i => M.testBit i) fs X (j + 1) = true) := by unfold Hid; rw [HC2.out, gv]; simp
                  clear HC2 HCH hfd ha hb gb
                  refine region_cls (by kernel_rfl) (by kernel_rfl) ?_
                  repeat (first
                    | ((with_reducible refine quiet_pos ?_ (fun K hK => ?_))
                       · rfl
                       apply Exists.intro
                       refine ⟨fun w' hw' => ?_, ?_⟩
                       · go_simp
                         with_reducible rfl
                       simp only [Act.put, List.setIfInBounds_toArray, List.set_cons_zero, List.set_cons_succ]
                       refine hK _ ?_; clear hK K)
                    | ((with_reducible refine quiet_neg ?_ (fun K hK => ?_))
                       · rfl
                       simp only [Act.put, List.setIfInBounds_toArray, List.set_cons_zero, List.set_cons_succ]
                       refine hK _ ?_; clear hK K))
                  with_reducible refine wpQuiet_nil ?_
                  intro wz hwz'
                  have hS2 := hS.step hwz'
                  have V0' : ∀ w', Cls wz w' → w'.cell? ⟨g, a, none⟩ = some (.int .i64 (valL Y a)) := fun _ h => V0 _ (bl_then hwz' h)
                  have V1' : ∀ w', Cls wz w' → w'.cell? ⟨g, e, none⟩ = some (.int .i64 (valL Y e)) := fun _ h => V1 _ (bl_then hwz' h)
                  clear hS V0 V1 hwz'
                  go_wp2_with fail
                  refine region_cls (by kernel_rfl) (by kernel_rfl) ?_
                  repeat (first
                    | ((with_reducible refine quiet_pos ?_ (fun K hK => ?_))
                       · rfl
                       apply Exists.intro
                       refine ⟨fun w' hw' => ?_, ?_⟩
                       · go_simp
                         first
                           | with_reducible rfl
                           | (go_at_call 207; with_reducible exact hw'.same (least_any _ _ _))
                       simp only [Act.put, List.setIfInBounds_toArray, List.set_cons_zero, List.set_cons_succ]
                       refine hK _ ?_; clear hK K)
                    | ((with_reducible refine quiet_neg ?_ (fun K hK => ?_))
                       · rfl
                       simp only [Act.put, List.setIfInBounds_toArray, List.set_cons_zero, List.set_cons_succ]
                       refine hK _ ?_; clear hK K))
                  with_reducible refine wpQuiet_nil ?_
                  intro wz hwz'
                  have hS := hS2.step hwz'
                  clear hS2 V0' V1' hwz'
                  have v0 := hS.int_at 0 rfl (j := a) (by rw [hpl.out]; omega)
                  have v1 := hS.int_at 0 rfl (j := e) (by rw [hpl.out]; omega)
                  have y0 := hS.int_free 0 rfl a
                  have y1 := hS.int_free 0 rfl e
                  have hS3 := hS.int_set 0 rfl (j := a) (by rw [hpl.out]; omega) (min (valL Y a) (valL Y e))
                  have v2 := hS3.int_at 0 rfl (j := e) (by simp; rw [hpl.out]; omega)
                  have y2 := hS3.int_free 0 rfl e
                  have HS4 := hid (hS3.int_set 0 rfl (j := e) (by simp; rw [hpl.out]; omega) (min (valL Y a) (valL Y e)))
                  clear hS hS3
                  go_wp2_with fail
                  refine ⟨?_, by simp [intOf]; omega⟩
                  first
                    | exact ⟨j + 1, by omega, by go_num, by rw [HQ.out], by rw [HP.out, HJ.out]; exact HS4⟩
                    | ((repeat apply Exists.intro); exact ⟨⟨j + 1, by omega, by go_num, by rw [HQ.out], by rw [HP.out, HJ.out]; exact HS4⟩, rfl⟩)
                · have he2 : valL Y a = valL Y e := by simpa using gv
                  have HJ : Hid (joinF f Y = Y) := by
                    refine joinF_same (n := n) hpl.out (by omega) (by omega) (by omega) ?_
                    rw [ha, hb]; simpa using he2
                  have HQ : Hid (chgB (fun i => M.testBit i) fs X (j + 1) = ch) := by unfold Hid; rw [HC2.out, gv]; simp
                  clear HC2 HCH hfd ha hb he2 gb
                  refine region_cls (by kernel_rfl) (by kernel_rfl) ?_
                  repeat (first
                    | ((with_reducible refine quiet_pos ?_ (fun K hK => ?_))
                       · rfl
                       apply Exists.intro
                       refine ⟨fun w' hw' => ?_, ?_⟩
                       · go_simp
                         with_reducible rfl
                       simp only [Act.put, List.setIfInBounds_toArray, List.set_cons_zero, List.set_cons_succ]
                       refine hK _ ?_; clear hK K)
                    | ((with_reducible refine quiet_neg ?_ (fun K hK => ?_))
                       · rfl
                       simp only [Act.put, List.setIfInBounds_toArray, List.set_cons_zero, List.set_cons_succ]
                       refine hK _ ?_; clear hK K))
                  with_reducible refine wpQuiet_nil ?_
                  intro wz hwz'
                  have HS3 := hid (hS.step hwz')
                  clear hS
                  go_wp2_with fail
                  refine ⟨?_, by simp [intOf]; omega⟩
                  first
                    | exact ⟨j + 1, by omega, by go_num, by rw [HQ.out], by rw [HP.out, HJ.out]; exact HS3⟩
                    | ((repeat apply Exists.intro); exact ⟨⟨j + 1, by omega, by go_num, by rw [HQ.out], by rw [HP.out, HJ.out]; exact HS3⟩, rfl⟩)
              · rw [gb] at ib
                simp only [if_true] at ib
                have HP : Hid (passTo (fun i => M.testBit i) fs X (j + 1) = passTo (fun i => M.testBit i) fs X j) := by unfold Hid; rw [passTo_succ, gb]; rfl
                have HQ : Hid (chgB (fun i => M.testBit i) fs X (j + 1) = ch) := by
                  show (chgB (fun i => M.testBit i) fs X j || (!(M.testBit j) && _)) = _
                  rw [← HCH.out, gb]; simp
                clear HCH hfd ha hb gb
                refine region_cls (by kernel_rfl) (by kernel_rfl) ?_
                repeat (first
                  | ((with_reducible refine quiet_pos ?_ (fun K hK => ?_))
                     · rfl
                     apply Exists.intro
                     refine ⟨fun w' hw' => ?_, ?_⟩
                     · go_simp
                       with_reducible rfl
                     simp only [Act.put, List.setIfInBounds_toArray, List.set_cons_zero, List.set_cons_succ]
                     refine hK _ ?_; clear hK K)
                  | ((with_reducible refine quiet_neg ?_ (fun K hK => ?_))
                     · rfl
                     simp only [Act.put, List.setIfInBounds_toArray, List.set_cons_zero, List.set_cons_succ]
                     refine hK _ ?_; clear hK K))
                with_reducible refine wpQuiet_nil ?_
                intro wz hwz'
                have HS3 := hid (hS.step hwz')
                clear hS
                go_wp2_with fail
                refine ⟨?_, by simp [intOf]; omega⟩
                first
                  | exact ⟨j + 1, by omega, by go_num, by rw [HQ.out], by rw [HP.out]; exact HS3⟩
                  | ((repeat apply Exists.intro); exact ⟨⟨j + 1, by omega, by go_num, by rw [HQ.out], by rw [HP.out]; exact HS3⟩, rfl⟩)
            · have hjm : j = fs.length := by have := hlf.out; omega
              have HR : Hid (rndL (fun i => M.testBit i) fs n (r + 1) = passTo (fun i => M.testBit i) fs X j) := by unfold Hid; rw [HN.out, hjm]; rfl
              have HG1 : Hid (ch = true → r + 1 ≤ n) := fun hc => by
                apply Classical.byContradiction
                intro hlt
                have h1 := rndL_late (q := fun i => M.testBit i) HE.out (show n ≤ r by omega)
                rw [HN.out, ← HX.out] at h1
                exact chgB_yes hXl.out HE.out (Nat.le_of_eq hjm) (by rw [← HCH.out]; exact hc) h1
              have HG2 : Hid (ch = false → rndL (fun i => M.testBit i) fs n (r + 1) = compL (fun i => M.testBit i) fs n) := fun hc => by
                have h1 := chgB_no (q := fun i => M.testBit i) hXl.out HE.out (Nat.le_of_eq hjm) (by rw [← HCH.out]; exact hc)
                have h2 : rndL (fun i => M.testBit i) fs n (r + 1) = rndL (fun i => M.testBit i) fs n r := by rw [HR.out, h1, HX.out]
                rw [h2]
                exact rndL_done HE.out h2
              clear hjm
              go_wp2_with fail
              go_roundg (gk - 1)
              case measure => omega
              case rel => exact ⟨r + 1, ch, rfl, by omega, HG1, HG2, by rw [HR.out]; exact HS⟩
end
end Go.Proofs.Ytgoegldffjfmdaa
/- OtherEnd of the program and of the reference, walked. Conditions: none. -/
namespace Go.Proofs.Ytgoegldffjfmdaa
open Go.RowKit
instance : Inhabited ByteArray := ⟨ByteArray.empty⟩
def oeF (fs : List Fib) (i v : Int) : Int := otherF (fs.getD i.toNat default) v
def oeB (xs : List ByteArray) (fs : List Fib) (i v : Int) : Bool := goodB xs fs && inB 0 ((fs.length : Int) - 1) i && !decide (oeF fs i v < 0)
def oeI (xs : List ByteArray) (fs : List Fib) (i v : Int) : Int := if oeB xs fs i v then oeF fs i v else 0
section
variable {n c m d : Nat} {A A' : Option Addr} {xs : List ByteArray} {fs : List Fib}
set_option maxRecDepth 100000 in
theorem isFiber_any (i : Int) (w : World) (h : NetIs w A n c A' m d xs fs) :
    Calls Try.prog 151 #[.agg #[.slice A n c, .slice A' m d], .int .i64 i] w fun e w' => e = .returned (.bool (goodB xs fs && inB 0 ((m : Int) - 1) i)) ∧ Below w.heap.size w w' := by
  have hb0 := bl_alloc (Below.refl w.heap.size w) (.cells #[.slice A n c, .slice A' m d] 34)
  have hx0 : Blk (w.alloc (.cells #[.slice A n c, .slice A' m d] 34)) w.heap.size 34 #[.slice A n c, .slice A' m d] := Blk.new _ _ _
  have h0 := h.grow hb0
  have hm := h.mle
  cases g : goodB xs fs
  · go_enter Try.func151, Try.ntmps151
    go_wp2_with fail
    refine (validN _ h0).mono ?_
    rintro e w2 ⟨rfl, hb2⟩
    rw [g]
    go_wp2_with fail
    go_ret
    exact ⟨rfl, bl_then hb0 hb2⟩
  · go_enter Try.func151, Try.ntmps151
    go_wp2_with fail
    refine (validN _ h0).mono ?_
    rintro e w2 ⟨rfl, hb2⟩
    rw [g]
    have q1 := (hx0.below hb2 hx0.lt).cell 1
    simp at q1
    go_wp2_with fail
    refine (within_any _ _ _ _).mono ?_
    rintro e w3 ⟨rfl, rfl⟩
    go_wp2_with fail
    go_ret
    exact ⟨rfl, bl_then hb0 hb2⟩
theorem inB_idx {i : Int} {m : Nat} (h : inB 0 ((m : Int) - 1) i = true) : 0 ≤ i ∧ i < m := by unfold inB at h; simp at h; omega
end
end Go.Proofs.Ytgoegldffjfmdaa
/- ComponentsOf of both sides, walked. Conditions: none. -/
namespace Go.Proofs.Ytgoegldffjfmdaa
open Go.RowKit
section
variable {n c m d c' : Nat} {A A' V : Option Addr} {xs : List ByteArray} {fs : List Fib} {l : List Int}
/-- The list is a set of fibers of a valid network. -/
def coB (xs : List ByteArray) (fs : List Fib) (l : List Int) : Bool := goodB xs fs && risB 0 ((fs.length : Int) - 1) l
def coL (xs : List ByteArray) (fs : List Fib) (l : List Int) : List Int := if coB xs fs l then compL (goneF l) fs xs.length else []
theorem coB_mem (h : coB xs fs l = true) : ∀ x ∈ l, 0 ≤ x ∧ x < fs.length := by
  intro x hx
  unfold coB risB at h
  rw [Bool.and_eq_true] at h
  obtain ⟨k, hk, e⟩ := List.mem_iff_getElem.1 hx
  have h1 := allB_iff.1 h.2 k hk
  unfold riseAt at h1
  rw [Bool.and_eq_true, getD_of (by rw [List.getElem?_eq_getElem hk, e])] at h1
  exact inB_idx h1.1
theorem coL_len : (coL xs fs l).length ≤ 8 := by
  unfold coL
  cases g : coB xs fs l
  · simp
  · unfold coB at g
    rw [Bool.and_eq_true] at g
    have := (goodB_bd g.1).2.1
    simp [compL_len]; omega
theorem passTo_congr {q q' : Nat → Bool} {X : List Int} : ∀ j, (∀ i, i < j → q i = q' i) → passTo q fs X j = passTo q' fs X j := by
  intro j
  induction j with
  | zero => intro _; rfl
  | succ j ih => intro h; rw [passTo_succ, passTo_succ, h j (by omega), ih (fun i hi => h i (by omega))]
theorem compL_congr {q q' : Nat → Bool} (h : ∀ i, i < fs.length → q i = q' i) : compL q fs n = compL q' fs n := by
  suffices hh : ∀ k, rndL q fs n k = rndL q' fs n k from hh n
  intro k
  induction k with
  | zero => rfl
  | succ k ih => rw [rndL_succ, rndL_succ, ih]; exact passTo_congr _ h
set_option maxRecDepth 100000 in
theorem isFiberSet_any (w : World) (h : NetIs w A n c A' m d xs fs) (hv : Sees elInt w w.heap.size V l.length l) (hl : l.length ≤ 1048576) :
    Calls Try.prog 127 #[.agg #[.slice A n c, .slice A' m d], .slice V l.length c'] w fun e w' => e = .returned (.bool (coB xs fs l)) ∧ Below w.heap.size w w' := by
  have hS := (Led.nil w).blk_ w.heap.size rfl 34 #[.slice A n c, .slice A' m d]
  have hm := h.mle
  have HB : Hid (coB xs fs l = (goodB xs fs && risB 0 ((m : Int) - 1) l)) := by unfold Hid coB; rw [h.flen]
  cases g : goodB xs fs
  · go_enter Try.func127, Try.ntmps127
    go_wp2_with fail
    refine (validN _ (h.grow hS.bl)).mono ?_
    rintro e w1 ⟨rfl, hb⟩
    rw [g]
    go_wp2_with fail
    go_ret
    exact ⟨by rw [HB.out, g]; rfl, bl_then hS.bl hb⟩
  · go_enter Try.func127, Try.ntmps127
    go_wp2_with fail
    refine (validN _ (h.grow hS.bl)).mono ?_
    rintro e w1 ⟨rfl, hb⟩
    rw [g]
    replace hS := hS.step hb
    have q1 := hS.cell 0 1 rfl rfl
    go_wp2_with fail
    refine (isSet_any m _ (hv.grow hS.bl) hl hm).mono ?_
    rintro e w2 ⟨rfl, rfl⟩
    go_wp2_with fail
    go_ret
    exact ⟨by rw [HB.out, g]; rfl, hS.bl⟩
set_option maxHeartbeats 1000000 in
set_option maxRecDepth 100000 in
theorem implComponentsOf (w : World) (h : NetIs w A n c A' m d xs fs) (hv : Sees elInt w w.heap.size V l.length l) (hl : l.length ≤ 1048576) :
    Calls Try.prog 123 #[.agg #[.slice A n c, .slice A' m d], .slice V l.length c'] w fun e w' => ∃ v, e = .returned (.tuple #[v, .bool (coB xs fs l)]) ∧ Owns elInt w' w.heap.size 3 v (coL xs fs l) ∧ Below w.heap.size w w' := by
  have hS := (Led.nil w).blk_ w.heap.size rfl 34 #[.slice A n c, .slice A' m d]
  cases g : coB xs fs l
  · have H : Hid (coL xs fs l = []) := by unfold Hid coL; rw [g]; rfl
    go_enter Try.func123, Try.ntmps123
    go_wp2_with fail
    refine (isFiberSet_any _ (h.grow hS.bl) ((hv.grow hS.bl).more hS.bl.size) hl).mono ?_
    rintro e w1 ⟨rfl, hb⟩
    rw [g]
    go_wp2_with fail
    go_ret2
    exact ⟨_, rfl, by rw [H.out]; exact World.ownsRow_nil _ _ _ _, bl_then hS.bl hb⟩
  · have H : Hid (coL xs fs l = compL (goneF l) fs n) := by unfold Hid coL; rw [g, h.xlen]; rfl
    have hg : goodB xs fs = true := by unfold coB at g; rw [Bool.and_eq_true] at g; exact g.1
    have he := goodB_ends hg
    rw [h.xlen] at he
    have hn0 : 0 < n := by have := (goodB_bd hg).1; have := h.xlen; omega
    go_enter Try.func123, Try.ntmps123
    go_wp2_with fail
    refine (isFiberSet_any _ (h.grow hS.bl) ((hv.grow hS.bl).more hS.bl.size) hl).mono ?_
    rintro e w1 ⟨rfl, hb⟩
    rw [g]
    replace hS := hS.step hb
    have q0 := hS.cell 0 0 rfl rfl
    have q1 := hS.cell 0 1 rfl rfl
    go_wp2_with fail
    refine (components_any _ (h.grow hS.bl) (hv.grow hS.bl) hl he hn0).mono ?_
    rintro e w2 ⟨v, rfl, ho, hb2⟩
    have HO := hid (ho.base hS.bl.size)
    clear ho
    go_wp2_with fail
    go_ret2
    exact ⟨_, rfl, by rw [H.out]; exact HO.out, bl_then hS.bl hb2⟩
/-- The labels by a set's number. -/
theorem compL_mask (h : coB xs fs l = true) : compL (fun i => (maskN l).testBit i) fs n = compL (goneF l) fs n :=
  compL_congr fun i _ => maskN_bit (fun x hx => (coB_mem h x hx).1) i
theorem mask_small (h : coB xs fs l = true) : maskN l < 2 ^ 20 ∧ ∀ x ∈ l, 0 ≤ x ∧ x < 20 := by
  have hg : goodB xs fs = true := by unfold coB at h; rw [Bool.and_eq_true] at h; exact h.1
  have h14 := (goodB_bd hg).2.2
  have hx : ∀ x ∈ l, 0 ≤ x ∧ x < 20 := fun x hx => by have := coB_mem h x hx; omega
  exact ⟨maskTo_lt hx _ (Nat.le_refl _), hx⟩
end
end Go.Proofs.Ytgoegldffjfmdaa
/- Minimum cuts in plain Lean: the program's choice and the reference's are one. Conditions: none. -/
namespace Go.Proofs.Ytgoegldffjfmdaa
section
variable {n m : Nat} {fs : List Fib}
/-- The nodes are parted without the fibers of a list. -/
def cutP (fs : List Fib) (n f t : Nat) (L : List Int) : Bool := !(valL (compL (goneF L) fs n) f == valL (compL (goneF L) fs n) t)
/-- .. without those of a set's number. -/
def cutQ (fs : List Fib) (n f t : Nat) (M : Nat) : Bool := !(valL (compL (fun i => M.testBit i) fs n) f == valL (compL (fun i => M.testBit i) fs n) t)
theorem union_bit {L : List Int} (h : ∀ x ∈ L, 0 ≤ x) (j : Nat) : ∀ M : Nat, (L.foldl (fun M x => M ||| 2 ^ x.toNat) M).testBit j = (M.testBit j || decide ((j : Int) ∈ L)) := by
  induction L with
  | nil => intro M; simp
  | cons x L ih =>
    intro M
    have hx := h x (by simp)
    rw [List.foldl_cons, ih (fun y hy => h y (by simp [hy])), Nat.testBit_or, Nat.testBit_two_pow, Bool.or_assoc]
    congr 1
    rw [Bool.eq_iff_iff, Bool.or_eq_true, decide_eq_true_eq, decide_eq_true_eq, decide_eq_true_eq, List.mem_cons]
    constructor
    · rintro (h1 | h1)
      · exact .inl (by omega)
      · exact .inr h1
    · rintro (h1 | h1)
      · exact .inl (by omega)
      · exact .inr h1
theorem cut_eq {f t : Nat} (L : List Int) (h : lowL m L) : cutP fs n f t L = cutQ fs n f t (unionS (fun i => 2 ^ i) L) := by
  unfold cutP cutQ
  have e : compL (goneF L) fs n = compL (fun i => (unionS (fun i => 2 ^ i) L).testBit i) fs n := compL_congr fun j _ => by
    unfold unionS goneF
    rw [union_bit (fun x hx => (h x hx).1), Nat.zero_testBit, Bool.false_or, Bool.eq_iff_iff, hasB_iff, decide_eq_true_eq]
  rw [e]
theorem passTo_all {q : Nat → Bool} {X : List Int} : ∀ j, (∀ i, i < j → q i = true) → passTo q fs X j = X := by
  intro j
  induction j with
  | zero => intro _; rfl
  | succ j ih => intro h; rw [passTo_succ, h j (by omega)]; exact ih fun i hi => h i (by omega)
theorem compL_all {q : Nat → Bool} (h : ∀ i, i < fs.length → q i = true) : compL q fs n = marks 0 n := by
  suffices hh : ∀ k, rndL q fs n k = marks 0 n from hh n
  intro k
  induction k with
  | zero => rfl
  | succ k ih => rw [rndL_succ, ih]; exact passTo_all _ h
theorem fromL_mem {s : Nat} {x : Int} : x ∈ fromL m s ↔ ∃ j : Nat, s ≤ j ∧ j < m ∧ x = (j : Int) := by
  unfold fromL
  rw [List.mem_map]
  constructor
  · rintro ⟨j, hj, rfl⟩
    rw [List.mem_range'] at hj
    obtain ⟨i, hi, rfl⟩ := hj
    exact ⟨_, by omega, by omega, rfl⟩
  · rintro ⟨j, h1, h2, rfl⟩
    exact ⟨j, by rw [List.mem_range']; exact ⟨j - s, by omega, by omega⟩, rfl⟩
theorem cut_all {f t : Nat} (hf : f < n) (ht : t < n) (hne : f ≠ t) (hm : fs.length = m) : cutP fs n f t (fromL m 0) = true := by
  have e : compL (goneF (fromL m 0)) fs n = marks 0 n := compL_all fun i hi => by
    unfold goneF
    rw [hasB_iff, fromL_mem]
    exact ⟨i, Nat.zero_le _, by omega, rfl⟩
  have v : ∀ k, k < n → valL (marks 0 n) k = (k : Int) := fun k hk => by
    have := marks_get (k := 0) hk
    unfold valL
    rw [List.getD_eq_getElem?_getD, this]; simp
  unfold cutP
  rw [e, v f hf, v t ht]
  simp; omega
/-- The reference's list of the fewest fibers. -/
def cutL (fs : List Fib) (n f t : Nat) : List Int := cutS (cutQ fs n f t) (fun i => 2 ^ i) fs.length
theorem few_cut {f t : Nat} (hf : f < n) (ht : t < n) (hne : f ≠ t) : fewL (cutP fs n f t) fs.length = some (cutL fs n f t) := fewL_eq (fun L h => cut_eq L h) (cut_all hf ht hne rfl)
theorem cutL_len {f t : Nat} (hf : f < n) (ht : t < n) (hne : f ≠ t) : (cutL fs n f t).length ≤ fs.length := (fewL_low (few_cut hf ht hne)).2.1
end
/-- May a cut be asked for? -/
def mcB (xs : List ByteArray) (fs : List Fib) (f t : Int) : Bool := ((goodB xs fs && inB 0 ((xs.length : Int) - 1) f) && inB 0 ((xs.length : Int) - 1) t) && !(f == t)
def mcL (xs : List ByteArray) (fs : List Fib) (f t : Int) : List Int := if mcB xs fs f t then cutL fs xs.length f.toNat t.toNat else []
theorem mcB_parts {xs : List ByteArray} {fs : List Fib} {f t : Int} (h : mcB xs fs f t = true) : goodB xs fs = true ∧ (0 ≤ f ∧ f < xs.length) ∧ (0 ≤ t ∧ t < xs.length) ∧ f ≠ t := by
  unfold mcB at h
  rw [Bool.and_eq_true, Bool.and_eq_true, Bool.and_eq_true] at h
  refine ⟨h.1.1.1, inB_idx h.1.1.2, inB_idx h.1.2, ?_⟩
  have := h.2
  simpa using this
theorem mcL_len {xs : List ByteArray} {fs : List Fib} {f t : Int} : (mcL xs fs f t).length ≤ 14 := by
  unfold mcL
  cases g : mcB xs fs f t
  · simp
  · obtain ⟨hg, hf, ht, hne⟩ := mcB_parts g
    have h1 := (goodB_bd hg).2.2
    have h2 := cutL_len (fs := fs) (n := xs.length) (f := f.toNat) (t := t.toNat) (by omega) (by omega) (by omega)
    rw [if_pos rfl]; omega
end Go.Proofs.Ytgoegldffjfmdaa
