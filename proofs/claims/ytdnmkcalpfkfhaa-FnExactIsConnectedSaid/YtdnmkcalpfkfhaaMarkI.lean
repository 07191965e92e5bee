/- markIntS, heldIntS, eqIntS, walked. Conditions: at most 1048576 numbers, marks below 2^40. -/
import Derived.Test.YtdnmkcalpfkfhaaRows
import Derived.Test.YtdnmkcalpfkfhaaMem
namespace Go.Proofs.Ytdnmkcalpfkfhaa
open Go.RowKit
set_option maxRecDepth 100000 in
theorem markIntS_any {base n : Nat} {v : Value} {xs : List Int} (k : Int) (w : World) (h : Owns elInt w base 3 v xs) (hl : xs.length = n) (hn : n ≤ 1048576) (hk0 : 0 ≤ k) (hk : k ≤ 1099511627776) :
    Calls Try.prog 26 #[v, .int .i64 k] w fun e w' => e = .returned (.int .i64 (k + n)) ∧ Owns elInt w' base 3 v (marks k n) ∧ Touch (fun b => v.ownBlock = some b) w w' := by
  rcases h.cases with ⟨rfl, rfl⟩ | ⟨g, cap, cur0, rfl, hg, hb0, hnc, hcm, hs0, _⟩
  · subst hl
    go_enter Try.func26, Try.ntmps26
    go_wp2
    refine wp_loop_rounds 1 ?_
    rw [rounds_succ]
    go_wp2
    go_ret
    exact ⟨by simp, h, Touch.refl _ _⟩
  · rw [hl] at hnc ⊢
    have hc' : Hid (cur0.size = cap) := by rw [hs0]; exact Nat.mul_one cap
    have hb0' := hid hb0
    clear hl hs0 h hb0
    go_enter Try.func26, Try.ntmps26
    go_wp2
    go_loopw [1, 5] (fun t i wr => ∃ (j : Nat) (r : Int) (cur : Array Value), j ≤ n ∧ i = .int .i64 j ∧ t = .int .i64 r ∧ r ≤ 1099511627776 + j ∧ 0 ≤ r ∧ Hid (r = k + j) ∧ Hid (Blk wr g 3 cur) ∧ Hid (cur.size = cap) ∧ Hid (Filled elInt cur (marks k n) j) ∧ Touch (fun b => some g = some b) w wr) (fun _ i _ => n - (intOf i).toNat)
    case atStart => exact ⟨0, k, cur0, Nat.zero_le _, rfl, rfl, by omega, hk0, by unfold Hid; simp, hb0', hc', Filled.zero _ _ _, Touch.refl _ _⟩
    case round =>
      clear hb0' hc'
      obtain ⟨j, r, cur, hj, rfl, rfl, hr1, hr0, hr, hblk, hsz, hfill, ht⟩ := hrel
      by_cases hlt : j < n
      · obtain ⟨u, hu⟩ := hblk.out.cell_ (i := j) (by rw [hsz.out]; omega)
        have hfz := hblk.out.frozen j
        have HB := hid (hblk.out.set j (.int .i64 r))
        have HS : Hid ((cur.setIfInBounds j (.int .i64 r)).size = cap) := by rw [Array.size_setIfInBounds]; exact hsz
        have HF : Hid (Filled elInt (cur.setIfInBounds j (.int .i64 r)) (marks k n) (j + 1)) := filled_int hfill.out (by rw [hr.out]; exact marks_get hlt) (by rw [hsz.out]; omega)
        have HR : Hid (r + 1 = k + ((j + 1 : Nat) : Int)) := by have := hr.out; unfold Hid; omega
        have HT := ht.trans (Touch.set (S := fun b => some g = some b) wr (p := ⟨g, j, none⟩) rfl (.int .i64 r))
        clear hblk hsz hfill hr ht
        go_wp2
        go_roundw
        case rel => exact ⟨j + 1, _, _, by omega, by go_num, rfl, by omega, by omega, HR, HB, HS, HF, HT⟩
        case measure => simp [intOf]; omega
      · have hjn : j = n := by omega
        have HE : Hid (r = k + (n : Int)) := by rw [← hjn]; exact hr
        have HO := hid (Owns.of_blk (E := elInt) (base := base) hblk.out hg (marks_len k n) hnc (by rw [hsz.out]; exact (Nat.mul_one _).symm) hcm (by have hq := hfill.out; rw [hjn] at hq; exact hq))
        clear hblk hsz hfill hr
        go_wp2
        go_ret
        exact ⟨by rw [HE.out]; rfl, HO.out, ht⟩
set_option maxRecDepth 100000 in
theorem heldIntS_any {B n c : Nat} {A : Option Addr} (k : Int) (w : World) (h : Sees elInt w B A n (marks k n)) (hn : n ≤ 1048576) (hk0 : 0 ≤ k) (hk : k ≤ 1099511627776) :
    Calls Try.prog 27 #[.slice A n c, .int .i64 k] w fun e w' => e = .returned (.int .i64 (k + n)) ∧ w = w' := by
  go_enter Try.func27, Try.ntmps27
  go_wp2
  go_loop [1, 5] (fun t i => ∃ (j : Nat) (r : Int), j ≤ n ∧ i = .int .i64 j ∧ t = .int .i64 r ∧ r ≤ 1099511627776 + j ∧ 0 ≤ r ∧ Hid (r = k + j)) (fun _ i => n - (intOf i).toNat)
  case atStart => exact ⟨0, k, Nat.zero_le _, rfl, rfl, by omega, hk0, by unfold Hid; simp⟩
  case round =>
    obtain ⟨j, r, hj, rfl, rfl, hr1, hr0, hr⟩ := hrel
    by_cases hlt : j < n
    · obtain ⟨b, o, rfl, _, hc⟩ := h.at_ hlt
      have hx := hc j (k + j) (marks_get hlt) 0 _ rfl
      rw [← hr.out] at hx
      simp only [elInt, Nat.mul_one, Nat.add_zero] at hx
      have HR : Hid (r + 1 = k + ((j + 1 : Nat) : Int)) := by have := hr.out; unfold Hid; omega
      clear hc hr
      go_wp2
      go_round
      case rel => exact ⟨j + 1, _, by omega, by go_num, rfl, by omega, by omega, HR⟩
      case measure => simp [intOf]; omega
    · have hjn : j = n := by omega
      have HE : Hid (r = k + (n : Int)) := by rw [← hjn]; exact hr
      clear hr
      go_wp2
      go_ret
      exact ⟨by rw [HE.out]; rfl, rfl⟩
set_option maxRecDepth 100000 in
theorem eqIntS_any {B B' n c c' : Nat} {A A' : Option Addr} {xs : List Int} (w : World) (hA : Sees elInt w B A n xs) (hA' : Sees elInt w B' A' n xs) (hn : n ≤ 1048576) :
    Calls Try.prog 21 #[.slice A n c, .slice A' n c'] w fun e w' => e = .returned (.bool true) ∧ ∃ q, w' = w.drewN q := by
  go_enter Try.func21, Try.ntmps21
  go_wp2
  go_loopw [5] (fun i wr => ∃ k q : Nat, k ≤ n ∧ i = .int .i64 k ∧ wr = w.drewN q) (fun i _ => n - (intOf i).toNat)
  case atStart => exact ⟨0, 0, Nat.zero_le _, rfl, rfl⟩
  case round =>
    obtain ⟨k, q, hk, rfl, rfl⟩ := hrel
    by_cases hlt : k < n
    · obtain ⟨b, o, rfl, _, hc⟩ := hA.at_ hlt
      obtain ⟨b', o', rfl, _, hc'⟩ := hA'.at_ hlt
      obtain ⟨x, hxk⟩ : ∃ x, xs[k]? = some x := ⟨xs[k]'(by rw [hA.len]; exact hlt), List.getElem?_eq_getElem _⟩
      have h1 := hc k x hxk 0 _ rfl
      have h2 := hc' k x hxk 0 _ rfl
      simp only [elInt, Nat.mul_one, Nat.add_zero] at h1 h2
      clear hc hc' hxk
      have i1 : (k : Int) < (n : Int) := by omega
      go_wp2
      go_quiet (fail)
      go_wp2
      go_roundw
      case rel => exact ⟨k + 1, _, by omega, by go_num, rfl⟩
      case measure => simp [intOf]; omega
    · go_wp2
      go_ret
      exact ⟨rfl, _, rfl⟩
end Go.Proofs.Ytdnmkcalpfkfhaa
