/- Lemmas and walks that the claim rests on, laid together. Conditions: none. -/
import Derived.Test.YtndmffmbkcagmaaRows
import Derived.Test.YtndmffmbkcagmaaZExactSharedFibers0
import Derived.StillTailTactics
/- slices.Index and slices.Contains over strings, walked. Conditions: none. -/
namespace Go.Proofs.Ytndmffmbkcagmaa
open Go.RowKit
theorem indexS_any {B n c : Nat} {A : Option Addr} {xs : List ByteArray} (s : ByteArray) (w : World) (hA : Sees elStr w B A n xs) (hn : n ≤ maxLen) :
    Calls Try.prog 116 #[.slice A n c, .string s] w fun e w' => e = .returned (.int .i64 (findI xs s)) ∧ w = w' := by
  unfold maxLen at hn
  go_enter Try.func116, Try.ntmps116
  go_wp2
  go_loop [8] (fun i => ∃ k : Nat, k ≤ n ∧ i = .int .i64 k ∧ Hid (noneTo xs s k)) (fun i => n - (intOf i).toNat)
  case atStart => exact ⟨0, Nat.zero_le _, rfl, noneTo_zero⟩
  case round =>
    obtain ⟨k, hk, rfl, hno⟩ := hrel
    by_cases hlt : k < n
    · obtain ⟨b, o, rfl, _, hx⟩ := hA.at_ hlt
      obtain ⟨x, hxk⟩ : ∃ x, xs[k]? = some x := ⟨xs[k]'(by rw [hA.len]; exact hlt), List.getElem?_eq_getElem _⟩
      have hc := hx k x hxk 0 _ rfl
      simp only [elStr, Nat.mul_one, Nat.add_zero] at hc
      clear hx
      by_cases heq : x = s
      · subst heq
        have HF := hid (findI_at hno hxk)
        clear hxk
        go_wp2
        go_ret
        exact ⟨by rw [HF.out]; rfl, rfl⟩
      · have hne := str_ne (fun e : s = x => heq e.symm)
        have HN := hid (noneTo_succ hno hxk heq)
        clear hxk hno
        go_wp2
        go_round
        case rel => exact ⟨k + 1, by omega, by go_num, HN⟩
        case measure => simp [intOf]; omega
    · have HF : Hid (findI xs s = -1) := findI_none hA.len (by obtain rfl : k = n := (by omega); exact hno.out)
      go_wp2
      go_ret
      exact ⟨by rw [HF.out]; rfl, rfl⟩
theorem containsS_any {B n c : Nat} {A : Option Addr} {xs : List ByteArray} (s : ByteArray) (w : World) (hA : Sees elStr w B A n xs) (hn : n ≤ maxLen) :
    Calls Try.prog 99 #[.slice A n c, .string s] w fun e w' => e = .returned (.bool (hasB xs s)) ∧ w = w' := by
  go_enter Try.func99, Try.ntmps99
  go_wp2_with (go_at_call 116; refine (indexS_any s _ hA hn).mono ?_; rintro e w' ⟨rfl, rfl⟩)
  go_ret
  exact ⟨rfl, rfl⟩
end Go.Proofs.Ytndmffmbkcagmaa
/- compareFibers, walked: it returns cmpFib. Conditions: none. -/
namespace Go.Proofs.Ytndmffmbkcagmaa
open Go.RowKit
theorem or_any {b o c : Nat} {x0 x1 x2 x3 : Int} (w : World) (h0 : w.cell? ⟨b, o, none⟩ = some (.int .i64 x0)) (h1 : w.cell? ⟨b, o + 1, none⟩ = some (.int .i64 x1)) (h2 : w.cell? ⟨b, o + 2, none⟩ = some (.int .i64 x2)) (h3 : w.cell? ⟨b, o + 3, none⟩ = some (.int .i64 x3)) :
    Calls Try.prog 117 #[.slice (some ⟨b, o, none⟩) 4 c] w fun e w' => e = .returned (.int .i64 (orI [x0, x1, x2, x3])) ∧ w = w' := by
  go_enter Try.func117, Try.ntmps117
  go_wp2
  go_loop [8] (fun i => ∃ k : Nat, k ≤ 4 ∧ i = .int .i64 k ∧ Hid (orI [x0, x1, x2, x3] = orI ([x0, x1, x2, x3].drop k))) (fun i => 4 - (intOf i).toNat)
  case atStart => exact ⟨0, by omega, rfl, rfl⟩
  case round =>
    obtain ⟨k, hk, rfl, hor⟩ := hrel
    have hc : k < 4 → ∃ x, ([x0, x1, x2, x3].drop k) = x :: [x0, x1, x2, x3].drop (k + 1) ∧ w.cell? ⟨b, o + k, none⟩ = some (.int .i64 x) := by
      intro hlt
      have : k = 0 ∨ k = 1 ∨ k = 2 ∨ k = 3 := by omega
      rcases this with rfl | rfl | rfl | rfl
      · exact ⟨x0, rfl, h0⟩
      · exact ⟨x1, rfl, h1⟩
      · exact ⟨x2, rfl, h2⟩
      · exact ⟨x3, rfl, h3⟩
    by_cases hlt : k < 4
    · obtain ⟨x, hd, hx⟩ := hc hlt
      by_cases hz : x = 0
      · subst hz
        have HY : Hid (orI [x0, x1, x2, x3] = orI ([x0, x1, x2, x3].drop (k + 1))) := by rw [hor.out, hd]; simp [Hid, orI]
        clear hd hc h0 h1 h2 h3
        go_wp2
        go_round
        case rel => exact ⟨k + 1, by omega, by go_num, HY⟩
        case measure => simp [intOf]; omega
      · have hz' : (x == 0) = false := by simp [hz]
        have hz2 : (x != 0) = true := by simp [hz]
        have HY : Hid (orI [x0, x1, x2, x3] = x) := by rw [hor.out, hd]; simp [Hid, orI, hz]
        clear hd hc h0 h1 h2 h3
        go_wp2
        go_ret
        exact ⟨by rw [HY.out]; rfl, rfl⟩
    · have HY : Hid (orI [x0, x1, x2, x3] = 0) := by
        obtain rfl : k = 4 := by omega
        rw [hor.out]; rfl
      clear hc h0 h1 h2 h3
      go_wp2
      go_ret
      exact ⟨by rw [HY.out]; rfl, rfl⟩
set_option maxRecDepth 100000 in
theorem compareFibers_any (f g : Fib) (w : World) :
    Calls Try.prog 100 #[fibV f, fibV g] w fun e w' => e = .returned (.int .i64 (cmpFib f g)) ∧ Below w.heap.size w w' := by
  obtain ⟨fa, fb, fl, fr⟩ := f
  obtain ⟨ga, gb, gl, gr⟩ := g
  unfold fibV
  go_enter Try.func100, Try.ntmps100
  go_wp2
  refine region_tail 20 (by kernel_rfl) (by kernel_rfl) ?_
  simp only [List.take_succ_cons, List.take_zero, List.drop_succ_cons, List.drop_zero]
  repeat (first | still_step | still_call ((compare_any _ _ _).mono (fun _ _ h => ⟨h.1, h.2.symm⟩)))
  refine wpStill_nil ?_
  go_wp2_with fail
  refine (or_any (x0 := cmpB fa ga) (x1 := cmpB fb gb) (x2 := cmpB fl gl) (x3 := cmpB fr gr) _ (by go_simp) (by go_simp) (by go_simp) (by go_simp)).mono ?_
  rintro e w' ⟨rfl, rfl⟩
  go_wp2_with fail
  go_ret
  exact ⟨rfl, by repeat (first | exact Below.refl _ _ | apply Below.drew | apply bl_alloc)⟩
end Go.Proofs.Ytndmffmbkcagmaa
