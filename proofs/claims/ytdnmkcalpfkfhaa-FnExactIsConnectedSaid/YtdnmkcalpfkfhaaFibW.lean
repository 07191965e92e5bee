/- compareFibers, walked: it returns cmpFib. Conditions: none. -/
import Derived.Test.YtdnmkcalpfkfhaaFib
import Derived.StillTailTactics
namespace Go.Proofs.Ytdnmkcalpfkfhaa
open Go.RowKit
theorem or_any {b o c : Nat} {x0 x1 x2 x3 : Int} (w : World) (h0 : w.cell? ⟨b, o, none⟩ = some (.int .i64 x0)) (h1 : w.cell? ⟨b, o + 1, none⟩ = some (.int .i64 x1)) (h2 : w.cell? ⟨b, o + 2, none⟩ = some (.int .i64 x2)) (h3 : w.cell? ⟨b, o + 3, none⟩ = some (.int .i64 x3)) :
    Calls Try.prog 114 #[.slice (some ⟨b, o, none⟩) 4 c] w fun e w' => e = .returned (.int .i64 (orI [x0, x1, x2, x3])) ∧ w = w' := by
  go_enter Try.func114, Try.ntmps114
  go_wp2
  go_loop [8] (fun i => ∃ k : Nat, k ≤ 4 ∧ i = .int .i64 k ∧ Hid (orI [x0, x1, x2, x3] = orI ([x0, x1, x2, x3].drop k))) (fun i => 4 - (intOf i).toNat)
  case atStart => exact ⟨0, by omega, rfl, rfl⟩
  case round =>
    obtain ⟨k, hk, rfl, hor⟩ := hrel
    have hc : k < 4 → ∃ x, ([x0, x1, x2, x3].drop k) = x :: [x0, x1, x2, x3].drop (k + 1) ∧ w.cell? ⟨b, o + k, none⟩ = some (.int .i64 x) := by
      intro hlt
      have : k = 0 ∨ k = 1 ∨ k = 2 ∨ k = 3 := by omega
      rcases this with rfl | rfl | rfl | rfl
      · exact ⟨x0, rfl, h0⟩
      · exact ⟨x1, rfl, h1⟩
      · exact ⟨x2, rfl, h2⟩
      · exact ⟨x3, rfl, h3⟩
    by_cases hlt : k < 4
    · obtain ⟨x, hd, hx⟩ := hc hlt
      by_cases hz : x = 0
      · subst hz
        have HY : Hid (orI [x0, x1, x2, x3] = orI ([x0, x1, x2, x3].drop (k + 1))) := by rw [hor.out, hd]; simp [Hid, orI]
        clear hd hc h0 h1 h2 h3
        go_wp2
        go_round
        case rel => exact ⟨k + 1, by omega, by go_num, HY⟩
        case measure => simp [intOf]; omega
      · have hz' : (x == 0) = false := by simp [hz]
        have hz2 : (x != 0) = true := by simp [hz]
        have HY : Hid (orI [x0, x1, x2, x3] = x) := by rw [hor.out, hd]; simp [Hid, orI, hz]
        clear hd hc h0 h1 h2 h3
        go_wp2
        go_ret
        exact ⟨by rw [HY.out]; rfl, rfl⟩
    · have HY : Hid (orI [x0, x1, x2, x3] = 0) := by
        obtain rfl : k = 4 := by omega
        rw [hor.out]; rfl
      clear hc h0 h1 h2 h3
      go_wp2
      go_ret
      exact ⟨by rw [HY.out]; rfl, rfl⟩
set_option maxRecDepth 100000 in
theorem compareFibers_any (f g : Fib) (w : World) :
    Calls Try.prog 108 #[fibV f, fibV g] w fun e w' => e = .returned (.int .i64 (cmpFib f g)) ∧ Below w.heap.size w w' := by
  obtain ⟨fa, fb, fl, fr⟩ := f
  obtain ⟨ga, gb, gl, gr⟩ := g
  unfold fibV
  go_enter Try.func108, Try.ntmps108
  go_wp2
  refine region_tail 20 (by kernel_rfl) (by kernel_rfl) ?_
  simp only [List.take_succ_cons, List.take_zero, List.drop_succ_cons, List.drop_zero]
  repeat (first | still_step | still_call ((compare_any _ _ _).mono (fun _ _ h => ⟨h.1, h.2.symm⟩)))
  refine wpStill_nil ?_
  go_wp2_with fail
  refine (or_any (x0 := cmpB fa ga) (x1 := cmpB fb gb) (x2 := cmpB fl gl) (x3 := cmpB fr gr) _ (by go_simp) (by go_simp) (by go_simp) (by go_simp)).mono ?_
  rintro e w' ⟨rfl, rfl⟩
  go_wp2_with fail
  go_ret
  exact ⟨rfl, by repeat (first | exact Below.refl _ _ | apply Below.drew | apply bl_alloc)⟩
end Go.Proofs.Ytdnmkcalpfkfhaa
