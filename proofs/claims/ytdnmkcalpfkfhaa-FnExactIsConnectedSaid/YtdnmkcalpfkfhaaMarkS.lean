/- markStringS and heldStringS, walked. Conditions: at most 1048576 strings, marks below 2^40. -/
import Derived.Test.YtdnmkcalpfkfhaaMarkT
namespace Go.Proofs.Ytdnmkcalpfkfhaa
open Go.RowKit
/-- The texts of the numbers from k on. -/
def smarks (k : Int) (n : Nat) : List ByteArray := (List.range n).map fun (j : Nat) => mtx (k + (j : Int)).toNat
theorem smarks_len (k : Int) (n : Nat) : (smarks k n).length = n := by simp [smarks]
theorem smarks_get {k : Int} {n j : Nat} (h : j < n) : (smarks k n)[j]? = some (mtx (k + (j : Int)).toNat) := by simp [smarks, h]
set_option maxRecDepth 100000 in
theorem markStringS_any {base n : Nat} {v : Value} {xs : List ByteArray} (k : Int) (w : World) (h : Owns elStr w base 9 v xs) (hl : xs.length = n) (hn : n ≤ 1048576) (hk0 : 0 ≤ k) (hk : k ≤ 1099510579200) :
    Calls Try.prog 65 #[v, .int .i64 k] w fun e w' => e = .returned (.int .i64 (k + n)) ∧ Owns elStr w' base 9 v (smarks k n) ∧ Touch (fun b => v.ownBlock = some b) w w' := by
  rcases h.cases with ⟨rfl, rfl⟩ | ⟨g, cap, cur0, rfl, hg, hb0, hnc, hcm, hs0, _⟩
  · subst hl
    go_enter Try.func65, Try.ntmps65
    go_wp2
    refine wp_loop_rounds 1 ?_
    rw [rounds_succ]
    go_wp2
    go_ret
    exact ⟨by simp, h, Touch.refl _ _⟩
  · rw [hl] at hnc ⊢
    have hc' : Hid (cur0.size = cap) := by rw [hs0]; exact Nat.mul_one cap
    have hb0' := hid hb0
    clear hl hs0 h hb0
    go_enter Try.func65, Try.ntmps65
    go_wp2
    go_loopw [1, 5] (fun t i wr => ∃ (j : Nat) (r : Int) (cur : Array Value), j ≤ n ∧ i = .int .i64 j ∧ t = .int .i64 r ∧ r ≤ 1099510579200 + j ∧ 0 ≤ r ∧ Hid (r = k + j) ∧ Hid (Blk wr g 9 cur) ∧ Hid (cur.size = cap) ∧ Hid (Filled elStr cur (smarks k n) j) ∧ Touch (fun b => some g = some b) w wr) (fun _ i _ => n - (intOf i).toNat)
    case atStart => exact ⟨0, k, cur0, Nat.zero_le _, rfl, rfl, by omega, hk0, by unfold Hid; simp, hb0', hc', Filled.zero _ _ _, Touch.refl _ _⟩
    case round =>
      clear hb0' hc'
      obtain ⟨j, r, cur, hj, rfl, rfl, hr1, hr0, hr, hblk, hsz, hfill, ht⟩ := hrel
      by_cases hlt : j < n
      · go_wp2_with fail
        refine (markText_any r _ hr0 (by omega)).mono ?_
        rintro e w2 ⟨rfl, hb2⟩
        have hblk2 := hid (hblk.out.below hb2 hblk.out.lt)
        obtain ⟨u, hu⟩ := hblk2.out.cell_ (i := j) (by rw [hsz.out]; omega)
        have hfz := hblk2.out.frozen j
        have HB := hid (hblk2.out.set j (.string (mtx r.toNat)))
        have HS : Hid ((cur.setIfInBounds j (.string (mtx r.toNat))).size = cap) := by rw [Array.size_setIfInBounds]; exact hsz
        have HF : Hid (Filled elStr (cur.setIfInBounds j (.string (mtx r.toNat))) (smarks k n) (j + 1)) := filled_str hfill.out (by rw [hr.out]; exact smarks_get hlt) (by rw [hsz.out]; omega)
        have HR : Hid (r + 1 = k + ((j + 1 : Nat) : Int)) := by have := hr.out; unfold Hid; omega
        have HT := (ht.then_ hb2).trans (Touch.set (S := fun b => some g = some b) w2 (p := ⟨g, j, none⟩) rfl (.string (mtx r.toNat)))
        clear hblk hblk2 hsz hfill hr ht
        go_wp2
        go_roundw
        case rel => exact ⟨j + 1, _, _, by omega, by go_num, rfl, by omega, by omega, HR, HB, HS, HF, HT⟩
        case measure => simp [intOf]; omega
      · have hjn : j = n := by omega
        have HE : Hid (r = k + (n : Int)) := by rw [← hjn]; exact hr
        have HO := hid (Owns.of_blk (E := elStr) (base := base) hblk.out hg (smarks_len k n) hnc (by rw [hsz.out]; exact (Nat.mul_one _).symm) hcm (by have hq := hfill.out; rw [hjn] at hq; exact hq))
        clear hblk hsz hfill hr
        go_wp2
        go_ret
        exact ⟨by rw [HE.out]; rfl, HO.out, ht⟩
end Go.Proofs.Ytdnmkcalpfkfhaa
