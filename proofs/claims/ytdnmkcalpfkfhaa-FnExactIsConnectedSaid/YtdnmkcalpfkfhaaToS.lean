/- toStringS, walked: a new row that holds the same strings. Conditions: at most 1048576 of them. -/
import Derived.Test.YtdnmkcalpfkfhaaRows
import Derived.Test.YtdnmkcalpfkfhaaKit
namespace Go.Proofs.Ytdnmkcalpfkfhaa
open Go.RowKit
theorem str_info : (Try.prog.info? 9).map (fun i => (i.zero, i.size, i.bytes)) = some (some (.string ByteArray.empty), 1, 16) := by kernel_rfl
set_option maxRecDepth 100000 in
theorem toStringS_any {B n c : Nat} {A : Option Addr} {xs : List ByteArray} (w : World) (hA : Sees elStr w B A n xs) (hn : n ≤ 1048576) :
    Calls Try.prog 59 #[.slice A n c] w fun e w' => ∃ v, e = .returned v ∧ Owns elStr w' w.heap.size 9 v xs ∧ Below w.heap.size w w' := by
  obtain ⟨i0, hi, hz0, hz1, hz2⟩ := info_parts str_info
  have hmk := fun W => make_n (P := Try.prog) Try.underlying22 hi hz0 (n := n) (by rw [hz2]; omega) (by omega) W
  rw [hz1] at hmk
  clear hi hz0 hz1 hz2
  go_enter Try.func59, Try.ntmps59
  go_wp2
  have hb0 := bl_alloc (Below.refl w.heap.size w) (.cells (madeCells #[.string ByteArray.empty] n) 9)
  have hk0 : Hid (Blk (w.alloc (.cells (madeCells #[.string ByteArray.empty] n) 9)) w.heap.size 9 (madeCells #[.string ByteArray.empty] n)) := Blk.new _ _ _
  have hs0 : Hid ((madeCells #[.string ByteArray.empty] n).size = n) := size_madeCells _ _
  clear hmk
  go_loopw [4] (fun i wr => ∃ (k : Nat) (cur : Array Value), k ≤ n ∧ i = .int .i64 k ∧ Hid (Blk wr w.heap.size 9 cur) ∧ Hid (cur.size = n) ∧ Hid (Filled elStr cur xs k) ∧ Below w.heap.size w wr) (fun i _ => n - (intOf i).toNat)
  case atStart => exact ⟨0, _, Nat.zero_le _, rfl, hk0, hs0, Filled.zero _ _ _, hb0⟩
  case round =>
    clear hb0 hk0 hs0
    obtain ⟨k, cur, hk, rfl, hblk, hsz, hfill, hb⟩ := hrel
    by_cases hlt : k < n
    · obtain ⟨b, o, rfl, _, hc⟩ := hA.at_ hlt
      obtain ⟨x, hxk⟩ : ∃ x, xs[k]? = some x := ⟨xs[k]'(by rw [hA.len]; exact hlt), List.getElem?_eq_getElem _⟩
      have hcx := bl_cell hb (hc k x hxk 0 _ rfl)
      simp only [elStr, Nat.mul_one, Nat.add_zero] at hcx
      obtain ⟨u, hu⟩ := hblk.out.cell_ (i := k) (by rw [hsz.out]; exact hlt)
      have hfz := hblk.out.frozen k
      have HB := hid (hblk.out.set k (.string x))
      have HS : Hid ((cur.setIfInBounds k (.string x)).size = n) := by rw [Array.size_setIfInBounds]; exact hsz
      have HF : Hid (Filled elStr (cur.setIfInBounds k (.string x)) xs (k + 1)) := by
        refine hfill.out.step hxk (fun i hi => ?_) (fun i u hu => ?_)
        · rw [Array.getElem?_setIfInBounds_ne (by simp [elStr] at hi; omega)]
        · simp [elStr] at hu ⊢
          obtain ⟨hi, rfl⟩ := List.getElem?_eq_some_iff.1 hu
          have : i = 0 := by simpa using hi
          subst this
          simp [hsz.out, hlt]
      clear hc hxk hblk hsz hfill
      go_wp2
      go_roundw
      case rel => exact ⟨k + 1, _, by omega, by go_num, HB, HS, HF, bl_set hb _ (Nat.le_refl _)⟩
      case measure => simp [intOf]; omega
    · go_wp2
      go_ret
      have hkn : k = n := by omega
      exact ⟨_, rfl, Owns.of_filled hblk.out (Nat.le_refl _) hA.len (by rw [hsz.out]; exact (Nat.mul_one n).symm) (by simp only [maxLen]; omega) (by rw [← hkn]; exact hfill.out), hb⟩
end Go.Proofs.Ytdnmkcalpfkfhaa
