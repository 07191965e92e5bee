/- markFiberS, heldFiberS, markNetwork, heldNetwork, walked. Conditions: at most 1048576 elements, marks below 2^39. -/
import Derived.Test.YtdnmkcalpfkfhaaMarkS
import Derived.Test.YtdnmkcalpfkfhaaToN
namespace Go.Proofs.Ytdnmkcalpfkfhaa
open Go.RowKit
/-- The fibers that four numbers each make, from k on. -/
def fmarks (k : Int) (n : Nat) : List Fib := (List.range n).map fun (j : Nat) => ⟨k + 4 * (j : Int), k + 4 * (j : Int) + 1, k + 4 * (j : Int) + 1 + 1, k + 4 * (j : Int) + 1 + 1 + 1⟩
theorem fmarks_len (k : Int) (n : Nat) : (fmarks k n).length = n := by simp [fmarks]
theorem fmarks_get {k : Int} {n j : Nat} (h : j < n) : (fmarks k n)[j]? = some ⟨k + 4 * (j : Int), k + 4 * (j : Int) + 1, k + 4 * (j : Int) + 1 + 1, k + 4 * (j : Int) + 1 + 1 + 1⟩ := by simp [fmarks, h]
theorem Touch.set4 {S : Nat → Prop} (w : World) {g : Nat} (hg : S g) (j : Nat) (f : Fib) :
    Touch S w ((((w.setCell ⟨g, j * 4, none⟩ (.int .i64 f.a)).setCell ⟨g, j * 4 + 1, none⟩ (.int .i64 f.b)).setCell ⟨g, j * 4 + 2, none⟩ (.int .i64 f.len)).setCell ⟨g, j * 4 + 3, none⟩ (.int .i64 f.risk)) :=
  (((Touch.set w (p := ⟨g, j * 4, none⟩) hg _).trans (Touch.set _ (p := ⟨g, j * 4 + 1, none⟩) hg _)).trans (Touch.set _ (p := ⟨g, j * 4 + 2, none⟩) hg _)).trans (Touch.set _ (p := ⟨g, j * 4 + 3, none⟩) hg _)
set_option maxHeartbeats 1000000 in
set_option maxRecDepth 100000 in
theorem markFiberS_any {base n : Nat} {v : Value} {xs : List Fib} (k : Int) (w : World) (h : Owns elFib w base 102 v xs) (hl : xs.length = n) (hn : n ≤ 1048576) (hk0 : 0 ≤ k) (hk : k ≤ 549755813888) :
    Calls Try.prog 66 #[v, .int .i64 k] w fun e w' => e = .returned (.int .i64 (k + 4 * n)) ∧ Owns elFib w' base 102 v (fmarks k n) ∧ Touch (fun b => v.ownBlock = some b) w w' := by
  rcases h.cases with ⟨rfl, rfl⟩ | ⟨g, cap, cur0, rfl, hg, hb0, hnc, hcm, hs0, _⟩
  · subst hl
    go_enter Try.func66, Try.ntmps66
    go_wp2
    refine wp_loop_rounds 1 ?_
    rw [rounds_succ]
    go_wp2
    go_ret
    exact ⟨by simp, h, Touch.refl _ _⟩
  · rw [hl] at hnc ⊢
    have hc' : Hid (cur0.size = cap * 4) := hs0
    have hb0' := hid hb0
    clear hl hs0 h hb0
    go_enter Try.func66, Try.ntmps66
    go_wp2
    go_loopw [1, 5] (fun t i wr => ∃ (j : Nat) (r : Int) (cur : Array Value), j ≤ n ∧ i = .int .i64 j ∧ t = .int .i64 r ∧ r ≤ 549755813888 + 4 * j ∧ 0 ≤ r ∧ Hid (r = k + 4 * j) ∧ Hid (Blk wr g 102 cur) ∧ Hid (cur.size = cap * 4) ∧ Hid (Filled elFib cur (fmarks k n) j) ∧ Touch (fun b => some g = some b) w wr) (fun _ i _ => n - (intOf i).toNat)
    case atStart => exact ⟨0, k, cur0, Nat.zero_le _, rfl, rfl, by omega, hk0, by unfold Hid; simp, hb0', hc', Filled.zero _ _ _, Touch.refl _ _⟩
    case round =>
      clear hb0' hc'
      obtain ⟨j, r, cur, hj, rfl, rfl, hr1, hr0, hr, hblk, hsz, hfill, ht⟩ := hrel
      by_cases hlt : j < n
      · obtain ⟨u0, hu0⟩ := hblk.out.cell_ (i := j * 4) (by rw [hsz.out]; omega)
        obtain ⟨u1, hu1⟩ := hblk.out.cell_ (i := j * 4 + 1) (by rw [hsz.out]; omega)
        obtain ⟨u2, hu2⟩ := hblk.out.cell_ (i := j * 4 + 2) (by rw [hsz.out]; omega)
        obtain ⟨u3, hu3⟩ := hblk.out.cell_ (i := j * 4 + 3) (by rw [hsz.out]; omega)
        have z0 := hblk.out.frozen (j * 4)
        have z1 := hblk.out.frozen (j * 4 + 1)
        have z2 := hblk.out.frozen (j * 4 + 2)
        have z3 := hblk.out.frozen (j * 4 + 3)
        have HB := hid (hblk.out.put4 j ⟨r, r + 1, r + 1 + 1, r + 1 + 1 + 1⟩)
        have HS : Hid ((put4 cur j ⟨r, r + 1, r + 1 + 1, r + 1 + 1 + 1⟩).size = cap * 4) := (put4_size _ _ _).trans hsz.out
        have HF : Hid (Filled elFib (put4 cur j ⟨r, r + 1, r + 1 + 1, r + 1 + 1 + 1⟩) (fmarks k n) (j + 1)) := hfill.out.put4 (by rw [hr.out]; exact fmarks_get hlt) (by rw [hsz.out]; omega)
        have HR : Hid (r + 1 + 1 + 1 + 1 = k + 4 * ((j + 1 : Nat) : Int)) := by have := hr.out; unfold Hid; omega
        have HT := ht.trans (Touch.set4 (S := fun b => some g = some b) wr (g := g) rfl j ⟨r, r + 1, r + 1 + 1, r + 1 + 1 + 1⟩)
        clear hblk hsz hfill hr ht
        go_wp2
        go_roundw
        case rel => exact ⟨j + 1, _, _, by omega, by go_num, rfl, by omega, by omega, HR, HB, HS, HF, HT⟩
        case measure => simp [intOf]; omega
      · have hjn : j = n := by omega
        have HE : Hid (r = k + 4 * (n : Int)) := by rw [← hjn]; exact hr
        have HO := hid (Owns.of_blk (E := elFib) (base := base) hblk.out hg (fmarks_len k n) hnc hsz.out hcm (by have hq := hfill.out; rw [hjn] at hq; exact hq))
        clear hblk hsz hfill hr
        go_wp2
        go_ret
        exact ⟨by rw [HE.out]; rfl, HO.out, ht⟩
section
variable {base n c m d : Nat} {A A' : Option Addr} {xs : List ByteArray} {fs : List Fib}
theorem markNetwork_any (k : Int) (w : World) (h : NetOwn w base A n c A' m d xs fs) (hn : n ≤ 1048576) (hm : m ≤ 1048576) (hk0 : 0 ≤ k) (hk : k ≤ 549754765312) :
    Calls Try.prog 24 #[.agg #[.slice A n c, .slice A' m d], .int .i64 k] w fun e w' => e = .returned (.int .i64 (k + n + 4 * m)) ∧ NetOwn w' base A n c A' m d (smarks k n) (fmarks (k + n) m) ∧
      Touch (fun b => (Value.slice A n c).ownBlock = some b ∨ (Value.slice A' m d).ownBlock = some b) w w' := by
  have hb0 := bl_alloc (Below.refl w.heap.size w) (.cells #[.slice A n c, .slice A' m d] 35)
  have hx0 : Blk (w.alloc (.cells #[.slice A n c, .slice A' m d] 35)) w.heap.size 35 #[.slice A n c, .slice A' m d] := Blk.new _ _ _
  have hl1 := h.2.2.2.2.2.2.1.lies
  obtain ⟨a1, a2, a3, a4, a5, a6, a7, a8⟩ := h.below hb0
  have hne := owns_ne a7 a8 (by decide)
  go_enter Try.func24, Try.ntmps24
  go_wp2_with fail
  refine (markStringS_any k _ a7 a5 hn hk0 (by omega)).mono ?_
  rintro e w1 ⟨rfl, ho1, ht1⟩
  have q1 := (hx0.touch ht1 (fun hs => by have := (hl1 _ hs).2; omega)).cell 1
  simp at q1
  have a8' := a8.touch ht1 hne
  go_wp2_with fail
  refine (markFiberS_any (k + n) _ a8' a6 hm (by omega) (by omega)).mono ?_
  rintro e w2 ⟨rfl, ho2, ht2⟩
  have hne2 := owns_ne a8' ho1 (by decide)
  have ho1' := ho1.touch ht2 hne2
  go_wp2_with fail
  go_ret
  exact ⟨rfl, ⟨a1, a2, a3, a4, smarks_len _ _, fmarks_len _ _, ho1', ho2⟩, ((Touch.of_below hb0).trans (ht1.mono (fun _ h => .inl h))).trans (ht2.mono (fun _ h => .inr h))⟩
end
end Go.Proofs.Ytdnmkcalpfkfhaa
