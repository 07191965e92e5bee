/- Lemmas and walks that the claim rests on, laid together. Conditions: none. -/
import Derived.Test.YtilklngkmdffbaaDoorZd14c72bee5b3
import Derived.Test.YtilklngkmdffbaaDoorZ2bac870ba936
import Derived.Test.YtilklngkmdffbaaDoorRows
import Derived.Deep.Upon
import Derived.Deep.AppendLies
/- markStringS and heldStringS, walked. Conditions: at most 1048576 strings, marks below 2^40. -/
namespace Go.Proofs.YtilklngkmdffbaaDoor
open Go.RowKit
/-- The texts of the numbers from k on. -/
def smarks (k : Int) (n : Nat) : List ByteArray := (List.range n).map fun (j : Nat) => mtx (k + (j : Int)).toNat
theorem smarks_len (k : Int) (n : Nat) : (smarks k n).length = n := by simp [smarks]
theorem smarks_get {k : Int} {n j : Nat} (h : j < n) : (smarks k n)[j]? = some (mtx (k + (j : Int)).toNat) := by simp [smarks, h]
set_option maxRecDepth 100000 in
theorem markStringS_any {base n : Nat} {v : Value} {xs : List ByteArray} (k : Int) (w : World) (h : Owns elStr w base 9 v xs) (hl : xs.length = n) (hn : n ≤ 1048576) (hk0 : 0 ≤ k) (hk : k ≤ 1099510579200) :
    Calls Tryd.prog 44 #[v, .int .i64 k] w fun e w' => e = .returned (.int .i64 (k + n)) ∧ Owns elStr w' base 9 v (smarks k n) ∧ Touch (fun b => v.ownBlock = some b) w w' := by
  rcases h.cases with ⟨rfl, rfl⟩ | ⟨g, cap, cur0, rfl, hg, hb0, hnc, hcm, hs0, _⟩
  · subst hl
    go_enter Tryd.func44, Tryd.ntmps44
    go_wp2
    refine wp_loop_rounds 1 ?_
    rw [rounds_succ]
    go_wp2
    go_ret
    exact ⟨by simp, h, Touch.refl _ _⟩
  · rw [hl] at hnc ⊢
    have hc' : Hid (cur0.size = cap) := by rw [hs0]; exact Nat.mul_one cap
    have hb0' := hid hb0
    clear hl hs0 h hb0
    go_enter Tryd.func44, Tryd.ntmps44
    go_wp2
    go_loopw [1, 5] (fun t i wr => ∃ (j : Nat) (r : Int) (cur : Array Value), j ≤ n ∧ i = .int .i64 j ∧ t = .int .i64 r ∧ r ≤ 1099510579200 + j ∧ 0 ≤ r ∧ Hid (r = k + j) ∧ Hid (Blk wr g 9 cur) ∧ Hid (cur.size = cap) ∧ Hid (Filled elStr cur (smarks k n) j) ∧ Touch (fun b => some g = some b) w wr) (fun _ i _ => n - (intOf i).toNat)
    case atStart => exact ⟨0, k, cur0, Nat.zero_le _, rfl, rfl, by omega, hk0, by unfold Hid; simp, hb0', hc', Filled.zero _ _ _, Touch.refl _ _⟩
    case round =>
      clear hb0' hc'
      obtain ⟨j, r, cur, hj, rfl, rfl, hr1, hr0, hr, hblk, hsz, hfill, ht⟩ := hrel
      by_cases hlt : j < n
      · go_wp2_with fail
        refine (markText_any r _ hr0 (by omega)).mono ?_
        rintro e w2 ⟨rfl, hb2⟩
        have hblk2 := hid (hblk.out.below hb2 hblk.out.lt)
        obtain ⟨u, hu⟩ := hblk2.out.cell_ (i := j) (by rw [hsz.out]; omega)
        have hfz := hblk2.out.frozen j
        have HB := hid (hblk2.out.set j (.string (mtx r.toNat)))
        have HS : Hid ((cur.setIfInBounds j (.string (mtx r.toNat))).size = cap) := by rw [Array.size_setIfInBounds]; exact hsz
        have HF : Hid (Filled elStr (cur.setIfInBounds j (.string (mtx r.toNat))) (smarks k n) (j + 1)) := filled_str hfill.out (by rw [hr.out]; exact smarks_get hlt) (by rw [hsz.out]; omega)
        have HR : Hid (r + 1 = k + ((j + 1 : Nat) : Int)) := by have := hr.out; unfold Hid; omega
        have HT := (ht.then_ hb2).trans (Touch.set (S := fun b => some g = some b) w2 (p := ⟨g, j, none⟩) rfl (.string (mtx r.toNat)))
        clear hblk hblk2 hsz hfill hr ht
        go_wp2
        go_roundw
        case rel => exact ⟨j + 1, _, _, by omega, by go_num, rfl, by omega, by omega, HR, HB, HS, HF, HT⟩
        case measure => simp [intOf]; omega
      · have hjn : j = n := by omega
        have HE : Hid (r = k + (n : Int)) := by rw [← hjn]; exact hr
        have HO := hid (Owns.of_blk (E := elStr) (base := base) hblk.out hg (smarks_len k n) hnc (by rw [hsz.out]; exact (Nat.mul_one _).symm) hcm (by have hq := hfill.out; rw [hjn] at hq; exact hq))
        clear hblk hsz hfill hr
        go_wp2
        go_ret
        exact ⟨by rw [HE.out]; rfl, HO.out, ht⟩
set_option maxRecDepth 100000 in
theorem heldStringS_any {B n c : Nat} {A : Option Addr} (k : Int) (w : World) (h : Sees elStr w B A n (smarks k n)) (hn : n ≤ 1048576) (hk0 : 0 ≤ k) (hk : k ≤ 1099510579200) :
    Calls Tryd.prog 46 #[.slice A n c, .int .i64 k] w fun e w' => e = .returned (.int .i64 (k + n)) ∧ Below w.heap.size w w' := by
  go_enter Tryd.func46, Tryd.ntmps46
  go_wp2
  go_loopw [1, 5] (fun t i wr => ∃ (j : Nat) (r : Int), j ≤ n ∧ i = .int .i64 j ∧ t = .int .i64 r ∧ r ≤ 1099510579200 + j ∧ 0 ≤ r ∧ Hid (r = k + j) ∧ Below w.heap.size w wr) (fun _ i _ => n - (intOf i).toNat)
  case atStart => exact ⟨0, k, Nat.zero_le _, rfl, rfl, by omega, hk0, by unfold Hid; simp, Below.refl _ _⟩
  case round =>
    obtain ⟨j, r, hj, rfl, rfl, hr1, hr0, hr, hb⟩ := hrel
    by_cases hlt : j < n
    · obtain ⟨b, o, rfl, _, hc⟩ := h.at_ hlt
      have hx := bl_cell hb (hc j _ (smarks_get hlt) 0 _ rfl)
      rw [← hr.out] at hx
      simp only [elStr, Nat.mul_one, Nat.add_zero] at hx
      have HR : Hid (r + 1 = k + ((j + 1 : Nat) : Int)) := by have := hr.out; unfold Hid; omega
      have C0 : ∀ w', Cls wr w' → w'.cell? ⟨b, o + j, none⟩ = some (.string (mtx r.toNat)) := fun _ h => h.cell hx
      have i1 : (j : Int) < (n : Int) := by omega
      clear hc hr hx
      go_wp2_with fail
      refine region_cls (by kernel_rfl) (by kernel_rfl) ?_
      repeat (first
        | ((with_reducible refine quiet_pos ?_ (fun K hK => ?_))
           · rfl
           apply Exists.intro
           refine ⟨fun w' hw' => ?_, ?_⟩
           · go_simp
             first
               | with_reducible rfl
               | (go_at_call 73; exact hw'.call (markText_any r _ hr0 (by omega)))
           simp only [Act.put, List.setIfInBounds_toArray, List.set_cons_zero, List.set_cons_succ]
           refine hK _ ?_; clear hK K))
      with_reducible refine wpQuiet_nil ?_
      intro w3 hw3
      go_wp2
      go_roundw
      case rel => exact ⟨j + 1, _, by omega, by go_num, rfl, by omega, by omega, HR, bl_then hb hw3⟩
      case measure => simp [intOf]; omega
    · have hjn : j = n := by omega
      have HE : Hid (r = k + (n : Int)) := by rw [← hjn]; exact hr
      clear hr
      go_wp2
      go_ret
      exact ⟨by rw [HE.out]; rfl, hb⟩
end Go.Proofs.YtilklngkmdffbaaDoor
/- markFiberS, heldFiberS, markNetwork, heldNetwork, walked. Conditions: at most 1048576 elements, marks below 2^39. -/
namespace Go.Proofs.YtilklngkmdffbaaDoor
open Go.RowKit
/-- The fibers that four numbers each make, from k on. -/
def fmarks (k : Int) (n : Nat) : List Fib := (List.range n).map fun (j : Nat) => ⟨k + 4 * (j : Int), k + 4 * (j : Int) + 1, k + 4 * (j : Int) + 1 + 1, k + 4 * (j : Int) + 1 + 1 + 1⟩
theorem fmarks_len (k : Int) (n : Nat) : (fmarks k n).length = n := by simp [fmarks]
theorem fmarks_get {k : Int} {n j : Nat} (h : j < n) : (fmarks k n)[j]? = some ⟨k + 4 * (j : Int), k + 4 * (j : Int) + 1, k + 4 * (j : Int) + 1 + 1, k + 4 * (j : Int) + 1 + 1 + 1⟩ := by simp [fmarks, h]
theorem Touch.set4 {S : Nat → Prop} (w : World) {g : Nat} (hg : S g) (j : Nat) (f : Fib) :
    Touch S w ((((w.setCell ⟨g, j * 4, none⟩ (.int .i64 f.a)).setCell ⟨g, j * 4 + 1, none⟩ (.int .i64 f.b)).setCell ⟨g, j * 4 + 2, none⟩ (.int .i64 f.len)).setCell ⟨g, j * 4 + 3, none⟩ (.int .i64 f.risk)) :=
  (((Touch.set w (p := ⟨g, j * 4, none⟩) hg _).trans (Touch.set _ (p := ⟨g, j * 4 + 1, none⟩) hg _)).trans (Touch.set _ (p := ⟨g, j * 4 + 2, none⟩) hg _)).trans (Touch.set _ (p := ⟨g, j * 4 + 3, none⟩) hg _)
set_option maxHeartbeats 1000000 in
set_option maxRecDepth 100000 in
theorem markFiberS_any {base n : Nat} {v : Value} {xs : List Fib} (k : Int) (w : World) (h : Owns elFib w base 56 v xs) (hl : xs.length = n) (hn : n ≤ 1048576) (hk0 : 0 ≤ k) (hk : k ≤ 549755813888) :
    Calls Tryd.prog 45 #[v, .int .i64 k] w fun e w' => e = .returned (.int .i64 (k + 4 * n)) ∧ Owns elFib w' base 56 v (fmarks k n) ∧ Touch (fun b => v.ownBlock = some b) w w' := by
  rcases h.cases with ⟨rfl, rfl⟩ | ⟨g, cap, cur0, rfl, hg, hb0, hnc, hcm, hs0, _⟩
  · subst hl
    go_enter Tryd.func45, Tryd.ntmps45
    go_wp2
    refine wp_loop_rounds 1 ?_
    rw [rounds_succ]
    go_wp2
    go_ret
    exact ⟨by simp, h, Touch.refl _ _⟩
  · rw [hl] at hnc ⊢
    have hc' : Hid (cur0.size = cap * 4) := hs0
    have hb0' := hid hb0
    clear hl hs0 h hb0
    go_enter Tryd.func45, Tryd.ntmps45
    go_wp2
    go_loopw [1, 5] (fun t i wr => ∃ (j : Nat) (r : Int) (cur : Array Value), j ≤ n ∧ i = .int .i64 j ∧ t = .int .i64 r ∧ r ≤ 549755813888 + 4 * j ∧ 0 ≤ r ∧ Hid (r = k + 4 * j) ∧ Hid (Blk wr g 56 cur) ∧ Hid (cur.size = cap * 4) ∧ Hid (Filled elFib cur (fmarks k n) j) ∧ Touch (fun b => some g = some b) w wr) (fun _ i _ => n - (intOf i).toNat)
    case atStart => exact ⟨0, k, cur0, Nat.zero_le _, rfl, rfl, by omega, hk0, by unfold Hid; simp, hb0', hc', Filled.zero _ _ _, Touch.refl _ _⟩
    case round =>
      clear hb0' hc'
      obtain ⟨j, r, cur, hj, rfl, rfl, hr1, hr0, hr, hblk, hsz, hfill, ht⟩ := hrel
      by_cases hlt : j < n
      · obtain ⟨u0, hu0⟩ := hblk.out.cell_ (i := j * 4) (by rw [hsz.out]; omega)
        obtain ⟨u1, hu1⟩ := hblk.out.cell_ (i := j * 4 + 1) (by rw [hsz.out]; omega)
        obtain ⟨u2, hu2⟩ := hblk.out.cell_ (i := j * 4 + 2) (by rw [hsz.out]; omega)
        obtain ⟨u3, hu3⟩ := hblk.out.cell_ (i := j * 4 + 3) (by rw [hsz.out]; omega)
        have z0 := hblk.out.frozen (j * 4)
        have z1 := hblk.out.frozen (j * 4 + 1)
        have z2 := hblk.out.frozen (j * 4 + 2)
        have z3 := hblk.out.frozen (j * 4 + 3)
        have HB := hid (hblk.out.put4 j ⟨r, r + 1, r + 1 + 1, r + 1 + 1 + 1⟩)
        have HS : Hid ((put4 cur j ⟨r, r + 1, r + 1 + 1, r + 1 + 1 + 1⟩).size = cap * 4) := (put4_size _ _ _).trans hsz.out
        have HF : Hid (Filled elFib (put4 cur j ⟨r, r + 1, r + 1 + 1, r + 1 + 1 + 1⟩) (fmarks k n) (j + 1)) := hfill.out.put4 (by rw [hr.out]; exact fmarks_get hlt) (by rw [hsz.out]; omega)
        have HR : Hid (r + 1 + 1 + 1 + 1 = k + 4 * ((j + 1 : Nat) : Int)) := by have := hr.out; unfold Hid; omega
        have HT := ht.trans (Touch.set4 (S := fun b => some g = some b) wr (g := g) rfl j ⟨r, r + 1, r + 1 + 1, r + 1 + 1 + 1⟩)
        clear hblk hsz hfill hr ht
        go_wp2
        go_roundw
        case rel => exact ⟨j + 1, _, _, by omega, by go_num, rfl, by omega, by omega, HR, HB, HS, HF, HT⟩
        case measure => simp [intOf]; omega
      · have hjn : j = n := by omega
        have HE : Hid (r = k + 4 * (n : Int)) := by rw [← hjn]; exact hr
        have HO := hid (Owns.of_blk (E := elFib) (base := base) hblk.out hg (fmarks_len k n) hnc hsz.out hcm (by have hq := hfill.out; rw [hjn] at hq; exact hq))
        clear hblk hsz hfill hr
        go_wp2
        go_ret
        exact ⟨by rw [HE.out]; rfl, HO.out, ht⟩
set_option maxHeartbeats 1000000 in
set_option maxRecDepth 100000 in
theorem heldFiberS_any {B n c : Nat} {A : Option Addr} (k : Int) (w : World) (h : Sees elFib w B A n (fmarks k n)) (hn : n ≤ 1048576) (hk0 : 0 ≤ k) (hk : k ≤ 549755813888) :
    Calls Tryd.prog 47 #[.slice A n c, .int .i64 k] w fun e w' => e = .returned (.int .i64 (k + 4 * n)) ∧ Below w.heap.size w w' := by
  go_enter Tryd.func47, Tryd.ntmps47
  go_wp2
  go_loopw [1, 5] (fun t i wr => ∃ (j : Nat) (r : Int), j ≤ n ∧ i = .int .i64 j ∧ t = .int .i64 r ∧ r ≤ 549755813888 + 4 * j ∧ 0 ≤ r ∧ Hid (r = k + 4 * j) ∧ Below w.heap.size w wr) (fun _ i _ => n - (intOf i).toNat)
  case atStart => exact ⟨0, k, Nat.zero_le _, rfl, rfl, by omega, hk0, by unfold Hid; simp, Below.refl _ _⟩
  case round =>
    obtain ⟨j, r, hj, rfl, rfl, hr1, hr0, hr, hb⟩ := hrel
    by_cases hlt : j < n
    · obtain ⟨b, o, rfl, _, hc⟩ := h.at_ hlt
      have x0 := bl_cell hb (hc j _ (fmarks_get hlt) 0 _ rfl)
      have x1 := bl_cell hb (hc j _ (fmarks_get hlt) 1 _ rfl)
      have x2 := bl_cell hb (hc j _ (fmarks_get hlt) 2 _ rfl)
      have x3 := bl_cell hb (hc j _ (fmarks_get hlt) 3 _ rfl)
      rw [← hr.out] at x0 x1 x2 x3
      simp only [elFib, Nat.add_zero] at x0 x1 x2 x3
      have HR : Hid (r + 1 + 1 + 1 + 1 = k + 4 * ((j + 1 : Nat) : Int)) := by have := hr.out; unfold Hid; omega
      clear hc hr
      go_wp2
      go_roundw
      case rel => exact ⟨j + 1, _, by omega, by go_num, rfl, by omega, by omega, HR, hb⟩
      case measure => simp [intOf]; omega
    · have hjn : j = n := by omega
      have HE : Hid (r = k + 4 * (n : Int)) := by rw [← hjn]; exact hr
      clear hr
      go_wp2
      go_ret
      exact ⟨by rw [HE.out]; rfl, hb⟩
section
variable {base n c m d : Nat} {A A' : Option Addr} {xs : List ByteArray} {fs : List Fib}
theorem markNetwork_any (k : Int) (w : World) (h : NetOwn w base A n c A' m d xs fs) (hn : n ≤ 1048576) (hm : m ≤ 1048576) (hk0 : 0 ≤ k) (hk : k ≤ 549754765312) :
    Calls Tryd.prog 18 #[.agg #[.slice A n c, .slice A' m d], .int .i64 k] w fun e w' => e = .returned (.int .i64 (k + n + 4 * m)) ∧ NetOwn w' base A n c A' m d (smarks k n) (fmarks (k + n) m) ∧
      Touch (fun b => (Value.slice A n c).ownBlock = some b ∨ (Value.slice A' m d).ownBlock = some b) w w' := by
  have hb0 := bl_alloc (Below.refl w.heap.size w) (.cells #[.slice A n c, .slice A' m d] 31)
  have hx0 : Blk (w.alloc (.cells #[.slice A n c, .slice A' m d] 31)) w.heap.size 31 #[.slice A n c, .slice A' m d] := Blk.new _ _ _
  have hl1 := h.2.2.2.2.2.2.1.lies
  obtain ⟨a1, a2, a3, a4, a5, a6, a7, a8⟩ := h.below hb0
  have hne := owns_ne a7 a8 (by decide)
  go_enter Tryd.func18, Tryd.ntmps18
  go_wp2_with fail
  refine (markStringS_any k _ a7 a5 hn hk0 (by omega)).mono ?_
  rintro e w1 ⟨rfl, ho1, ht1⟩
  have q1 := (hx0.touch ht1 (fun hs => by have := (hl1 _ hs).2; omega)).cell 1
  simp at q1
  have a8' := a8.touch ht1 hne
  go_wp2_with fail
  refine (markFiberS_any (k + n) _ a8' a6 hm (by omega) (by omega)).mono ?_
  rintro e w2 ⟨rfl, ho2, ht2⟩
  have hne2 := owns_ne a8' ho1 (by decide)
  have ho1' := ho1.touch ht2 hne2
  go_wp2_with fail
  go_ret
  exact ⟨rfl, ⟨a1, a2, a3, a4, smarks_len _ _, fmarks_len _ _, ho1', ho2⟩, ((Touch.of_below hb0).trans (ht1.mono (fun _ h => .inl h))).trans (ht2.mono (fun _ h => .inr h))⟩
theorem heldNetwork_any (k : Int) (w : World) (hA : Sees elStr w w.heap.size A n (smarks k n)) (hF : Sees elFib w w.heap.size A' m (fmarks (k + n) m)) (hn : n ≤ 1048576) (hm : m ≤ 1048576) (hk0 : 0 ≤ k) (hk : k ≤ 549754765312) :
    Calls Tryd.prog 19 #[.agg #[.slice A n c, .slice A' m d], .int .i64 k] w fun e w' => e = .returned (.int .i64 (k + n + 4 * m)) ∧ Below w.heap.size w w' := by
  have hb0 := bl_alloc (Below.refl w.heap.size w) (.cells #[.slice A n c, .slice A' m d] 31)
  have hx0 : Blk (w.alloc (.cells #[.slice A n c, .slice A' m d] 31)) w.heap.size 31 #[.slice A n c, .slice A' m d] := Blk.new _ _ _
  go_enter Tryd.func19, Tryd.ntmps19
  go_wp2_with fail
  refine (heldStringS_any k _ (hA.grow hb0) hn hk0 (by omega)).mono ?_
  rintro e w1 ⟨rfl, hb1⟩
  have q1 := (hx0.below hb1 hx0.lt).cell 1
  simp at q1
  go_wp2_with fail
  refine (heldFiberS_any (k + n) _ ((hF.grow hb0).grow hb1) hm (by omega) (by omega)).mono ?_
  rintro e w2 ⟨rfl, hb2⟩
  go_wp2_with fail
  go_ret
  exact ⟨rfl, bl_then (bl_then hb0 hb1) hb2⟩
end
end Go.Proofs.YtilklngkmdffbaaDoor
/- The other end of a fiber: the program's and the reference's functions, walked. Conditions: none. -/
namespace Go.Proofs.YtilklngkmdffbaaDoor
open Go.RowKit
def otherF (f : Fib) (v : Int) : Int := if v = f.a then f.b else if v = f.b then f.a else -1
theorem otherF_bd {n : Nat} {f : Fib} (h : fibB n f = true) (v : Int) : -1 ≤ otherF f v ∧ otherF f v < n := by
  unfold fibB at h; simp at h; unfold otherF; split <;> (try split) <;> omega
theorem otherF_out {n : Nat} {f : Fib} {v : Int} (h : fibB n f = true) (hv : inB 0 ((n : Int) - 1) v = false) : otherF f v = -1 := by
  unfold fibB at h; simp at h; unfold inB at hv; simp at hv; unfold otherF; rw [if_neg (by omega), if_neg (by omega)]
set_option maxRecDepth 100000 in
theorem otherEnd_any (f : Fib) (v : Int) (w : World) :
    Calls Tryd.prog 83 #[fibV f, .int .i64 v] w fun e w' => e = .returned (.int .i64 (otherF f v)) ∧ Below w.heap.size w w' := by
  obtain ⟨a, b, l, r⟩ := f
  unfold fibV otherF
  simp only
  by_cases h1 : v = a
  · have e1 : (v == a) = true := by simp [h1]
    rw [if_pos h1]; clear h1
    go_enter Tryd.func83, Tryd.ntmps83
    go_wp2
    go_ret
    exact ⟨rfl, bl_alloc (Below.refl _ _) _⟩
  · have e1 : (v == a) = false := by simp [h1]
    rw [if_neg h1]; clear h1
    by_cases h2 : v = b
    · have e2 : (v == b) = true := by simp [h2]
      rw [if_pos h2]; clear h2
      go_enter Tryd.func83, Tryd.ntmps83
      go_wp2
      go_ret
      exact ⟨rfl, bl_alloc (Below.refl _ _) _⟩
    · have e2 : (v == b) = false := by simp [h2]
      rw [if_neg h2]; clear h2
      go_enter Tryd.func83, Tryd.ntmps83
      go_wp2
      go_ret
      exact ⟨rfl, bl_alloc (Below.refl _ _) _⟩
section
variable {n c m d : Nat} {A A' : Option Addr} {xs : List ByteArray} {fs : List Fib}
set_option maxRecDepth 100000 in
theorem l2Other_any (i : Int) (v : Int) (w : World) (h : NetIs w A n c A' m d xs fs) {f : Fib} (h0 : 0 ≤ i) (h1 : i < m) (hf : fs[i.toNat]? = some f) :
    Calls Tryd.prog 81 #[.agg #[.slice A n c, .slice A' m d], .int .i64 i, .int .i64 v] w fun e w' => e = .returned (.int .i64 (otherF f v)) ∧ Below w.heap.size w w' := by
  have hb0 := bl_alloc (Below.refl w.heap.size w) (.cells #[.slice A n c, .slice A' m d] 31)
  obtain ⟨b, o, rfl, _, hc⟩ := (h.grow hb0).fibs.at_ (k := i.toNat) (by omega)
  have f0 := hc _ f hf 0 _ rfl
  have f1 := hc _ f hf 1 _ rfl
  have f2 := hc _ f hf 2 _ rfl
  have f3 := hc _ f hf 3 _ rfl
  simp only [elFib, Nat.add_zero] at f0 f1 f2 f3
  have hm := h.mle
  clear hc hf h
  obtain ⟨a, b', l, r⟩ := f
  unfold otherF
  simp only at f0 f1 f2 f3 ⊢
  by_cases h2 : v = a
  · have e1 : (v == a) = true := by simp [h2]
    rw [if_pos h2]; clear h2
    go_enter Tryd.func81, Tryd.ntmps81
    go_wp2
    go_ret
    exact ⟨rfl, bl_alloc hb0 _⟩
  · have e1 : (v == a) = false := by simp [h2]
    rw [if_neg h2]; clear h2
    by_cases h3 : v = b'
    · have e2 : (v == b') = true := by simp [h3]
      rw [if_pos h3]; clear h3
      go_enter Tryd.func81, Tryd.ntmps81
      go_wp2
      go_ret
      exact ⟨rfl, bl_alloc hb0 _⟩
    · have e2 : (v == b') = false := by simp [h3]
      rw [if_neg h3]; clear h3
      go_enter Tryd.func81, Tryd.ntmps81
      go_wp2
      go_ret
      exact ⟨rfl, bl_alloc hb0 _⟩
end
end Go.Proofs.YtilklngkmdffbaaDoor
/- Routes: the nodes they come by, in plain Lean; a route in memory. Conditions: none. -/
namespace Go.Proofs.YtilklngkmdffbaaDoor
open Go.RowKit
/-- The node after k fibers. -/
def atW (fs : List Fib) (s : Int) (ids : List Int) : Nat → Int
  | 0 => s
  | k + 1 => otherF (fs.getD (ids.getD k 0).toNat ⟨0, 0, 0, 0⟩) (atW fs s ids k)
/-- The nodes up to there. -/
def outW (fs : List Fib) (s : Int) (ids : List Int) (k : Nat) : List Int := (List.range (k + 1)).map (atW fs s ids)
theorem outW_len (fs : List Fib) (s : Int) (ids : List Int) (k : Nat) : (outW fs s ids k).length = k + 1 := by simp [outW]
theorem outW_zero (fs : List Fib) (s : Int) (ids : List Int) : outW fs s ids 0 = [s] := rfl
theorem outW_succ (fs : List Fib) (s : Int) (ids : List Int) (k : Nat) : outW fs s ids (k + 1) = outW fs s ids k ++ [atW fs s ids (k + 1)] := by unfold outW; rw [List.range_succ (n := k + 1), List.map_append]; rfl
theorem outW_get (fs : List Fib) (s : Int) (ids : List Int) (k : Nat) : (outW fs s ids k)[k]? = some (atW fs s ids k) := by simp [outW]
theorem atW_succ {fs : List Fib} {s : Int} {ids : List Int} {k : Nat} {i : Int} {f : Fib} (hi : ids[k]? = some i) (hf : fs[i.toNat]? = some f) : atW fs s ids (k + 1) = otherF f (atW fs s ids k) := by
  show otherF _ _ = _
  rw [getD_of hi, getD_of hf]
/-- Step k is one that a route may take. -/
def okW (m : Nat) (fs : List Fib) (s : Int) (ids : List Int) (k : Nat) : Bool :=
  inB 0 ((m : Int) - 1) (ids.getD k 0) && (!decide (atW fs s ids (k + 1) < 0) && !hasB (outW fs s ids k) (atW fs s ids (k + 1)))
/-- Is it a route (of a network that is valid)? -/
def rtB (n : Nat) (fs : List Fib) (s : Int) (ids : List Int) : Bool := inB 0 ((n : Int) - 1) s && (!(ids.length == 0) && allB (okW fs.length fs s ids) ids.length)
/-- Its nodes; none of what is no route. -/
def rtL (n : Nat) (fs : List Fib) (s : Int) (ids : List Int) : List Int := if rtB n fs s ids then outW fs s ids ids.length else []
theorem rtL_yes {n : Nat} {fs : List Fib} {s : Int} {ids : List Int} (h : rtB n fs s ids = true) : rtL n fs s ids = outW fs s ids ids.length := if_pos h
theorem rtL_no {n : Nat} {fs : List Fib} {s : Int} {ids : List Int} (h : rtB n fs s ids = false) : rtL n fs s ids = [] := by unfold rtL; rw [h]; rfl
/-- .. of a network that may be invalid. -/
def routeB (xs : List ByteArray) (fs : List Fib) (s : Int) (ids : List Int) : Bool := goodB xs fs && rtB xs.length fs s ids
/-- A route lies in memory. -/
def RtIs (w : World) (R : Option Addr) (k e : Nat) (ids : List Int) : Prop := (k ≤ e ∧ k ≤ 1048576) ∧ Sees elInt w w.heap.size R k ids
section
variable {w w' : World} {R : Option Addr} {k e : Nat} {ids : List Int}
theorem RtIs.grow (h : RtIs w R k e ids) (hb : Below w.heap.size w w') : RtIs w' R k e ids := ⟨h.1, (h.2.grow hb).more hb.size⟩
theorem RtIs.len (h : RtIs w R k e ids) : ids.length = k := h.2.len
theorem RtIs.le (h : RtIs w R k e ids) : k ≤ 1048576 := h.1.2
end
end Go.Proofs.YtilklngkmdffbaaDoor
/- eqStringS, walked: two slices that show one list are equal. Conditions: none. -/
namespace Go.Proofs.YtilklngkmdffbaaDoor
open Go.RowKit
set_option maxRecDepth 100000 in
theorem eqStringS_any {B B' n c c' : Nat} {A A' : Option Addr} {xs : List ByteArray} (w : World) (hA : Sees elStr w B A n xs) (hA' : Sees elStr w B' A' n xs) (hn : n ≤ maxLen) :
    Calls Tryd.prog 29 #[.slice A n c, .slice A' n c'] w fun e w' => e = .returned (.bool true) ∧ ∃ q, w' = w.drewN q := by
  unfold maxLen at hn
  go_enter Tryd.func29, Tryd.ntmps29
  go_wp2
  go_loopw [5] (fun i wr => ∃ k q : Nat, k ≤ n ∧ i = .int .i64 k ∧ wr = w.drewN q) (fun i _ => n - (intOf i).toNat)
  case atStart => exact ⟨0, 0, Nat.zero_le _, rfl, rfl⟩
  case round =>
    obtain ⟨k, q, hk, rfl, rfl⟩ := hrel
    by_cases hlt : k < n
    · obtain ⟨b, o, rfl, _, hc⟩ := hA.at_ hlt
      obtain ⟨b', o', rfl, _, hc'⟩ := hA'.at_ hlt
      obtain ⟨x, hxk⟩ : ∃ x, xs[k]? = some x := ⟨xs[k]'(by rw [hA.len]; exact hlt), List.getElem?_eq_getElem _⟩
      have h1 := hc k x hxk 0 _ rfl
      have h2 := hc' k x hxk 0 _ rfl
      simp only [elStr, Nat.mul_one, Nat.add_zero] at h1 h2
      clear hc hc' hxk
      have i1 : (k : Int) < (n : Int) := by omega
      go_wp2
      go_quiet (fail)
      go_wp2
      go_roundw
      case rel => exact ⟨k + 1, _, by omega, by go_num, rfl⟩
      case measure => simp [intOf]; omega
    · go_wp2
      go_ret
      exact ⟨rfl, _, rfl⟩
end Go.Proofs.YtilklngkmdffbaaDoor
/- eqFiber, eqFiberS and eqNetwork, walked: what shows one list is equal. Conditions: none. -/
namespace Go.Proofs.YtilklngkmdffbaaDoor
open Go.RowKit
set_option maxRecDepth 100000 in
theorem eqFiber_any (f : Fib) (w : World) :
    Calls Tryd.prog 63 #[fibV f, fibV f] w fun e w' => e = .returned (.bool true) ∧ Below w.heap.size w w' := by
  obtain ⟨a, b, l, r⟩ := f
  unfold fibV
  go_enter Tryd.func63, Tryd.ntmps63
  go_wp2
  go_ret
  exact ⟨rfl, bl_alloc (bl_alloc (Below.refl _ _) _) _⟩
set_option maxHeartbeats 1000000 in
set_option maxRecDepth 100000 in
theorem eqFiberS_any {B B' n c c' : Nat} {A A' : Option Addr} {xs : List Fib} (w : World) (hA : Sees elFib w B A n xs) (hA' : Sees elFib w B' A' n xs) (hn : n ≤ maxLen) :
    Calls Tryd.prog 30 #[.slice A n c, .slice A' n c'] w fun e w' => e = .returned (.bool true) ∧ Below w.heap.size w w' := by
  unfold maxLen at hn
  go_enter Tryd.func30, Tryd.ntmps30
  go_wp2
  go_loopw [5] (fun i wr => ∃ k : Nat, k ≤ n ∧ i = .int .i64 k ∧ Below w.heap.size w wr) (fun i _ => n - (intOf i).toNat)
  case atStart => exact ⟨0, Nat.zero_le _, rfl, Below.refl _ _⟩
  case round =>
    obtain ⟨k, hk, rfl, hb⟩ := hrel
    by_cases hlt : k < n
    · obtain ⟨b, o, rfl, _, hc⟩ := hA.at_ hlt
      obtain ⟨b', o', rfl, _, hc'⟩ := hA'.at_ hlt
      obtain ⟨f, hfk⟩ : ∃ x, xs[k]? = some x := ⟨xs[k]'(by rw [hA.len]; exact hlt), List.getElem?_eq_getElem _⟩
      have T0 : ∀ w', Cls wr w' → w'.cell? ⟨b, o + k * 4, none⟩ = some (.int .i64 f.a) := fun _ h => h.cell (bl_cell hb (hc k f hfk 0 _ rfl))
      have T1 : ∀ w', Cls wr w' → w'.cell? ⟨b, o + k * 4 + 1, none⟩ = some (.int .i64 f.b) := fun _ h => h.cell (bl_cell hb (hc k f hfk 1 _ rfl))
      have T2 : ∀ w', Cls wr w' → w'.cell? ⟨b, o + k * 4 + 2, none⟩ = some (.int .i64 f.len) := fun _ h => h.cell (bl_cell hb (hc k f hfk 2 _ rfl))
      have T3 : ∀ w', Cls wr w' → w'.cell? ⟨b, o + k * 4 + 3, none⟩ = some (.int .i64 f.risk) := fun _ h => h.cell (bl_cell hb (hc k f hfk 3 _ rfl))
      have S0 : ∀ w', Cls wr w' → w'.cell? ⟨b', o' + k * 4, none⟩ = some (.int .i64 f.a) := fun _ h => h.cell (bl_cell hb (hc' k f hfk 0 _ rfl))
      have S1 : ∀ w', Cls wr w' → w'.cell? ⟨b', o' + k * 4 + 1, none⟩ = some (.int .i64 f.b) := fun _ h => h.cell (bl_cell hb (hc' k f hfk 1 _ rfl))
      have S2 : ∀ w', Cls wr w' → w'.cell? ⟨b', o' + k * 4 + 2, none⟩ = some (.int .i64 f.len) := fun _ h => h.cell (bl_cell hb (hc' k f hfk 2 _ rfl))
      have S3 : ∀ w', Cls wr w' → w'.cell? ⟨b', o' + k * 4 + 3, none⟩ = some (.int .i64 f.risk) := fun _ h => h.cell (bl_cell hb (hc' k f hfk 3 _ rfl))
      clear hc hc' hfk
      have i1 : (k : Int) < (n : Int) := by omega
      go_wp2
      refine region_cls (by kernel_rfl) (by kernel_rfl) ?_
      repeat (first
        | ((with_reducible refine quiet_pos ?_ (fun K hK => ?_))
           · rfl
           apply Exists.intro
           refine ⟨fun w' hw' => ?_, ?_⟩
           · go_simp
             first
               | with_reducible rfl
               | (go_at_call 63; exact hw'.call (eqFiber_any f _))
           simp only [Act.put, List.setIfInBounds_toArray, List.set_cons_zero, List.set_cons_succ]
           refine hK _ ?_; clear hK K))
      with_reducible refine wpQuiet_nil ?_
      intro w3 hw3
      go_wp2
      go_roundw
      case rel => exact ⟨k + 1, by omega, by go_num, bl_then hb hw3⟩
      case measure => simp [intOf]; omega
    · go_wp2
      go_ret
      exact ⟨rfl, hb⟩
set_option maxHeartbeats 1000000 in
set_option maxRecDepth 100000 in
theorem eqNetwork_any {B B' n c c' m d d' : Nat} {A A' E E' : Option Addr} {xs : List ByteArray} {fs : List Fib} (w : World) (hA : Sees elStr w B A n xs) (hA' : Sees elStr w B' A' n xs) (hF : Sees elFib w B E m fs) (hF' : Sees elFib w B' E' m fs)
    (hB : B ≤ w.heap.size) (hB' : B' ≤ w.heap.size) (hn : n ≤ maxLen) (hm : m ≤ maxLen) :
    Calls Tryd.prog 10 #[.agg #[.slice A n c, .slice E m d], .agg #[.slice A' n c', .slice E' m d']] w fun e w' => e = .returned (.bool true) ∧ Below w.heap.size w w' := by
  have hb0 : Below w.heap.size w ((w.alloc (.cells #[.slice A n c, .slice E m d] 31)).alloc (.cells #[.slice A' n c', .slice E' m d'] 31)) := bl_alloc (bl_alloc (Below.refl _ _) _) _
  have k1 := hA.below (hb0.mono hB)
  have k2 := hA'.below (hb0.mono hB')
  have k3 := hF.below (hb0.mono hB)
  have k4 := hF'.below (hb0.mono hB')
  go_enter Tryd.func10, Tryd.ntmps10
  go_wp2_with fail
  refine (eqStringS_any _ k1 k2 hn).mono ?_
  rintro e w1 ⟨rfl, q, rfl⟩
  go_wp2_with fail
  refine (eqFiberS_any _ (k3.drewN q) (k4.drewN q) hm).mono ?_
  rintro e w2 ⟨rfl, hb2⟩
  go_wp2_with fail
  go_ret
  exact ⟨rfl, bl_then (bl_drewN hb0 q) hb2⟩
end Go.Proofs.YtilklngkmdffbaaDoor
/- heldIntSS, walked. Conditions: at most 1048576 rows and numbers in a row; the last mark below 2^40. -/
namespace Go.Proofs.YtilklngkmdffbaaDoor
open Go.RowKit
end Go.Proofs.YtilklngkmdffbaaDoor
/- A ledger of what a walk has made in memory: the blocks of each thing, and how it reads. Conditions: none. -/
namespace Go.Proofs.YtilklngkmdffbaaDoor
open Go.RowKit
/-- One thing in memory: its blocks; how it reads. -/
structure Thing where
  S : Nat → Prop
  is : World → Prop
  st : ∀ w w' : World, is w → w.heap.size ≤ w'.heap.size → (∀ b, S b → w'.heap[b]? = w.heap[b]?) → is w'
  lies : ∀ w, is w → ∀ b, S b → b < w.heap.size
/-- From w0 to w these things have been made, no two of which share a block; what was there at w0 is as it was. -/
structure Led (w0 w : World) (L : List Thing) : Prop where
  bl : Below w0.heap.size w0 w
  all : ∀ (i : Nat) t, L[i]? = some t → t.is w ∧ ∀ b, t.S b → w0.heap.size ≤ b
  apart : ∀ (i j : Nat) a b, i ≠ j → L[i]? = some a → L[j]? = some b → ∀ k, a.S k → ¬ b.S k
section
variable {w0 w w' : World} {L : List Thing}
theorem Led.nil (w : World) : Led w w [] := ⟨Below.refl _ _, fun i t h => by simp at h, fun i j a b _ h => by simp at h⟩
theorem Led.step (h : Led w0 w L) (hb : Below w.heap.size w w') : Led w0 w' L :=
  ⟨bl_then h.bl hb, fun i t ht => ⟨t.st w w' (h.all i t ht).1 hb.size (fun b hS => hb.block b (t.lies w (h.all i t ht).1 b hS)), (h.all i t ht).2⟩, h.apart⟩
theorem Led.put (h : Led w0 w L) (hb : Below w.heap.size w w') (t : Thing) (hS : ∀ b, t.S b → w.heap.size ≤ b) (hi : t.is w') : Led w0 w' (t :: L) := by
  have h' := h.step hb
  refine ⟨h'.bl, fun i u hu => ?_, fun i j a b hij ha hb2 k h1 h2 => ?_⟩
  · cases i with
    | zero => simp at hu; subst hu; exact ⟨hi, fun b hb3 => Nat.le_trans h.bl.size (hS b hb3)⟩
    | succ i => simp at hu; exact h'.all i u hu
  · cases i with
    | zero =>
      cases j with
      | zero => exact hij rfl
      | succ j =>
        simp at ha hb2; subst ha
        have := hS k h1
        have := b.lies w (h.all j b hb2).1 k h2
        omega
    | succ i =>
      cases j with
      | zero =>
        simp at ha hb2; subst hb2
        have := hS k h2
        have := a.lies w (h.all i a ha).1 k h1
        omega
      | succ j =>
        simp at ha hb2
        exact h.apart i j a b (by omega) ha hb2 k h1 h2
theorem Led.get (h : Led w0 w L) (i : Nat) {t : Thing} (hi : L[i]? = some t) : t.is w := (h.all i t hi).1
theorem Led.touch (h : Led w0 w L) (i : Nat) {t t' : Thing} (hi : L[i]? = some t) (hS : t'.S = t.S) (ht : Touch t.S w w') (his : t'.is w') : Led w0 w' (L.set i t') := by
  refine ⟨h.bl.trans (ht.below (B := w0.heap.size) (h.all i t hi).2 h.bl.size), fun j u hu => ?_, fun j k a b hjk ha hb x h1 h2 => ?_⟩
  · rw [List.getElem?_set] at hu
    by_cases hij : i = j
    · subst hij
      rw [if_pos rfl] at hu
      split at hu
      · injection hu with hu; subst hu; exact ⟨his, by rw [hS]; exact (h.all i t hi).2⟩
      · cases hu
    · rw [if_neg hij] at hu
      exact ⟨u.st w w' (h.all j u hu).1 ht.size (fun b hb => ht.block b (u.lies w (h.all j u hu).1 b hb) (h.apart j i u t (by omega) hu hi b hb)), (h.all j u hu).2⟩
  · have key : ∀ (j : Nat) a, (L.set i t')[j]? = some a → ∃ a', L[j]? = some a' ∧ a.S = a'.S := by
      intro j a ha
      rw [List.getElem?_set] at ha
      by_cases hij : i = j
      · subst hij
        rw [if_pos rfl] at ha
        split at ha
        · injection ha with ha; subst ha; exact ⟨t, hi, hS⟩
        · cases ha
      · rw [if_neg hij] at ha; exact ⟨a, ha, rfl⟩
    obtain ⟨a', ha', ea⟩ := key j a ha
    obtain ⟨b', hb', eb⟩ := key k b hb
    rw [ea] at h1; rw [eb] at h2
    exact h.apart j k a' b' hjk ha' hb' x h1 h2
/-- Forget the newest but n. -/
theorem Led.drop (h : Led w0 w L) (n : Nat) : Led w0 w (L.drop n) :=
  ⟨h.bl, fun i t hi => h.all (n + i) t (by rwa [List.getElem?_drop] at hi), fun i j a b hij ha hb => h.apart (n + i) (n + j) a b (by omega) (by rwa [List.getElem?_drop] at ha) (by rwa [List.getElem?_drop] at hb)⟩
theorem Owns.st {α : Type} {E : El α} {base : Nat} {e : TypeId} {v : Value} {xs : List α} (h : Owns E w base e v xs) (hk : ∀ b, v.ownBlock = some b → w'.heap[b]? = w.heap[b]?) : Owns E w' base e v xs := by
  refine ⟨h.1, ?_⟩
  rcases h.2 with h0 | ⟨g, cap, cur, hv, hg, hh, r⟩
  · exact .inl h0
  · exact .inr ⟨g, cap, cur, hv, hg, (hk g (by rw [hv]; rfl)).trans hh, r⟩
end
def tBlk (g : Nat) (e : TypeId) (cur : Array Value) : Thing := ⟨fun b => b = g, fun w => Blk w g e cur, fun _ _ h _ hb => (hb g rfl).trans h, fun _ h b e => by subst e; exact h.lt⟩
def tOwns {α : Type} (E : El α) (base : Nat) (e : TypeId) (v : Value) (xs : List α) : Thing :=
  ⟨fun b => v.ownBlock = some b, fun w => Owns E w base e v xs, fun _ _ h _ hb => h.st hb, fun _ h b e => (h.lies b e).2⟩
def tNet (base : Nat) (A : Option Addr) (n c : Nat) (A' : Option Addr) (m d : Nat) (xs : List ByteArray) (fs : List Fib) : Thing :=
  ⟨fun b => (Value.slice A n c).ownBlock = some b ∨ (Value.slice A' m d).ownBlock = some b, fun w => NetOwn w base A n c A' m d xs fs,
    fun _ _ ⟨a, b, c, d, e, f, g, i⟩ _ hb => ⟨a, b, c, d, e, f, g.st (fun b h => hb b (.inl h)), i.st (fun b h => hb b (.inr h))⟩,
    fun _ ⟨_, _, _, _, _, _, g, i⟩ b e => by rcases e with e | e; exact (g.lies b e).2; exact (i.lies b e).2⟩
def tSS (base : Nat) (v : Value) (ss : List Sl) (rows : List (List Int)) : Thing :=
  ⟨fun b => v.ownBlock = some b ∨ ∃ (i : Nat) (s : Sl), ss[i]? = some s ∧ (slV s).ownBlock = some b, fun w => OwnsSS w base v ss rows,
    fun _ _ ⟨a, b, c, d⟩ _ hb => ⟨a.st (fun b h => hb b (.inl h)), b, fun i s r h1 h2 => (c i s r h1 h2).st (fun g h => hb g (.inr ⟨i, s, h1, h⟩)), d⟩,
    fun _ ⟨a, b, c, _⟩ g e => by
      rcases e with e | ⟨i, s, h1, e⟩
      · exact (a.lies g e).2
      · obtain ⟨r, hr⟩ : ∃ r, rows[i]? = some r := ⟨rows[i]'(by rw [← b]; exact (List.getElem?_eq_some_iff.1 h1).1), List.getElem?_eq_getElem _⟩
        exact ((c i s r h1 hr).lies g e).2⟩
section
variable {w0 w w' : World} {L : List Thing}
theorem Led.blk (h : Led w0 w L) (e : TypeId) (cur : Array Value) : Led w0 (w.alloc (.cells cur e)) (tBlk w.heap.size e cur :: L) :=
  h.put (bl_alloc (Below.refl _ _) _) _ (fun b e => by cases e; exact Nat.le_refl _) (Blk.new w e cur)
theorem Led.owns {α : Type} {E : El α} {e : TypeId} {v : Value} {xs : List α} (h : Led w0 w L) (hb : Below w.heap.size w w') (ho : Owns E w' w.heap.size e v xs) : Led w0 w' (tOwns E w.heap.size e v xs :: L) :=
  h.put hb _ (fun b e => (ho.lies b e).1) ho
theorem Led.net {A A' : Option Addr} {n c m d : Nat} {xs : List ByteArray} {fs : List Fib} (h : Led w0 w L) (hb : Below w.heap.size w w') (ho : NetOwn w' w.heap.size A n c A' m d xs fs) : Led w0 w' (tNet w.heap.size A n c A' m d xs fs :: L) :=
  h.put hb _ (fun b e => by obtain ⟨_, _, _, _, _, _, g, i⟩ := ho; rcases e with e | e; exact (g.lies b e).1; exact (i.lies b e).1) ho
theorem OwnsSS.lies {base : Nat} {v : Value} {ss : List Sl} {rows : List (List Int)} (h : OwnsSS w base v ss rows) {b : Nat} (hb : v.ownBlock = some b ∨ ∃ (i : Nat) (s : Sl), ss[i]? = some s ∧ (slV s).ownBlock = some b) : base ≤ b := by
  rcases hb with e | ⟨i, s, h1, e⟩
  · exact (h.1.lies b e).1
  · obtain ⟨r, hr⟩ : ∃ r, rows[i]? = some r := ⟨rows[i]'(by rw [← h.2.1]; exact (List.getElem?_eq_some_iff.1 h1).1), List.getElem?_eq_getElem _⟩
    exact ((h.2.2.1 i s r h1 hr).lies b e).1
theorem Led.ss {v : Value} {ss : List Sl} {rows : List (List Int)} (h : Led w0 w L) (hb : Below w.heap.size w w') (ho : OwnsSS w' w.heap.size v ss rows) : Led w0 w' (tSS w.heap.size v ss rows :: L) :=
  h.put hb _ (fun _ e => ho.lies e) ho
/-- A network and a row of numbers, made by one call. -/
theorem Led.net_owns {A A' : Option Addr} {n c m d : Nat} {xs : List ByteArray} {fs : List Fib} {v : Value} {is : List Int} (h : Led w0 w L) (hb : Below w.heap.size w w') (ho : NetOwn w' w.heap.size A n c A' m d xs fs) (hi : Owns elInt w' w.heap.size 3 v is) :
    Led w0 w' (tOwns elInt w.heap.size 3 v is :: tNet w.heap.size A n c A' m d xs fs :: L) := by
  have h1 := h.net hb ho
  have h2 := h.owns hb hi
  refine ⟨h1.bl, fun i t ht => ?_, fun i j a b hij ha hb2 k k1 k2 => ?_⟩
  · cases i with
    | zero => exact h2.all 0 t ht
    | succ i => exact h1.all i t ht
  · have key : ∀ k, (tOwns elInt w.heap.size 3 v is).S k → ¬ (tNet w.heap.size A n c A' m d xs fs).S k := by
      intro k e1 e2
      obtain ⟨_, _, _, _, _, _, g, i⟩ := ho
      rcases e2 with e2 | e2
      · exact owns_ne g hi (by decide) k e1 e2
      · exact owns_ne i hi (by decide) k e1 e2
    rcases i with _ | _ | i
    · rcases j with _ | _ | j
      · exact hij rfl
      · simp at ha hb2; subst ha; subst hb2; exact key k k1 k2
      · exact h2.apart 0 (j + 1) a b (by omega) ha hb2 k k1 k2
    · rcases j with _ | _ | j
      · simp at ha hb2; subst ha; subst hb2; exact key k k2 k1
      · exact hij rfl
      · exact h1.apart 0 (j + 1) a b (by omega) ha hb2 k k1 k2
    · rcases j with _ | _ | j
      · exact h2.apart (i + 1) 0 a b (by omega) ha hb2 k k1 k2
      · exact h1.apart (i + 1) 0 a b (by omega) ha hb2 k k1 k2
      · exact h1.apart (i + 1) (j + 1) a b (by omega) ha hb2 k k1 k2
end
/-! ### Marks in words of one shape -/
theorem eqI_led {w0 w : World} {L : List Thing} (h : Led w0 w L) (i j : Nat) {base base' c c' : Nat} {A A' : Option Addr} {xs : List Int} (hi : L[i]? = some (tOwns elInt base 3 (.slice A xs.length c) xs)) (hj : L[j]? = some (tOwns elInt base' 3 (.slice A' xs.length c') xs)) (hn : xs.length ≤ 1048576) :
    Calls Tryd.prog 37 #[.slice A xs.length c, .slice A' xs.length c'] w fun e w' => e = .returned (.bool true) ∧ Led w0 w' L :=
  (eqIntS_any w (Owns.sees (h.get i hi)) (Owns.sees (h.get j hj)) hn).mono fun _ _ ⟨he, q, hq⟩ => ⟨he, h.step (by rw [hq]; exact bl_drewN (Below.refl _ _) _)⟩
theorem markN_led {w0 w : World} {L : List Thing} (h : Led w0 w L) (i : Nat) {base n c m d : Nat} {A A' : Option Addr} {xs : List ByteArray} {fs : List Fib} (hi : L[i]? = some (tNet base A n c A' m d xs fs)) (k : Int) (hn : n ≤ 1048576) (hm : m ≤ 1048576) (hk0 : 0 ≤ k) (hk : k ≤ 549754765312) :
    Calls Tryd.prog 18 #[.agg #[.slice A n c, .slice A' m d], .int .i64 k] w fun e w' => e = .returned (.int .i64 (k + n + 4 * m)) ∧ Led w0 w' (L.set i (tNet base A n c A' m d (smarks k n) (fmarks (k + n) m))) :=
  (markNetwork_any k w (h.get i hi) hn hm hk0 hk).mono fun _ _ ⟨he, ho, ht⟩ => ⟨he, h.touch i hi rfl ht ho⟩
theorem heldN_led {w0 w : World} {L : List Thing} (h : Led w0 w L) (i : Nat) {base n c m d : Nat} {A A' : Option Addr} (k : Int) (hi : L[i]? = some (tNet base A n c A' m d (smarks k n) (fmarks (k + n) m))) (hn : n ≤ 1048576) (hm : m ≤ 1048576) (hk0 : 0 ≤ k) (hk : k ≤ 549754765312) :
    Calls Tryd.prog 19 #[.agg #[.slice A n c, .slice A' m d], .int .i64 k] w fun e w' => e = .returned (.int .i64 (k + n + 4 * m)) ∧ Led w0 w' L :=
  (heldNetwork_any k w (NetOwn.strs (h.get i hi)) (NetOwn.fibs (h.get i hi)) hn hm hk0 hk).mono fun _ _ ⟨he, hw⟩ => ⟨he, h.step hw⟩
theorem eqN_led {w0 w : World} {L : List Thing} (h : Led w0 w L) (i j : Nat) {base base' n c m d c' d' : Nat} {A A' E E' : Option Addr} {xs : List ByteArray} {fs : List Fib} (hi : L[i]? = some (tNet base A n c A' m d xs fs)) (hj : L[j]? = some (tNet base' E n c' E' m d' xs fs)) (hn : n ≤ 1048576) (hm : m ≤ 1048576) :
    Calls Tryd.prog 10 #[.agg #[.slice A n c, .slice A' m d], .agg #[.slice E n c', .slice E' m d']] w fun e w' => e = .returned (.bool true) ∧ Led w0 w' L :=
  (eqNetwork_any w (NetOwn.strs (h.get i hi)) (NetOwn.strs (h.get j hj)) (NetOwn.fibs (h.get i hi)) (NetOwn.fibs (h.get j hj)) (Nat.le_refl _) (Nat.le_refl _) (by simp only [maxLen]; omega) (by simp only [maxLen]; omega)).mono fun _ _ ⟨he, hw⟩ => ⟨he, h.step hw⟩
theorem eqN_led2 {w0 w : World} {L : List Thing} (h : Led w0 w L) (i j : Nat) {base base' n c m d c' d' : Nat} {A A' E E' : Option Addr} {xs : List ByteArray} {fs : List Fib} (hi : L[i]? = some (tNet base A n c A' m d xs fs)) (hj : L[j]? = some (tNet base' E n c' E' m d' xs fs)) (hn : n ≤ 1048576) (hm : m ≤ 1048576) :
    Calls Tryd.prog 10 #[.agg #[.slice A n c, .slice A' m d], .agg #[.slice E n c', .slice E' m d']] w fun e w' => e = .returned (.bool true) ∧ Led w0 w' L ∧ Below w.heap.size w w' :=
  (eqNetwork_any w (NetOwn.strs (h.get i hi)) (NetOwn.strs (h.get j hj)) (NetOwn.fibs (h.get i hi)) (NetOwn.fibs (h.get j hj)) (Nat.le_refl _) (Nat.le_refl _) (by simp only [maxLen]; omega) (by simp only [maxLen]; omega)).mono fun _ _ ⟨he, hw⟩ => ⟨he, h.step hw, hw⟩
theorem ss_n {w : World} {base n c : Nat} {A : Option Addr} {ss : List Sl} {rows : List (List Int)} (h : OwnsSS w base (.slice A n c) ss rows) : n = rows.length := by
  obtain ⟨A', c', hv, _⟩ := h.1.form
  injection hv with _ e2 _
  rw [e2, h.2.1]
theorem ss_rows {w : World} {base : Nat} {v : Value} {ss : List Sl} {rows : List (List Int)} (h : (tSS base v ss rows).is w) : ss.length = rows.length := (show OwnsSS w base v ss rows from h).2.1
/-! ### Looks into the ledger -/
section
variable {w0 w : World} {L : List Thing}
theorem Led.cell (h : Led w0 w L) (i j : Nat) {g : Nat} {e : TypeId} {l : List Value} {u : Value} (hi : L[i]? = some (tBlk g e l.toArray)) (hj : l[j]? = some u) : w.cell? ⟨g, j, none⟩ = some u := by
  have hb : Blk w g e l.toArray := h.get i hi
  rw [hb.cell]; simpa using hj
theorem Led.frozen (h : Led w0 w L) (i j : Nat) {g : Nat} {e : TypeId} {l : List Value} (hi : L[i]? = some (tBlk g e l.toArray)) : w.frozen? ⟨g, j, none⟩ = false := Blk.frozen (h.get i hi) j
theorem Led.seesI (h : Led w0 w L) (i : Nat) {base c : Nat} {A : Option Addr} {xs : List Int} (hi : L[i]? = some (tOwns elInt base 3 (.slice A xs.length c) xs)) : Sees elInt w w.heap.size A xs.length xs := Owns.sees (h.get i hi)
theorem Led.rt (h : Led w0 w L) (i : Nat) {base c : Nat} {A : Option Addr} {xs : List Int} (hi : L[i]? = some (tOwns elInt base 3 (.slice A xs.length c) xs)) (hk : xs.length ≤ 1048576) : RtIs w A xs.length c xs := by
  have ho : Owns elInt w base _ _ xs := h.get i hi
  obtain ⟨A', c', hv, h1, _, _⟩ := ho.form
  injection hv with _ _ e3
  exact ⟨⟨by omega, hk⟩, ho.sees⟩
theorem Led.netIs (h : Led w0 w L) (i : Nat) {base n c m d : Nat} {A A' : Option Addr} {xs : List ByteArray} {fs : List Fib} (hi : L[i]? = some (tNet base A n c A' m d xs fs)) (hn : n ≤ 1048576) (hm : m ≤ 1048576) (hx : ∀ x ∈ xs, x.size ≤ maxLen) : NetIs w A n c A' m d xs fs :=
  NetOwn.is (h.get i hi) hn hm hx
/-- A block made by the walk, under the walk's name for its address. -/
theorem Led.blk_ (h : Led w0 w L) (g : Nat) (hg : g = w.heap.size) (e : TypeId) (cur : Array Value) : Led w0 (w.alloc (.cells cur e)) (tBlk g e cur :: L) := by subst hg; exact h.blk e cur
end
end Go.Proofs.YtilklngkmdffbaaDoor
/- The ledger in a function's own walk: appends, stores, new rows. Conditions: at most 1099511627776 elements. -/
namespace Go.Proofs.YtilklngkmdffbaaDoor
open Go.RowKit
section
variable {w0 w w' : World} {L : List Thing}
/-- One thing grows: into its own blocks or into new ones. -/
theorem Led.regrow (h : Led w0 w L) (i : Nat) {t t' : Thing} (hi : L[i]? = some t) (ht : Touch t.S w w') (hS : ∀ b, t'.S b → t.S b ∨ w.heap.size ≤ b) (his : t'.is w') : Led w0 w' (L.set i t') := by
  refine ⟨h.bl.trans (ht.below (B := w0.heap.size) (h.all i t hi).2 h.bl.size), fun j u hu => ?_, fun j k a b hjk ha hb x h1 h2 => ?_⟩
  · rw [List.getElem?_set] at hu
    by_cases hij : i = j
    · subst hij
      rw [if_pos rfl] at hu
      split at hu
      · injection hu with hu; subst hu
        refine ⟨his, fun b hb => ?_⟩
        rcases hS b hb with h1 | h1
        · exact (h.all i t hi).2 b h1
        · exact Nat.le_trans h.bl.size h1
      · cases hu
    · rw [if_neg hij] at hu
      exact ⟨u.st w w' (h.all j u hu).1 ht.size (fun b hb => ht.block b (u.lies w (h.all j u hu).1 b hb) (h.apart j i u t (by omega) hu hi b hb)), (h.all j u hu).2⟩
  · have key : ∀ (j : Nat) a, (L.set i t')[j]? = some a → (j = i ∧ a = t') ∨ (j ≠ i ∧ L[j]? = some a) := by
      intro j a ha
      rw [List.getElem?_set] at ha
      by_cases hij : i = j
      · subst hij
        rw [if_pos rfl] at ha
        split at ha
        · injection ha with ha; exact .inl ⟨rfl, ha.symm⟩
        · cases ha
      · rw [if_neg hij] at ha; exact .inr ⟨fun e => hij e.symm, ha⟩
    rcases key j a ha with ⟨rfl, rfl⟩ | ⟨hji, ha'⟩
    · rcases key k b hb with ⟨rfl, rfl⟩ | ⟨hki, hb'⟩
      · exact hjk rfl
      · rcases hS x h1 with h3 | h3
        · exact h.apart j k t b hjk hi hb' x h3 h2
        · have := b.lies w (h.all k b hb').1 x h2; omega
    · rcases key k b hb with ⟨rfl, rfl⟩ | ⟨hki, hb'⟩
      · rcases hS x h2 with h3 | h3
        · exact h.apart j k a t hjk ha' hi x h1 h3
        · have := a.lies w (h.all j a ha').1 x h1; omega
      · exact h.apart j k a b hjk ha' hb' x h1 h2
/-- A store into a block of the ledger. -/
theorem Led.set (h : Led w0 w L) (i : Nat) {g : Nat} {e : TypeId} {l : List Value} (hi : L[i]? = some (tBlk g e l.toArray)) (j : Nat) (u : Value) : Led w0 (w.setCell ⟨g, j, none⟩ u) (L.set i (tBlk g e (l.set j u).toArray)) :=
  h.touch i hi rfl (Touch.set (S := fun b => b = g) w (p := ⟨g, j, none⟩) rfl u) (by
    have hb : Blk w g e l.toArray := h.get i hi
    have := hb.set j u
    have e1 : l.toArray.setIfInBounds j u = (l.set j u).toArray := by simp
    rw [e1] at this
    exact this)
/-- A row made by a call. -/
theorem Led.owns_ {α : Type} {E : El α} {e : TypeId} {v : Value} {xs : List α} {base b0 : Nat} (h : Led w0 w L) (hb : Below w.heap.size w w') (ho : Owns E w' base e v xs) (hB : w.heap.size ≤ base) (h0 : b0 ≤ base) : Led w0 w' (tOwns E b0 e v xs :: L) :=
  h.put hb (tOwns E b0 e v xs) (fun b e => Nat.le_trans hB (ho.lies b e).1) (ho.base h0)
/-- A row of no elements, in a block of its own. -/
theorem Led.empty {α : Type} (h : Led w0 w L) (E : El α) (e : TypeId) (g : Nat) (hg : g = w.heap.size) (b0 : Nat) (h0 : b0 ≤ g) : Led w0 (w.alloc (.cells #[] e)) (tOwns E b0 e (.slice (some ⟨g, 0, none⟩) 0 0) [] :: L) := by
  subst hg
  exact h.owns_ (bl_alloc (Below.refl _ _) _) (Owns.of_blk (n := 0) (cap := 0) (cur := #[]) (Blk.new w e #[]) (Nat.le_refl _) rfl (Nat.le_refl _) (by simp) (by decide) (Filled.zero _ _ _)) (Nat.le_refl _) h0
theorem filled_single {α : Type} (E : El α) (x : α) : Filled E (E.cells x).toArray [x] 1 := by
  intro j y hj hy i u hu
  obtain rfl : j = 0 := by omega
  simp at hy; subst hy
  simpa using hu
/-- A row of one element, in a block of its own. -/
theorem Led.single {α : Type} (h : Led w0 w L) (E : El α) (x : α) (e : TypeId) (g : Nat) (hg : g = w.heap.size) (b0 : Nat) (h0 : b0 ≤ g) : Led w0 (w.alloc (.cells (E.cells x).toArray e)) (tOwns E b0 e (.slice (some ⟨g, 0, none⟩) 1 1) [x] :: L) := by
  subst hg
  exact h.owns_ (bl_alloc (Below.refl _ _) _) (Owns.of_blk (n := 1) (cap := 1) (cur := (E.cells x).toArray) (Blk.new w e _) (Nat.le_refl _) rfl (Nat.le_refl _) (by simp [E.len]) (by decide) (filled_single E x)) (Nat.le_refl _) h0
/-- The nil slice. -/
theorem Led.nilS {α : Type} (h : Led w0 w L) (E : El α) (e : TypeId) (b0 : Nat) : Led w0 w (tOwns E b0 e (.slice none 0 0) [] :: L) :=
  h.put (Below.refl _ _) (tOwns E b0 e (.slice none 0 0) []) (fun b e => by cases e) (World.ownsRow_nil _ _ _ _)
theorem Led.sees {α : Type} {E : El α} (h : Led w0 w L) (i : Nat) {base c n : Nat} {e : TypeId} {A : Option Addr} {xs : List α} (hi : L[i]? = some (tOwns E base e (.slice A n c) xs)) (hn : n = xs.length) : Sees E w w.heap.size A n xs := by
  subst hn
  exact Owns.sees (show Owns E w base e (.slice A xs.length c) xs from h.get i hi)
theorem Led.form {α : Type} {E : El α} (h : Led w0 w L) (i : Nat) {base : Nat} {e : TypeId} {v : Value} {xs : List α} (hi : L[i]? = some (tOwns E base e v xs)) : ∃ A c, v = .slice A xs.length c ∧ xs.length ≤ c := by
  obtain ⟨A, c, h1, h2, _⟩ := Owns.form (show Owns E w base e v xs from h.get i hi)
  exact ⟨A, c, h1, h2⟩
theorem Led.own {α : Type} {E : El α} (h : Led w0 w L) (i : Nat) {base : Nat} {e : TypeId} {v : Value} {xs : List α} (hi : L[i]? = some (tOwns E base e v xs)) : Owns E w base e v xs := h.get i hi
end
/-- A new block shows its one element. -/
theorem sees_new {α : Type} (E : El α) (w : World) (x : α) (e : TypeId) (g : Nat) (hg : g = w.heap.size) : Sees E (w.alloc (.cells (E.cells x).toArray e)) (w.heap.size + 1) (some ⟨g, 0, none⟩) 1 [x] := by
  subst hg
  refine ⟨rfl, .inr ⟨w.heap.size, 0, rfl, Nat.lt_succ_self _, fun k y hy j u hu => ?_⟩⟩
  have hb : Blk (w.alloc (.cells (E.cells x).toArray e)) w.heap.size e (E.cells x).toArray := Blk.new _ _ _
  have hk : k = 0 := by have := (List.getElem?_eq_some_iff.1 hy).1; simp at this; omega
  subst hk
  simp at hy; subst hy
  rw [hb.cell]; simpa using hu
section
variable {P : Program}
/-- append onto a row of the call's own, of whatever is seen. -/
theorem run_append_all {α : Type} {E : El α} {w : World} {base : Nat} {e t ty : TypeId} {v : Value} {xs ys : List α} {A : Option Addr} {n c B : Nat} {i : TypeInfo} {z : Value} (ht : P.underlying t = some (.slice e)) (hi : P.info? e = some i) (hz0 : i.zero = some z) (hz1 : i.size = E.sz)
    (hzs : z.cells.size = E.sz) (ho : Owns E w base e v xs) (hy : Sees E w B A n ys) (h63 : xs.length + n ≤ 1099511627776) (hby : i.bytes ≤ 64) (hbase : base ≤ w.heap.size) :
    ∃ A' c' w', (Builtin.append_ #[t, t] ty #[v, .slice A n c]).run P w = .ok (.slice A' (xs.length + n) c') w' ∧ Owns E w' base e (.slice A' (xs.length + n) c') (xs ++ ys) ∧ w.grownBy w' v.ownBlock ∧
      ∀ g, (Value.slice A' (xs.length + n) c').ownBlock = some g → v.ownBlock = some g ∨ g = w.heap.size := by
  have hyl := hy.len
  rcases A with _ | ad
  · have hn : n = 0 := by
      rcases hy.2 with h | ⟨b, o, h, _⟩
      · exact h
      · cases h
    subst hn
    have hys : ys = [] := List.eq_nil_of_length_eq_zero hyl
    subst hys
    obtain ⟨A1, c1, rfl, hc1, _, _⟩ := ho.form
    refine ⟨A1, c1, w, ?_, by simpa using ho, ⟨rfl, rfl, rfl, Nat.le_refl _, fun _ _ _ => rfl⟩, fun g hg => .inl hg⟩
    have h1 := run_append_nothing (P := P) w t t ty e i ht hi A1 xs.length c1 hc1 (.slice none 0 c) (Src.ofNil w ht c)
    simpa using h1
  · have hcells : ∀ j u, (ys.flatMap E.cells)[j]? = some u → w.cell? (ad.add j) = some u := by
      intro j u hj
      rcases hy.2 with h | ⟨b, o, h, _, hc⟩
      · subst h
        rw [List.eq_nil_of_length_eq_zero hyl] at hj; simp at hj
      · injection h with h; subst h
        have hpos := E.pos
        have hjl : j < ys.length * E.sz := by rw [← flat_len]; exact (List.getElem?_eq_some_iff.1 hj).1
        have hk : j / E.sz < ys.length := (Nat.div_lt_iff_lt_mul hpos).2 hjl
        obtain ⟨y, hyk⟩ : ∃ y, ys[j / E.sz]? = some y := ⟨ys[j / E.sz], List.getElem?_eq_getElem hk⟩
        have hm : j % E.sz < (E.cells y).length := by rw [E.len]; exact Nat.mod_lt _ hpos
        have h1 := hc (j / E.sz) y hyk (j % E.sz) _ (List.getElem?_eq_getElem hm)
        have h2 := flat_get E ys (j / E.sz) y hyk (j % E.sz) _ (List.getElem?_eq_getElem hm)
        have e1 : j / E.sz * E.sz + j % E.sz = j := by rw [Nat.mul_comm]; exact Nat.div_add_mod j E.sz
        rw [e1] at h2
        rw [hj] at h2
        injection h2 with h2
        rw [← h2] at h1
        have e2 : o + j / E.sz * E.sz + j % E.sz = o + j := by omega
        rw [e2] at h1
        rw [← h1]
        unfold Addr.add
        split
        · rename_i h0; rw [h0, Nat.add_zero]
        · rfl
    have h1c : ∀ u ∈ ys.flatMap E.cells, u.oneCell' = true := fun u hu => by
      obtain ⟨y, _, h2⟩ := List.mem_flatMap.1 hu
      exact E.one y u h2
    obtain ⟨v', w', hr, h2, h3, _, h5⟩ := run_append_own_at (P := P) w base t ty e i z E.sz i.bytes ht hi hz0 hz1 rfl hzs E.pos v xs.length (xs.flatMap E.cells) ho ad n c (ys.flatMap E.cells) (by rw [flat_len, hyl]) hcells h1c (by unfold maxLen; omega)
      (by have : (xs.length + n) * i.bytes ≤ 1099511627776 * 64 := Nat.mul_le_mul h63 hby; omega) hbase
    have ho' : Owns E w' base e v' (xs ++ ys) := by
      unfold Owns
      rw [List.length_append, hyl, List.flatMap_append]
      exact h2
    obtain ⟨A', c', hv, _⟩ := ho'.form
    rw [List.length_append, hyl] at hv
    subst hv
    refine ⟨A', c', w', hr, ho', h3, fun g hg => ?_⟩
    rcases h5 with h5 | h5
    · exact .inl (by rw [← h5]; exact hg)
    · exact .inr (by rw [h5] at hg; injection hg with hg; exact hg.symm)
variable {w0 w : World} {L : List Thing} {ops : Array Oper} {rest : List Oper} {o : Oper} {a : Act} {Q : Exit → Act → World → Prop}
theorem wp_append_led {α : Type} {E : El α} {K : Act → World → Prop} (s x : Operand) (t : TypeId) (ho : o.op = .call { callee := .builtin .append, args := #[s, x], argTypes := #[t, t] }) (hS : Led w0 w L) (j : Nat) {base : Nat} {e : TypeId} {v : Value} {xs ys : List α}
    (hj : L[j]? = some (tOwns E base e v xs)) {A : Option Addr} {n c B : Nat} {i : TypeInfo} {z : Value} (ht : P.underlying t = some (.slice e)) (hi : P.info? e = some i) (hz0 : i.zero = some z) (hz1 : i.size = E.sz) (hby : i.bytes ≤ 64) (hzs : z.cells.size = E.sz)
    (hs : a.eval s = v) (hx : a.eval x = .slice A n c) (hy : Sees E w B A n ys) (h63 : xs.length + n ≤ 1099511627776) (hbase : base ≤ w.heap.size)
    (h : ∀ A' c' w', Led w0 w' (L.set j (tOwns E base e (.slice A' (xs.length + n) c') (xs ++ ys))) → K (a.put o.dst (.slice A' (xs.length + n) c')) w') : o.wp P a w K Q := by
  obtain ⟨A', c', w', hr, h2, h3, h4⟩ := run_append_all (P := P) (ty := o.type) (c := c) ht hi hz0 hz1 hzs (hS.own j hj) hy h63 hby hbase
  unfold Oper.wp execOp
  simp only [ho, resolve, invoke, builtin, Sem.run_bind, Sem.run_pure, Result.andThen_ok, List.map_toArray, List.map_cons, List.map_nil, hs, hx, hr]
  refine h A' c' w' (hS.regrow j hj ⟨h3.os, h3.tape, h3.output, h3.size, fun k hk hn => h3.block k hk (fun e => hn e.symm)⟩ (fun b hb => ?_) h2)
  rcases h4 b hb with h5 | h5
  · exact .inl h5
  · exact .inr (by omega)
theorem wpList_append_led {α : Type} {E : El α} (hgd : o.guard = none) (s x : Operand) (t : TypeId) (ho : o.op = .call { callee := .builtin .append, args := #[s, x], argTypes := #[t, t] }) (hS : Led w0 w L) (j : Nat) {base : Nat} {e : TypeId} {v : Value} {xs ys : List α}
    (hj : L[j]? = some (tOwns E base e v xs)) {A : Option Addr} {n c B : Nat} {i : TypeInfo} {z : Value} (ht : P.underlying t = some (.slice e)) (hi : P.info? e = some i) (hz0 : i.zero = some z) (hz1 : i.size = E.sz) (hby : i.bytes ≤ 64) (hzs : z.cells.size = E.sz)
    (hs : a.eval s = v) (hx : a.eval x = .slice A n c) (hy : Sees E w B A n ys) (h63 : xs.length + n ≤ 1099511627776) (hbase : base ≤ w.heap.size)
    (h : ∀ A' c' w', Led w0 w' (L.set j (tOwns E base e (.slice A' (xs.length + n) c') (xs ++ ys))) → wpList P ops Q rest (a.put o.dst (.slice A' (xs.length + n) c')) w') : wpList P ops Q (o :: rest) a w :=
  wpList_plain hgd fun _ hK => wp_append_led s x t ho hS j hj ht hi hz0 hz1 hby hzs hs hx hy h63 hbase fun A' c' w' h2 => hK _ _ (h A' c' w' h2)
theorem step_append_led {α : Type} {E : El α} {K : Act → World → Prop} {F : Prop} (hgd : o.guard = none) (s x : Operand) (t : TypeId) (ho : o.op = .call { callee := .builtin .append, args := #[s, x], argTypes := #[t, t] }) (hS : Led w0 w L) (j : Nat) {base : Nat} {e : TypeId} {v : Value} {xs ys : List α}
    (hj : L[j]? = some (tOwns E base e v xs)) {A : Option Addr} {n c B : Nat} {i : TypeInfo} {z : Value} (ht : P.underlying t = some (.slice e)) (hi : P.info? e = some i) (hz0 : i.zero = some z) (hz1 : i.size = E.sz) (hby : i.bytes ≤ 64) (hzs : z.cells.size = E.sz)
    (hs : a.eval s = v) (hx : a.eval x = .slice A n c) (hy : Sees E w B A n ys) (h63 : xs.length + n ≤ 1099511627776) (hbase : base ≤ w.heap.size)
    (h : ∀ A' c' w', Led w0 w' (L.set j (tOwns E base e (.slice A' (xs.length + n) c') (xs ++ ys))) → K (a.put o.dst (.slice A' (xs.length + n) c')) w') : if Region.wanted o (yielded ops a.tmps) = true then Oper.wp P o a w K Q else F := by
  have hw : Region.wanted o (yielded ops a.tmps) = true := by simp [Region.wanted, hgd]
  rw [if_pos hw]
  exact wp_append_led s x t ho hS j hj ht hi hz0 hz1 hby hzs hs hx hy h63 hbase h
end
end Go.Proofs.YtilklngkmdffbaaDoor
/- szStringS, walked: it takes the lengths off a number, -1 if that is too small. Conditions: the number lies in 0 .. 1048576. -/
namespace Go.Proofs.YtilklngkmdffbaaDoor
open Go.RowKit
def lessI (left : Int) (t : Nat) : Int := if (t : Int) ≤ left then left - t else -1
def sumTo (xs : List ByteArray) (k : Nat) : Nat := ((xs.take k).map ByteArray.size).sum
def strTot (xs : List ByteArray) : Nat := xs.length + sumTo xs xs.length
theorem sumTo_succ {xs : List ByteArray} {k : Nat} {x : ByteArray} (h : xs[k]? = some x) : sumTo xs (k + 1) = sumTo xs k + x.size := by
  unfold sumTo
  obtain ⟨hk, hx⟩ := List.getElem?_eq_some_iff.1 h
  rw [List.take_succ_eq_append_getElem hk, hx, List.map_append, List.sum_append]; simp
theorem sumTo_mono {xs : List ByteArray} {j k : Nat} (h : j ≤ k) : sumTo xs j ≤ sumTo xs k := by
  unfold sumTo
  obtain ⟨d, rfl⟩ := Nat.exists_eq_add_of_le h
  rw [List.take_add, List.map_append, List.sum_append]; omega
theorem size_le_tot {xs : List ByteArray} {x : ByteArray} (h : x ∈ xs) : x.size ≤ strTot xs := by
  obtain ⟨k, hk, e⟩ := List.mem_iff_getElem.1 h
  have h1 := sumTo_succ (xs := xs) (k := k) (x := x) (by rw [List.getElem?_eq_getElem hk, e])
  have h2 := sumTo_mono (xs := xs) (j := k + 1) (k := xs.length) hk
  unfold strTot; omega
theorem lessI_neg {left : Int} {t : Nat} (h : left < t) : lessI left t = -1 := by unfold lessI; rw [if_neg (by omega)]
theorem lessI_pos {left : Int} {t : Nat} (h : (t : Int) ≤ left) : lessI left t = left - t := by unfold lessI; rw [if_pos h]
set_option maxRecDepth 100000 in
theorem szStringS_any {B n c : Nat} {A : Option Addr} {xs : List ByteArray} (left : Int) (w : World) (hA : Sees elStr w B A n xs) (hn : n ≤ maxLen) (hx : ∀ x ∈ xs, x.size ≤ maxLen) (h0 : 0 ≤ left) (hl : left ≤ 1048576) :
    Calls Tryd.prog 20 #[.slice A n c, .int .i64 left] w fun e w' => e = .returned (.int .i64 (lessI left (strTot xs))) ∧ w = w' := by
  have hlen := hA.len
  unfold maxLen at hn hx
  by_cases hs : (n : Int) ≤ left
  · have HL := hid hlen
    clear hlen
    have e0 : decide (left - (n : Int) < 0) = false := by simp; omega
    go_enter Tryd.func20, Tryd.ntmps20
    go_wp2
    clear e0
    go_loop [1, 5] (fun l i => ∃ (k : Nat) (r : Int), k ≤ n ∧ i = .int .i64 k ∧ l = .int .i64 r ∧ 0 ≤ r ∧ r ≤ 1048576 ∧ Hid (r = left - n - sumTo xs k)) (fun _ i => n - (intOf i).toNat)
    case atStart => exact ⟨0, left - n, Nat.zero_le _, rfl, rfl, by omega, by omega, by unfold Hid sumTo; simp⟩
    case round =>
      obtain ⟨k, r, hk, rfl, rfl, hr0, hr1, hr⟩ := hrel
      by_cases hlt : k < n
      · obtain ⟨b, o, rfl, _, hc⟩ := hA.at_ hlt
        obtain ⟨x, hxk⟩ : ∃ x, xs[k]? = some x := ⟨xs[k]'(by rw [HL.out]; exact hlt), List.getElem?_eq_getElem _⟩
        have hcx := hc k x hxk 0 _ rfl
        simp only [elStr, Nat.mul_one, Nat.add_zero] at hcx
        have hxs : x.size ≤ 2 ^ 63 - 1 := hx x (List.mem_of_getElem? hxk)
        have hsucc := sumTo_succ hxk
        have hmono := sumTo_mono (xs := xs) (j := k + 1) (k := n) hlt
        clear hc hxk
        by_cases hneg : r - (x.size : Int) < 0
        · have HN : Hid (lessI left (strTot xs) = -1) := lessI_neg (by have := hr.out; have := HL.out; unfold strTot; rw [this]; omega)
          clear hsucc hmono
          go_wp2
          go_ret
          exact ⟨by rw [HN.out]; rfl, rfl⟩
        · have HR : Hid (r - (x.size : Int) = left - n - sumTo xs (k + 1)) := by have := hr.out; unfold Hid; omega
          clear hsucc hmono hr
          go_wp2
          go_round
          case rel => exact ⟨k + 1, _, by omega, by go_num, rfl, by omega, by omega, HR⟩
          case measure => simp [intOf]; omega
      · have HR : Hid (lessI left (strTot xs) = r) := by
          obtain rfl : k = n := by omega
          have h1 := hr.out; have h2 := HL.out
          refine hid ?_
          rw [lessI_pos (by unfold strTot; rw [h2]; omega)]; unfold strTot; rw [h2]; omega
        clear hr
        go_wp2
        go_ret
        exact ⟨by rw [HR.out]; rfl, rfl⟩
  · have HN : Hid (lessI left (strTot xs) = -1) := lessI_neg (by unfold strTot; omega)
    clear hlen
    go_enter Tryd.func20, Tryd.ntmps20
    go_wp2
    go_ret
    exact ⟨by rw [HN.out]; rfl, rfl⟩
end Go.Proofs.YtilklngkmdffbaaDoor
/- szFiberS and szNetwork, walked. Conditions: the number lies in 0 .. 1048576. -/
namespace Go.Proofs.YtilklngkmdffbaaDoor
open Go.RowKit
set_option maxRecDepth 100000 in
theorem szFiberS_any {n c : Nat} {A : Option Addr} (left : Int) (w : World) (hn : n ≤ maxLen) (h0 : 0 ≤ left) (hl : left ≤ 1048576) :
    Calls Tryd.prog 21 #[.slice A n c, .int .i64 left] w fun e w' => e = .returned (.int .i64 (lessI left n)) ∧ w = w' := by
  unfold maxLen at hn
  by_cases hs : (n : Int) ≤ left
  · have HN := hid (lessI_pos hs)
    go_enter Tryd.func21, Tryd.ntmps21
    go_wp2
    go_ret
    exact ⟨by rw [HN.out]; rfl, rfl⟩
  · have HN := hid (lessI_neg (left := left) (t := n) (by omega))
    go_enter Tryd.func21, Tryd.ntmps21
    go_wp2
    go_ret
    exact ⟨by rw [HN.out]; rfl, rfl⟩
theorem lessI_bd {left : Int} {t : Nat} : (lessI left t = -1 ∧ left < t) ∨ (0 ≤ lessI left t ∧ lessI left t ≤ left ∧ (t : Int) ≤ left) := by
  unfold lessI; split <;> omega
theorem lessI_lessI {left : Int} {s t : Nat} : lessI left (s + t) = if lessI left s < 0 then -1 else lessI (lessI left s) t := by
  unfold lessI; split <;> split <;> (try split) <;> omega
/-- What a network holds: names, letters, fibers. -/
def netTot {α : Type} (xs : List ByteArray) (fs : List α) : Nat := strTot xs + fs.length
set_option maxHeartbeats 1000000 in
set_option maxRecDepth 100000 in
theorem szNetwork_any {B n c m d : Nat} {A A' : Option Addr} {xs : List ByteArray} {fs : List Fib} (left : Int) (w : World) (hA : Sees elStr w B A n xs) (hF : Sees elFib w B A' m fs) (hB : B ≤ w.heap.size) (hn : n ≤ maxLen) (hm : m ≤ maxLen)
    (hx : ∀ x ∈ xs, x.size ≤ maxLen) (h0 : 0 ≤ left) (hl : left ≤ 1048576) :
    Calls Tryd.prog 6 #[.agg #[.slice A n c, .slice A' m d], .int .i64 left] w fun e w' => e = .returned (.int .i64 (lessI left (netTot xs fs))) ∧ Below w.heap.size w w' := by
  have hA' : Sees elStr (w.alloc (.cells #[.slice A n c, .slice A' m d] 25)) B A n xs := hA.below ((bl_alloc (Below.refl _ _) _).mono hB)
  have hll := lessI_lessI (left := left) (s := strTot xs) (t := fs.length)
  rw [hF.len] at hll
  unfold netTot
  rw [hF.len]
  rcases lessI_bd (left := left) (t := strTot xs) with ⟨h1, _⟩ | ⟨h1, h2, _⟩
  · have HN : Hid (lessI left (strTot xs + m) = -1) := by rw [hll, if_pos (by omega)]; rfl
    have HS := hid h1
    clear hll h1
    go_enter Tryd.func6, Tryd.ntmps6
    go_wp2_with fail
    refine (szStringS_any left _ hA' hn hx h0 hl).mono ?_
    rintro e w' ⟨rfl, rfl⟩
    rw [HS.out]
    go_wp2_with fail
    go_ret
    exact ⟨by rw [HN.out]; rfl, bl_alloc (Below.refl _ _) _⟩
  · have HN : Hid (lessI left (strTot xs + m) = lessI (lessI left (strTot xs)) m) := by rw [hll, if_neg (by omega)]; rfl
    clear hll
    go_enter Tryd.func6, Tryd.ntmps6
    go_wp2_with fail
    refine (szStringS_any left _ hA' hn hx h0 hl).mono ?_
    rintro e w' ⟨rfl, rfl⟩
    generalize lessI left (strTot xs) = r at *
    rcases lessI_bd (left := r) (t := m) with ⟨h3, _⟩ | ⟨h3, h4, _⟩
    · have HS := hid h3
      clear h3
      go_wp2_with fail
      refine (szFiberS_any r _ hm h1 (by omega)).mono ?_
      rintro e w' ⟨rfl, rfl⟩
      rw [HS.out]
      go_wp2_with fail
      go_ret
      exact ⟨by rw [HN.out, HS.out]; rfl, bl_alloc (Below.refl _ _) _⟩
    · go_wp2_with fail
      refine (szFiberS_any r _ hm h1 (by omega)).mono ?_
      rintro e w' ⟨rfl, rfl⟩
      go_wp2_with fail
      go_ret
      exact ⟨by rw [HN.out]; rfl, bl_alloc (Below.refl _ _) _⟩
end Go.Proofs.YtilklngkmdffbaaDoor
/- How an argument that can be read is opened: strings, slices, networks, routes. Conditions: none. -/
namespace Go.Proofs.YtilklngkmdffbaaDoor
open Go.ChangeShapes Go.WideShapes Go.ChangeAt Go.RowKit Go.Deep
theorem i64_bd {n : Int} (h : (Lit.int .i64 n).wf = true) : -9223372036854775808 ≤ n ∧ n ≤ 9223372036854775807 := by
  simp [Lit.wf, IntKind.min, IntKind.max, IntKind.signed, IntKind.bits] at h; omega
section
variable {H : Type} {enc : TypeId × Value → H} {P : Program} {W : World} {spare : Nat → Bool} {held : Bool}
/-- A slice whose elements' cells are known. -/
theorem open_sl {α : Type} (E : El α) {t e : TypeId} {fuel : Nat} {cs : List Value} {x : DataW H × List MemPlace} (good : α → Prop) (ht : P.underlying t = some (.slice e)) (hsz : P.cellsOf e = E.sz)
    (hel : ∀ fuel cs y, DataW.trod enc P W 0 spare held fuel e cs = some y → ∃ a, cs = E.cells a ∧ good a)
    (h : DataW.trod enc P W 0 spare held fuel t cs = some x) :
    ∃ A n c xs, cs = [.slice A n c] ∧ n ≤ c ∧ c ≤ maxLen ∧ Sees E W W.heap.size A n xs ∧ ∀ a ∈ xs, good a := by
  rcases open_slice ht h with ⟨h0, _⟩ | ⟨a, len, cap, m, k, D, Pl, hcs, _, hl, hm, hmm, _, hi⟩
  · exact ⟨none, 0, 0, [], h0, Nat.le_refl _, Nat.zero_le _, Sees.nil _ _ _ _, fun _ h => by cases h⟩
  · have hlm : len ≤ m := by rw [hmm]; split <;> omega
    have key : ∀ i : Nat, i < len → ∃ y : α, good y ∧ ∀ j u, (E.cells y)[j]? = some u → W.cell? (a.add (i * E.sz + j)) = some u := by
      intro i hlt
      obtain ⟨cs', hc, htr⟩ := hi i (by omega)
      obtain ⟨y, rfl, hg⟩ := hel _ _ _ htr
      obtain ⟨_, hlen, hat⟩ := World.cells?_some hc
      refine ⟨y, hg, fun j u hu => ?_⟩
      have hj : j < P.cellsOf e := by rw [hsz, ← E.len y]; exact (List.getElem?_eq_some_iff.1 hu).1
      have := hat j hj
      rw [add_add, hsz] at this
      rw [this, hu]
    rcases Nat.eq_zero_or_pos len with h0 | h0
    · subst h0
      exact ⟨some a, 0, cap, [], hcs, hl, hm, Sees.nil _ _ _ _, fun _ h => by cases h⟩
    · have hspot : a.spot = none := by
        obtain ⟨y, _, hy⟩ := key 0 h0
        have hpos := E.pos
        have hlen := E.len y
        have h1 := hy 0 ((E.cells y)[0]'(by omega)) (List.getElem?_eq_getElem (by omega))
        simp only [Nat.zero_mul, Nat.zero_add] at h1
        rw [show a.add 0 = a by simp [Addr.add]] at h1
        unfold World.cell? at h1
        split at h1
        · split at h1
          · cases h1
          · rename_i hs; simpa using hs
        · cases h1
      obtain ⟨y0, _, _⟩ := key 0 h0
      have : Inhabited α := ⟨y0⟩
      obtain ⟨f, hf⟩ := choose_lt key
      refine ⟨some a, len, cap, (List.range len).map f, hcs, hl, hm, ⟨by simp, .inr ⟨a.block, a.off, by cases a; simp_all, ?_, ?_⟩⟩, ?_⟩
      · obtain ⟨_, hy⟩ := hf 0 h0
        have hpos := E.pos
        have hlen := E.len (f 0)
        have h1 := hy 0 ((E.cells (f 0))[0]'(by omega)) (List.getElem?_eq_getElem (by omega))
        have := World.block_lt_of_cell? W _ h1
        simp only [Addr.add] at this
        split at this <;> simpa using this
      · intro k x hx j u hu
        have hk : k < len := by have := (List.getElem?_eq_some_iff.1 hx).1; simpa using this
        have hx' : f k = x := by simpa [List.getElem?_map, List.getElem?_range, hk] using hx
        have := (hf k hk).2 j u (by rw [hx']; exact hu)
        rw [← this]
        unfold Addr.add
        split
        · rename_i h00; rw [Nat.add_assoc, h00, Nat.add_zero]; cases a; simp_all
        · rw [Nat.add_assoc]
      · intro x hx
        obtain ⟨i, hi, rfl⟩ := List.mem_map.1 hx
        exact (hf i (by simpa using hi)).1
/-- A slice that came in. -/
def SlArg {α : Type} (E : El α) (W : World) (A : Option Addr) (n c : Nat) (xs : List α) (good : α → Prop) : Prop := n ≤ c ∧ c ≤ maxLen ∧ Sees E W W.heap.size A n xs ∧ ∀ a ∈ xs, good a
theorem open_sl_val {α : Type} (E : El α) {t e : TypeId} {base : Nat} {v : Value} {d : DataW H} {p : List MemPlace} (good : α → Prop) (ht : P.underlying t = some (.slice e)) (hsz : P.cellsOf e = E.sz)
    (hel : ∀ fuel cs y, DataW.trod enc P W 0 spare held fuel e cs = some y → ∃ a, cs = E.cells a ∧ good a)
    (hv : Value.okWide P W .any base t v) (h : DataW.Trod enc P W 0 spare held t v d p) : ∃ A n c xs, v = .slice A n c ∧ SlArg E W A n c xs good := by
  obtain ⟨a, len, cap, rfl⟩ := okWide_slice ht hv
  obtain ⟨fuel, h⟩ := h
  obtain ⟨A, n, c, xs, e, h1, h2, h3, h4⟩ := open_sl E good ht hsz hel h
  exact ⟨A, n, c, xs, by simpa [Value.cells] using e, h1, h2, h3, h4⟩
theorem el_int {e : TypeId} (he : P.underlying e = some (.int .i64)) (fuel : Nat) (cs : List Value) (y : DataW H × List MemPlace) (h : DataW.trod enc P W 0 spare held fuel e cs = some y) :
    ∃ a, cs = elInt.cells a ∧ (-9223372036854775808 ≤ a ∧ a ≤ 9223372036854775807) := by
  obtain ⟨n, rfl, _, hw⟩ := DataW.trod_int he h
  exact ⟨n, rfl, i64_bd hw⟩
theorem el_str {e : TypeId} (he : P.underlying e = some .string) (fuel : Nat) (cs : List Value) (y : DataW H × List MemPlace) (h : DataW.trod enc P W 0 spare held fuel e cs = some y) :
    ∃ a, cs = elStr.cells a ∧ a.size ≤ maxLen := by
  obtain ⟨n, rfl, _, hw⟩ := DataW.trod_string he h
  exact ⟨n, rfl, hw⟩
end
end Go.Proofs.YtilklngkmdffbaaDoor
/- How a network that can be read is opened. Conditions: none. -/
namespace Go.Proofs.YtilklngkmdffbaaDoor
open Go.ChangeShapes Go.WideShapes Go.ChangeAt Go.RowKit Go.Deep Go.Joins
theorem cellsN : Tryd.prog.cellsOf 25 = 2 := by kernel_rfl
theorem cellsF : Tryd.prog.cellsOf 80 = 4 := by kernel_rfl
theorem cellsS : Tryd.prog.cellsOf 9 = 1 := by kernel_rfl
theorem cellsI : Tryd.prog.cellsOf 3 = 1 := by kernel_rfl
section
variable {H : Type} {enc : TypeId × Value → H} {W : World} {spare : Nat → Bool} {held : Bool}
set_option maxRecDepth 100000 in
theorem el_fib (fuel : Nat) (cs : List Value) (y : DataW H × List MemPlace) (h : DataW.trod enc Tryd.prog W 0 spare held fuel 80 cs = some y) : ∃ a, cs = elFib.cells a ∧ True := by
  obtain ⟨ys, n, _, _, hl, hyl, hf⟩ := DataW.trod_struct Tryd.underlying80 h
  rw [cellsF] at hl
  have hi : ∀ k, k < 4 → ∃ m : Int, (cs.drop k).take 1 = [.int .i64 m] := by
    intro k hk
    have hy : k < ys.length := by rw [hyl]; exact hk
    match k, hk with
    | 0, _ => have := hf 0 _ rfl; rw [List.getElem?_eq_getElem hy] at this; obtain ⟨m, hm, _⟩ := DataW.trod_int Tryd.underlying3 this; exact ⟨m, by simpa [cellsI] using hm⟩
    | 1, _ => have := hf 1 _ rfl; rw [List.getElem?_eq_getElem hy] at this; obtain ⟨m, hm, _⟩ := DataW.trod_int Tryd.underlying3 this; exact ⟨m, by simpa [cellsI] using hm⟩
    | 2, _ => have := hf 2 _ rfl; rw [List.getElem?_eq_getElem hy] at this; obtain ⟨m, hm, _⟩ := DataW.trod_int Tryd.underlying3 this; exact ⟨m, by simpa [cellsI] using hm⟩
    | 3, _ => have := hf 3 _ rfl; rw [List.getElem?_eq_getElem hy] at this; obtain ⟨m, hm, _⟩ := DataW.trod_int Tryd.underlying3 this; exact ⟨m, by simpa [cellsI] using hm⟩
  match cs, hl with
  | [v0, v1, v2, v3], _ =>
    obtain ⟨m0, h0⟩ := hi 0 (by omega)
    obtain ⟨m1, h1⟩ := hi 1 (by omega)
    obtain ⟨m2, h2⟩ := hi 2 (by omega)
    obtain ⟨m3, h3⟩ := hi 3 (by omega)
    simp at h0 h1 h2 h3
    exact ⟨⟨m0, m1, m2, m3⟩, by simp [elFib, h0, h1, h2, h3], trivial⟩
/-- A network that came in. -/
def NetArg (W : World) (A : Option Addr) (n c : Nat) (A' : Option Addr) (m d : Nat) (xs : List ByteArray) (fs : List Fib) : Prop :=
  SlArg elStr W A n c xs (fun s => s.size ≤ maxLen) ∧ SlArg elFib W A' m d fs (fun _ => True)
set_option maxRecDepth 100000 in
theorem open_net {base : Nat} {v : Value} {d : DataW H} {p : List MemPlace} (hv : Value.okWide Tryd.prog W .any base 25 v) (h : DataW.Trod enc Tryd.prog W 0 spare held 25 v d p) :
    ∃ A n c A' m d xs fs, v = .agg #[.slice A n c, .slice A' m d] ∧ NetArg W A n c A' m d xs fs := by
  obtain ⟨v0, v1, y0, y1, k, rfl, _, _, h0, h1⟩ := open_agg2 Tryd.underlying25 (by kernel_rfl) cellsN hv h
  obtain ⟨A, n, c, xs, e0, a1, a2, a3, a4⟩ := open_sl elStr (fun s => s.size ≤ maxLen) Tryd.underlying22 cellsS (el_str Tryd.underlying9) h0
  obtain ⟨A', m, d, fs, e1, b1, b2, b3, b4⟩ := open_sl elFib (fun _ => True) Tryd.underlying23 cellsF el_fib h1
  simp at e0 e1
  exact ⟨A, n, c, A', m, d, xs, fs, by rw [e0, e1], ⟨a1, a2, a3, a4⟩, ⟨b1, b2, b3, b4⟩⟩
end
end Go.Proofs.YtilklngkmdffbaaDoor
