/- Lemmas and walks that the claim rests on, laid together. Conditions: none. -/
import Derived.Test.YtgoegldffjfmdaaGreatZ72a8aeab9d7c
import Derived.Test.YtgoegldffjfmdaaGreatZ437c20ac4139
import Derived.Test.YtgoegldffjfmdaaGreatRows
import Derived.Test.YtgoegldffjfmdaaGreatZa514eb999546
import Derived.Deep.Upon
import Derived.Deep.AppendLies
import Derived.Deep.RegionHeld3
/- markFiberS, heldFiberS, markNetwork, heldNetwork, walked. Conditions: at most 1048576 elements, marks below 2^39. -/
namespace Go.Proofs.YtgoegldffjfmdaaGreat
open Go.RowKit
/-- The fibers that four numbers each make, from k on. -/
def fmarks (k : Int) (n : Nat) : List Fib := (List.range n).map fun (j : Nat) => ⟨k + 4 * (j : Int), k + 4 * (j : Int) + 1, k + 4 * (j : Int) + 1 + 1, k + 4 * (j : Int) + 1 + 1 + 1⟩
theorem fmarks_len (k : Int) (n : Nat) : (fmarks k n).length = n := by simp [fmarks]
theorem fmarks_get {k : Int} {n j : Nat} (h : j < n) : (fmarks k n)[j]? = some ⟨k + 4 * (j : Int), k + 4 * (j : Int) + 1, k + 4 * (j : Int) + 1 + 1, k + 4 * (j : Int) + 1 + 1 + 1⟩ := by simp [fmarks, h]
theorem Touch.set4 {S : Nat → Prop} (w : World) {g : Nat} (hg : S g) (j : Nat) (f : Fib) :
    Touch S w ((((w.setCell ⟨g, j * 4, none⟩ (.int .i64 f.a)).setCell ⟨g, j * 4 + 1, none⟩ (.int .i64 f.b)).setCell ⟨g, j * 4 + 2, none⟩ (.int .i64 f.len)).setCell ⟨g, j * 4 + 3, none⟩ (.int .i64 f.risk)) :=
  (((Touch.set w (p := ⟨g, j * 4, none⟩) hg _).trans (Touch.set _ (p := ⟨g, j * 4 + 1, none⟩) hg _)).trans (Touch.set _ (p := ⟨g, j * 4 + 2, none⟩) hg _)).trans (Touch.set _ (p := ⟨g, j * 4 + 3, none⟩) hg _)
set_option maxHeartbeats 1000000 in
set_option maxRecDepth 100000 in
theorem markFiberS_any {base n : Nat} {v : Value} {xs : List Fib} (k : Int) (w : World) (h : Owns elFib w base 90 v xs) (hl : xs.length = n) (hn : n ≤ 1048576) (hk0 : 0 ≤ k) (hk : k ≤ 549755813888) :
    Calls Tryz.prog 38 #[v, .int .i64 k] w fun e w' => e = .returned (.int .i64 (k + 4 * n)) ∧ Owns elFib w' base 90 v (fmarks k n) ∧ Touch (fun b => v.ownBlock = some b) w w' := by
  rcases h.cases with ⟨rfl, rfl⟩ | ⟨g, cap, cur0, rfl, hg, hb0, hnc, hcm, hs0, _⟩
  · subst hl
    go_enter Tryz.func38, Tryz.ntmps38
    go_wp2
    refine wp_loop_rounds 1 ?_
    rw [rounds_succ]
    go_wp2
    go_ret
    exact ⟨by simp, h, Touch.refl _ _⟩
  · rw [hl] at hnc ⊢
    have hc' : Hid (cur0.size = cap * 4) := hs0
    have hb0' := hid hb0
    clear hl hs0 h hb0
    go_enter Tryz.func38, Tryz.ntmps38
    go_wp2
    go_loopw [1, 5] (fun t i wr => ∃ (j : Nat) (r : Int) (cur : Array Value), j ≤ n ∧ i = .int .i64 j ∧ t = .int .i64 r ∧ r ≤ 549755813888 + 4 * j ∧ 0 ≤ r ∧ Hid (r = k + 4 * j) ∧ Hid (Blk wr g 90 cur) ∧ Hid (cur.size = cap * 4) ∧ Hid (Filled elFib cur (fmarks k n) j) ∧ Touch (fun b => some g = some b) w wr) (fun _ i _ => n - (intOf i).toNat)
    case atStart => exact ⟨0, k, cur0, Nat.zero_le _, rfl, rfl, by omega, hk0, by unfold Hid; simp, hb0', hc', Filled.zero _ _ _, Touch.refl _ _⟩
    case round =>
      clear hb0' hc'
      obtain ⟨j, r, cur, hj, rfl, rfl, hr1, hr0, hr, hblk, hsz, hfill, ht⟩ := hrel
      by_cases hlt : j < n
      · obtain ⟨u0, hu0⟩ := hblk.out.cell_ (i := j * 4) (by rw [hsz.out]; omega)
        obtain ⟨u1, hu1⟩ := hblk.out.cell_ (i := j * 4 + 1) (by rw [hsz.out]; omega)
        obtain ⟨u2, hu2⟩ := hblk.out.cell_ (i := j * 4 + 2) (by rw [hsz.out]; omega)
        obtain ⟨u3, hu3⟩ := hblk.out.cell_ (i := j * 4 + 3) (by rw [hsz.out]; omega)
        have z0 := hblk.out.frozen (j * 4)
        have z1 := hblk.out.frozen (j * 4 + 1)
        have z2 := hblk.out.frozen (j * 4 + 2)
        have z3 := hblk.out.frozen (j * 4 + 3)
        have HB := hid (hblk.out.put4 j ⟨r, r + 1, r + 1 + 1, r + 1 + 1 + 1⟩)
        have HS : Hid ((put4 cur j ⟨r, r + 1, r + 1 + 1, r + 1 + 1 + 1⟩).size = cap * 4) := (put4_size _ _ _).trans hsz.out
        have HF : Hid (Filled elFib (put4 cur j ⟨r, r + 1, r + 1 + 1, r + 1 + 1 + 1⟩) (fmarks k n) (j + 1)) := hfill.out.put4 (by rw [hr.out]; exact fmarks_get hlt) (by rw [hsz.out]; omega)
        have HR : Hid (r + 1 + 1 + 1 + 1 = k + 4 * ((j + 1 : Nat) : Int)) := by have := hr.out; unfold Hid; omega
        have HT := ht.trans (Touch.set4 (S := fun b => some g = some b) wr (g := g) rfl j ⟨r, r + 1, r + 1 + 1, r + 1 + 1 + 1⟩)
        clear hblk hsz hfill hr ht
        go_wp2
        go_roundw
        case rel => exact ⟨j + 1, _, _, by omega, by go_num, rfl, by omega, by omega, HR, HB, HS, HF, HT⟩
        case measure => simp [intOf]; omega
      · have hjn : j = n := by omega
        have HE : Hid (r = k + 4 * (n : Int)) := by rw [← hjn]; exact hr
        have HO := hid (Owns.of_blk (E := elFib) (base := base) hblk.out hg (fmarks_len k n) hnc hsz.out hcm (by have hq := hfill.out; rw [hjn] at hq; exact hq))
        clear hblk hsz hfill hr
        go_wp2
        go_ret
        exact ⟨by rw [HE.out]; rfl, HO.out, ht⟩
section
variable {base n c m d : Nat} {A A' : Option Addr} {xs : List ByteArray} {fs : List Fib}
theorem markNetwork_any (k : Int) (w : World) (h : NetOwn w base A n c A' m d xs fs) (hn : n ≤ 1048576) (hm : m ≤ 1048576) (hk0 : 0 ≤ k) (hk : k ≤ 549754765312) :
    Calls Tryz.prog 13 #[.agg #[.slice A n c, .slice A' m d], .int .i64 k] w fun e w' => e = .returned (.int .i64 (k + n + 4 * m)) ∧ NetOwn w' base A n c A' m d (smarks k n) (fmarks (k + n) m) ∧
      Touch (fun b => (Value.slice A n c).ownBlock = some b ∨ (Value.slice A' m d).ownBlock = some b) w w' := by
  have hb0 := bl_alloc (Below.refl w.heap.size w) (.cells #[.slice A n c, .slice A' m d] 34)
  have hx0 : Blk (w.alloc (.cells #[.slice A n c, .slice A' m d] 34)) w.heap.size 34 #[.slice A n c, .slice A' m d] := Blk.new _ _ _
  have hl1 := h.2.2.2.2.2.2.1.lies
  obtain ⟨a1, a2, a3, a4, a5, a6, a7, a8⟩ := h.below hb0
  have hne := owns_ne a7 a8 (by decide)
  go_enter Tryz.func13, Tryz.ntmps13
  go_wp2_with fail
  refine (markStringS_any k _ a7 a5 hn hk0 (by omega)).mono ?_
  rintro e w1 ⟨rfl, ho1, ht1⟩
  have q1 := (hx0.touch ht1 (fun hs => by have := (hl1 _ hs).2; omega)).cell 1
  simp at q1
  have a8' := a8.touch ht1 hne
  go_wp2_with fail
  refine (markFiberS_any (k + n) _ a8' a6 hm (by omega) (by omega)).mono ?_
  rintro e w2 ⟨rfl, ho2, ht2⟩
  have hne2 := owns_ne a8' ho1 (by decide)
  have ho1' := ho1.touch ht2 hne2
  go_wp2_with fail
  go_ret
  exact ⟨rfl, ⟨a1, a2, a3, a4, smarks_len _ _, fmarks_len _ _, ho1', ho2⟩, ((Touch.of_below hb0).trans (ht1.mono (fun _ h => .inl h))).trans (ht2.mono (fun _ h => .inr h))⟩
end
end Go.Proofs.YtgoegldffjfmdaaGreat
/- eqStringS, walked: two slices that show one list are equal. Conditions: none. -/
namespace Go.Proofs.YtgoegldffjfmdaaGreat
open Go.RowKit
set_option maxRecDepth 100000 in
theorem eqStringS_any {B B' n c c' : Nat} {A A' : Option Addr} {xs : List ByteArray} (w : World) (hA : Sees elStr w B A n xs) (hA' : Sees elStr w B' A' n xs) (hn : n ≤ maxLen) :
    Calls Tryz.prog 35 #[.slice A n c, .slice A' n c'] w fun e w' => e = .returned (.bool true) ∧ ∃ q, w' = w.drewN q := by
  unfold maxLen at hn
  go_enter Tryz.func35, Tryz.ntmps35
  go_wp2
  go_loopw [5] (fun i wr => ∃ k q : Nat, k ≤ n ∧ i = .int .i64 k ∧ wr = w.drewN q) (fun i _ => n - (intOf i).toNat)
  case atStart => exact ⟨0, 0, Nat.zero_le _, rfl, rfl⟩
  case round =>
    obtain ⟨k, q, hk, rfl, rfl⟩ := hrel
    by_cases hlt : k < n
    · obtain ⟨b, o, rfl, _, hc⟩ := hA.at_ hlt
      obtain ⟨b', o', rfl, _, hc'⟩ := hA'.at_ hlt
      obtain ⟨x, hxk⟩ : ∃ x, xs[k]? = some x := ⟨xs[k]'(by rw [hA.len]; exact hlt), List.getElem?_eq_getElem _⟩
      have h1 := hc k x hxk 0 _ rfl
      have h2 := hc' k x hxk 0 _ rfl
      simp only [elStr, Nat.mul_one, Nat.add_zero] at h1 h2
      clear hc hc' hxk
      have i1 : (k : Int) < (n : Int) := by omega
      go_wp2
      go_quiet (fail)
      go_wp2
      go_roundw
      case rel => exact ⟨k + 1, _, by omega, by go_num, rfl⟩
      case measure => simp [intOf]; omega
    · go_wp2
      go_ret
      exact ⟨rfl, _, rfl⟩
end Go.Proofs.YtgoegldffjfmdaaGreat
/- eqFiber, eqFiberS and eqNetwork, walked: what shows one list is equal. Conditions: none. -/
namespace Go.Proofs.YtgoegldffjfmdaaGreat
open Go.RowKit
set_option maxRecDepth 100000 in
theorem eqFiber_any (f : Fib) (w : World) :
    Calls Tryz.prog 66 #[fibV f, fibV f] w fun e w' => e = .returned (.bool true) ∧ Below w.heap.size w w' := by
  obtain ⟨a, b, l, r⟩ := f
  unfold fibV
  go_enter Tryz.func66, Tryz.ntmps66
  go_wp2
  go_ret
  exact ⟨rfl, bl_alloc (bl_alloc (Below.refl _ _) _) _⟩
set_option maxHeartbeats 1000000 in
set_option maxRecDepth 100000 in
theorem eqFiberS_any {B B' n c c' : Nat} {A A' : Option Addr} {xs : List Fib} (w : World) (hA : Sees elFib w B A n xs) (hA' : Sees elFib w B' A' n xs) (hn : n ≤ maxLen) :
    Calls Tryz.prog 36 #[.slice A n c, .slice A' n c'] w fun e w' => e = .returned (.bool true) ∧ Below w.heap.size w w' := by
  unfold maxLen at hn
  go_enter Tryz.func36, Tryz.ntmps36
  go_wp2
  go_loopw [5] (fun i wr => ∃ k : Nat, k ≤ n ∧ i = .int .i64 k ∧ Below w.heap.size w wr) (fun i _ => n - (intOf i).toNat)
  case atStart => exact ⟨0, Nat.zero_le _, rfl, Below.refl _ _⟩
  case round =>
    obtain ⟨k, hk, rfl, hb⟩ := hrel
    by_cases hlt : k < n
    · obtain ⟨b, o, rfl, _, hc⟩ := hA.at_ hlt
      obtain ⟨b', o', rfl, _, hc'⟩ := hA'.at_ hlt
      obtain ⟨f, hfk⟩ : ∃ x, xs[k]? = some x := ⟨xs[k]'(by rw [hA.len]; exact hlt), List.getElem?_eq_getElem _⟩
      have T0 : ∀ w', Cls wr w' → w'.cell? ⟨b, o + k * 4, none⟩ = some (.int .i64 f.a) := fun _ h => h.cell (bl_cell hb (hc k f hfk 0 _ rfl))
      have T1 : ∀ w', Cls wr w' → w'.cell? ⟨b, o + k * 4 + 1, none⟩ = some (.int .i64 f.b) := fun _ h => h.cell (bl_cell hb (hc k f hfk 1 _ rfl))
      have T2 : ∀ w', Cls wr w' → w'.cell? ⟨b, o + k * 4 + 2, none⟩ = some (.int .i64 f.len) := fun _ h => h.cell (bl_cell hb (hc k f hfk 2 _ rfl))
      have T3 : ∀ w', Cls wr w' → w'.cell? ⟨b, o + k * 4 + 3, none⟩ = some (.int .i64 f.risk) := fun _ h => h.cell (bl_cell hb (hc k f hfk 3 _ rfl))
      have S0 : ∀ w', Cls wr w' → w'.cell? ⟨b', o' + k * 4, none⟩ = some (.int .i64 f.a) := fun _ h => h.cell (bl_cell hb (hc' k f hfk 0 _ rfl))
      have S1 : ∀ w', Cls wr w' → w'.cell? ⟨b', o' + k * 4 + 1, none⟩ = some (.int .i64 f.b) := fun _ h => h.cell (bl_cell hb (hc' k f hfk 1 _ rfl))
      have S2 : ∀ w', Cls wr w' → w'.cell? ⟨b', o' + k * 4 + 2, none⟩ = some (.int .i64 f.len) := fun _ h => h.cell (bl_cell hb (hc' k f hfk 2 _ rfl))
      have S3 : ∀ w', Cls wr w' → w'.cell? ⟨b', o' + k * 4 + 3, none⟩ = some (.int .i64 f.risk) := fun _ h => h.cell (bl_cell hb (hc' k f hfk 3 _ rfl))
      clear hc hc' hfk
      have i1 : (k : Int) < (n : Int) := by omega
      go_wp2
      refine region_cls (by kernel_rfl) (by kernel_rfl) ?_
      repeat (first
        | ((with_reducible refine quiet_pos ?_ (fun K hK => ?_))
           · rfl
           apply Exists.intro
           refine ⟨fun w' hw' => ?_, ?_⟩
           · go_simp
             first
               | with_reducible rfl
               | (go_at_call 66; exact hw'.call (eqFiber_any f _))
           simp only [Act.put, List.setIfInBounds_toArray, List.set_cons_zero, List.set_cons_succ]
           refine hK _ ?_; clear hK K))
      with_reducible refine wpQuiet_nil ?_
      intro w3 hw3
      go_wp2
      go_roundw
      case rel => exact ⟨k + 1, by omega, by go_num, bl_then hb hw3⟩
      case measure => simp [intOf]; omega
    · go_wp2
      go_ret
      exact ⟨rfl, hb⟩
set_option maxHeartbeats 1000000 in
set_option maxRecDepth 100000 in
theorem eqNetwork_any {B B' n c c' m d d' : Nat} {A A' E E' : Option Addr} {xs : List ByteArray} {fs : List Fib} (w : World) (hA : Sees elStr w B A n xs) (hA' : Sees elStr w B' A' n xs) (hF : Sees elFib w B E m fs) (hF' : Sees elFib w B' E' m fs)
    (hB : B ≤ w.heap.size) (hB' : B' ≤ w.heap.size) (hn : n ≤ maxLen) (hm : m ≤ maxLen) :
    Calls Tryz.prog 11 #[.agg #[.slice A n c, .slice E m d], .agg #[.slice A' n c', .slice E' m d']] w fun e w' => e = .returned (.bool true) ∧ Below w.heap.size w w' := by
  have hb0 : Below w.heap.size w ((w.alloc (.cells #[.slice A n c, .slice E m d] 34)).alloc (.cells #[.slice A' n c', .slice E' m d'] 34)) := bl_alloc (bl_alloc (Below.refl _ _) _) _
  have k1 := hA.below (hb0.mono hB)
  have k2 := hA'.below (hb0.mono hB')
  have k3 := hF.below (hb0.mono hB)
  have k4 := hF'.below (hb0.mono hB')
  go_enter Tryz.func11, Tryz.ntmps11
  go_wp2_with fail
  refine (eqStringS_any _ k1 k2 hn).mono ?_
  rintro e w1 ⟨rfl, q, rfl⟩
  go_wp2_with fail
  refine (eqFiberS_any _ (k3.drewN q) (k4.drewN q) hm).mono ?_
  rintro e w2 ⟨rfl, hb2⟩
  go_wp2_with fail
  go_ret
  exact ⟨rfl, bl_then (bl_drewN hb0 q) hb2⟩
end Go.Proofs.YtgoegldffjfmdaaGreat
/- heldIntSS, walked. Conditions: at most 1048576 rows and numbers in a row; the last mark below 2^40. -/
namespace Go.Proofs.YtgoegldffjfmdaaGreat
open Go.RowKit
end Go.Proofs.YtgoegldffjfmdaaGreat
/- A ledger of what a walk has made in memory: the blocks of each thing, and how it reads. Conditions: none. -/
namespace Go.Proofs.YtgoegldffjfmdaaGreat
open Go.RowKit
/-- One thing in memory: its blocks; how it reads. -/
structure Thing where
  S : Nat → Prop
  is : World → Prop
  st : ∀ w w' : World, is w → w.heap.size ≤ w'.heap.size → (∀ b, S b → w'.heap[b]? = w.heap[b]?) → is w'
  lies : ∀ w, is w → ∀ b, S b → b < w.heap.size
/-- From w0 to w these things have been made, no two of which share a block; what was there at w0 is as it was. -/
structure Led (w0 w : World) (L : List Thing) : Prop where
  bl : Below w0.heap.size w0 w
  all : ∀ (i : Nat) t, L[i]? = some t → t.is w ∧ ∀ b, t.S b → w0.heap.size ≤ b
  apart : ∀ (i j : Nat) a b, i ≠ j → L[i]? = some a → L[j]? = some b → ∀ k, a.S k → ¬ b.S k
section
variable {w0 w w' : World} {L : List Thing}
theorem Led.nil (w : World) : Led w w [] := ⟨Below.refl _ _, fun i t h => by simp at h, fun i j a b _ h => by simp at h⟩
theorem Led.step (h : Led w0 w L) (hb : Below w.heap.size w w') : Led w0 w' L :=
  ⟨bl_then h.bl hb, fun i t ht => ⟨t.st w w' (h.all i t ht).1 hb.size (fun b hS => hb.block b (t.lies w (h.all i t ht).1 b hS)), (h.all i t ht).2⟩, h.apart⟩
theorem Led.put (h : Led w0 w L) (hb : Below w.heap.size w w') (t : Thing) (hS : ∀ b, t.S b → w.heap.size ≤ b) (hi : t.is w') : Led w0 w' (t :: L) := by
  have h' := h.step hb
  refine ⟨h'.bl, fun i u hu => ?_, fun i j a b hij ha hb2 k h1 h2 => ?_⟩
  · cases i with
    | zero => simp at hu; subst hu; exact ⟨hi, fun b hb3 => Nat.le_trans h.bl.size (hS b hb3)⟩
    | succ i => simp at hu; exact h'.all i u hu
  · cases i with
    | zero =>
      cases j with
      | zero => exact hij rfl
      | succ j =>
        simp at ha hb2; subst ha
        have := hS k h1
        have := b.lies w (h.all j b hb2).1 k h2
        omega
    | succ i =>
      cases j with
      | zero =>
        simp at ha hb2; subst hb2
        have := hS k h2
        have := a.lies w (h.all i a ha).1 k h1
        omega
      | succ j =>
        simp at ha hb2
        exact h.apart i j a b (by omega) ha hb2 k h1 h2
theorem Led.get (h : Led w0 w L) (i : Nat) {t : Thing} (hi : L[i]? = some t) : t.is w := (h.all i t hi).1
theorem Led.touch (h : Led w0 w L) (i : Nat) {t t' : Thing} (hi : L[i]? = some t) (hS : t'.S = t.S) (ht : Touch t.S w w') (his : t'.is w') : Led w0 w' (L.set i t') := by
  refine ⟨h.bl.trans (ht.below (B := w0.heap.size) (h.all i t hi).2 h.bl.size), fun j u hu => ?_, fun j k a b hjk ha hb x h1 h2 => ?_⟩
  · rw [List.getElem?_set] at hu
    by_cases hij : i = j
    · subst hij
      rw [if_pos rfl] at hu
      split at hu
      · injection hu with hu; subst hu; exact ⟨his, by rw [hS]; exact (h.all i t hi).2⟩
      · cases hu
    · rw [if_neg hij] at hu
      exact ⟨u.st w w' (h.all j u hu).1 ht.size (fun b hb => ht.block b (u.lies w (h.all j u hu).1 b hb) (h.apart j i u t (by omega) hu hi b hb)), (h.all j u hu).2⟩
  · have key : ∀ (j : Nat) a, (L.set i t')[j]? = some a → ∃ a', L[j]? = some a' ∧ a.S = a'.S := by
      intro j a ha
      rw [List.getElem?_set] at ha
      by_cases hij : i = j
      · subst hij
        rw [if_pos rfl] at ha
        split at ha
        · injection ha with ha; subst ha; exact ⟨t, hi, hS⟩
        · cases ha
      · rw [if_neg hij] at ha; exact ⟨a, ha, rfl⟩
    obtain ⟨a', ha', ea⟩ := key j a ha
    obtain ⟨b', hb', eb⟩ := key k b hb
    rw [ea] at h1; rw [eb] at h2
    exact h.apart j k a' b' hjk ha' hb' x h1 h2
/-- Forget the newest but n. -/
theorem Led.drop (h : Led w0 w L) (n : Nat) : Led w0 w (L.drop n) :=
  ⟨h.bl, fun i t hi => h.all (n + i) t (by rwa [List.getElem?_drop] at hi), fun i j a b hij ha hb => h.apart (n + i) (n + j) a b (by omega) (by rwa [List.getElem?_drop] at ha) (by rwa [List.getElem?_drop] at hb)⟩
theorem Owns.st {α : Type} {E : El α} {base : Nat} {e : TypeId} {v : Value} {xs : List α} (h : Owns E w base e v xs) (hk : ∀ b, v.ownBlock = some b → w'.heap[b]? = w.heap[b]?) : Owns E w' base e v xs := by
  refine ⟨h.1, ?_⟩
  rcases h.2 with h0 | ⟨g, cap, cur, hv, hg, hh, r⟩
  · exact .inl h0
  · exact .inr ⟨g, cap, cur, hv, hg, (hk g (by rw [hv]; rfl)).trans hh, r⟩
end
def tBlk (g : Nat) (e : TypeId) (cur : Array Value) : Thing := ⟨fun b => b = g, fun w => Blk w g e cur, fun _ _ h _ hb => (hb g rfl).trans h, fun _ h b e => by subst e; exact h.lt⟩
def tOwns {α : Type} (E : El α) (base : Nat) (e : TypeId) (v : Value) (xs : List α) : Thing :=
  ⟨fun b => v.ownBlock = some b, fun w => Owns E w base e v xs, fun _ _ h _ hb => h.st hb, fun _ h b e => (h.lies b e).2⟩
def tNet (base : Nat) (A : Option Addr) (n c : Nat) (A' : Option Addr) (m d : Nat) (xs : List ByteArray) (fs : List Fib) : Thing :=
  ⟨fun b => (Value.slice A n c).ownBlock = some b ∨ (Value.slice A' m d).ownBlock = some b, fun w => NetOwn w base A n c A' m d xs fs,
    fun _ _ ⟨a, b, c, d, e, f, g, i⟩ _ hb => ⟨a, b, c, d, e, f, g.st (fun b h => hb b (.inl h)), i.st (fun b h => hb b (.inr h))⟩,
    fun _ ⟨_, _, _, _, _, _, g, i⟩ b e => by rcases e with e | e; exact (g.lies b e).2; exact (i.lies b e).2⟩
def tSS (base : Nat) (v : Value) (ss : List Sl) (rows : List (List Int)) : Thing :=
  ⟨fun b => v.ownBlock = some b ∨ ∃ (i : Nat) (s : Sl), ss[i]? = some s ∧ (slV s).ownBlock = some b, fun w => OwnsSS w base v ss rows,
    fun _ _ ⟨a, b, c, d⟩ _ hb => ⟨a.st (fun b h => hb b (.inl h)), b, fun i s r h1 h2 => (c i s r h1 h2).st (fun g h => hb g (.inr ⟨i, s, h1, h⟩)), d⟩,
    fun _ ⟨a, b, c, _⟩ g e => by
      rcases e with e | ⟨i, s, h1, e⟩
      · exact (a.lies g e).2
      · obtain ⟨r, hr⟩ : ∃ r, rows[i]? = some r := ⟨rows[i]'(by rw [← b]; exact (List.getElem?_eq_some_iff.1 h1).1), List.getElem?_eq_getElem _⟩
        exact ((c i s r h1 hr).lies g e).2⟩
section
variable {w0 w w' : World} {L : List Thing}
theorem Led.blk (h : Led w0 w L) (e : TypeId) (cur : Array Value) : Led w0 (w.alloc (.cells cur e)) (tBlk w.heap.size e cur :: L) :=
  h.put (bl_alloc (Below.refl _ _) _) _ (fun b e => by cases e; exact Nat.le_refl _) (Blk.new w e cur)
theorem Led.owns {α : Type} {E : El α} {e : TypeId} {v : Value} {xs : List α} (h : Led w0 w L) (hb : Below w.heap.size w w') (ho : Owns E w' w.heap.size e v xs) : Led w0 w' (tOwns E w.heap.size e v xs :: L) :=
  h.put hb _ (fun b e => (ho.lies b e).1) ho
theorem Led.net {A A' : Option Addr} {n c m d : Nat} {xs : List ByteArray} {fs : List Fib} (h : Led w0 w L) (hb : Below w.heap.size w w') (ho : NetOwn w' w.heap.size A n c A' m d xs fs) : Led w0 w' (tNet w.heap.size A n c A' m d xs fs :: L) :=
  h.put hb _ (fun b e => by obtain ⟨_, _, _, _, _, _, g, i⟩ := ho; rcases e with e | e; exact (g.lies b e).1; exact (i.lies b e).1) ho
theorem OwnsSS.lies {base : Nat} {v : Value} {ss : List Sl} {rows : List (List Int)} (h : OwnsSS w base v ss rows) {b : Nat} (hb : v.ownBlock = some b ∨ ∃ (i : Nat) (s : Sl), ss[i]? = some s ∧ (slV s).ownBlock = some b) : base ≤ b := by
  rcases hb with e | ⟨i, s, h1, e⟩
  · exact (h.1.lies b e).1
  · obtain ⟨r, hr⟩ : ∃ r, rows[i]? = some r := ⟨rows[i]'(by rw [← h.2.1]; exact (List.getElem?_eq_some_iff.1 h1).1), List.getElem?_eq_getElem _⟩
    exact ((h.2.2.1 i s r h1 hr).lies b e).1
theorem Led.ss {v : Value} {ss : List Sl} {rows : List (List Int)} (h : Led w0 w L) (hb : Below w.heap.size w w') (ho : OwnsSS w' w.heap.size v ss rows) : Led w0 w' (tSS w.heap.size v ss rows :: L) :=
  h.put hb _ (fun _ e => ho.lies e) ho
/-- A network and a row of numbers, made by one call. -/
theorem Led.net_owns {A A' : Option Addr} {n c m d : Nat} {xs : List ByteArray} {fs : List Fib} {v : Value} {is : List Int} (h : Led w0 w L) (hb : Below w.heap.size w w') (ho : NetOwn w' w.heap.size A n c A' m d xs fs) (hi : Owns elInt w' w.heap.size 3 v is) :
    Led w0 w' (tOwns elInt w.heap.size 3 v is :: tNet w.heap.size A n c A' m d xs fs :: L) := by
  have h1 := h.net hb ho
  have h2 := h.owns hb hi
  refine ⟨h1.bl, fun i t ht => ?_, fun i j a b hij ha hb2 k k1 k2 => ?_⟩
  · cases i with
    | zero => exact h2.all 0 t ht
    | succ i => exact h1.all i t ht
  · have key : ∀ k, (tOwns elInt w.heap.size 3 v is).S k → ¬ (tNet w.heap.size A n c A' m d xs fs).S k := by
      intro k e1 e2
      obtain ⟨_, _, _, _, _, _, g, i⟩ := ho
      rcases e2 with e2 | e2
      · exact owns_ne g hi (by decide) k e1 e2
      · exact owns_ne i hi (by decide) k e1 e2
    rcases i with _ | _ | i
    · rcases j with _ | _ | j
      · exact hij rfl
      · simp at ha hb2; subst ha; subst hb2; exact key k k1 k2
      · exact h2.apart 0 (j + 1) a b (by omega) ha hb2 k k1 k2
    · rcases j with _ | _ | j
      · simp at ha hb2; subst ha; subst hb2; exact key k k2 k1
      · exact hij rfl
      · exact h1.apart 0 (j + 1) a b (by omega) ha hb2 k k1 k2
    · rcases j with _ | _ | j
      · exact h2.apart (i + 1) 0 a b (by omega) ha hb2 k k1 k2
      · exact h1.apart (i + 1) 0 a b (by omega) ha hb2 k k1 k2
      · exact h1.apart (i + 1) (j + 1) a b (by omega) ha hb2 k k1 k2
end
/-! ### Marks in words of one shape -/
theorem markI_led {w0 w : World} {L : List Thing} (h : Led w0 w L) (i : Nat) {base : Nat} {v : Value} {xs : List Int} (hi : L[i]? = some (tOwns elInt base 3 v xs)) (k : Int) (hn : xs.length ≤ 1048576) (hk0 : 0 ≤ k) (hk : k ≤ 1099511627776) :
    Calls Tryz.prog 14 #[v, .int .i64 k] w fun e w' => e = .returned (.int .i64 (k + xs.length)) ∧ Led w0 w' (L.set i (tOwns elInt base 3 v (marks k xs.length))) :=
  (markIntS_any k w (h.get i hi) rfl hn hk0 hk).mono fun _ _ ⟨he, ho, ht⟩ => ⟨he, h.touch i hi rfl ht ho⟩
theorem heldI_led {w0 w : World} {L : List Thing} (h : Led w0 w L) (i : Nat) {base n c : Nat} {A : Option Addr} (k : Int) (hi : L[i]? = some (tOwns elInt base 3 (.slice A n c) (marks k n))) (hn : n ≤ 1048576) (hk0 : 0 ≤ k) (hk : k ≤ 1099511627776) :
    Calls Tryz.prog 39 #[.slice A n c, .int .i64 k] w fun e w' => e = .returned (.int .i64 (k + n)) ∧ Led w0 w' L :=
  (heldIntS_any k w (by have := Owns.sees (h.get i hi); rw [marks_len] at this; exact this) hn hk0 hk).mono fun _ _ ⟨he, hw⟩ => ⟨he, hw ▸ h⟩
theorem eqI_led {w0 w : World} {L : List Thing} (h : Led w0 w L) (i j : Nat) {base base' c c' : Nat} {A A' : Option Addr} {xs : List Int} (hi : L[i]? = some (tOwns elInt base 3 (.slice A xs.length c) xs)) (hj : L[j]? = some (tOwns elInt base' 3 (.slice A' xs.length c') xs)) (hn : xs.length ≤ 1048576) :
    Calls Tryz.prog 12 #[.slice A xs.length c, .slice A' xs.length c'] w fun e w' => e = .returned (.bool true) ∧ Led w0 w' L :=
  (eqIntS_any w (Owns.sees (h.get i hi)) (Owns.sees (h.get j hj)) hn).mono fun _ _ ⟨he, q, hq⟩ => ⟨he, h.step (by rw [hq]; exact bl_drewN (Below.refl _ _) _)⟩
theorem markN_led {w0 w : World} {L : List Thing} (h : Led w0 w L) (i : Nat) {base n c m d : Nat} {A A' : Option Addr} {xs : List ByteArray} {fs : List Fib} (hi : L[i]? = some (tNet base A n c A' m d xs fs)) (k : Int) (hn : n ≤ 1048576) (hm : m ≤ 1048576) (hk0 : 0 ≤ k) (hk : k ≤ 549754765312) :
    Calls Tryz.prog 13 #[.agg #[.slice A n c, .slice A' m d], .int .i64 k] w fun e w' => e = .returned (.int .i64 (k + n + 4 * m)) ∧ Led w0 w' (L.set i (tNet base A n c A' m d (smarks k n) (fmarks (k + n) m))) :=
  (markNetwork_any k w (h.get i hi) hn hm hk0 hk).mono fun _ _ ⟨he, ho, ht⟩ => ⟨he, h.touch i hi rfl ht ho⟩
theorem eqN_led {w0 w : World} {L : List Thing} (h : Led w0 w L) (i j : Nat) {base base' n c m d c' d' : Nat} {A A' E E' : Option Addr} {xs : List ByteArray} {fs : List Fib} (hi : L[i]? = some (tNet base A n c A' m d xs fs)) (hj : L[j]? = some (tNet base' E n c' E' m d' xs fs)) (hn : n ≤ 1048576) (hm : m ≤ 1048576) :
    Calls Tryz.prog 11 #[.agg #[.slice A n c, .slice A' m d], .agg #[.slice E n c', .slice E' m d']] w fun e w' => e = .returned (.bool true) ∧ Led w0 w' L :=
  (eqNetwork_any w (NetOwn.strs (h.get i hi)) (NetOwn.strs (h.get j hj)) (NetOwn.fibs (h.get i hi)) (NetOwn.fibs (h.get j hj)) (Nat.le_refl _) (Nat.le_refl _) (by simp only [maxLen]; omega) (by simp only [maxLen]; omega)).mono fun _ _ ⟨he, hw⟩ => ⟨he, h.step hw⟩
theorem eqN_led2 {w0 w : World} {L : List Thing} (h : Led w0 w L) (i j : Nat) {base base' n c m d c' d' : Nat} {A A' E E' : Option Addr} {xs : List ByteArray} {fs : List Fib} (hi : L[i]? = some (tNet base A n c A' m d xs fs)) (hj : L[j]? = some (tNet base' E n c' E' m d' xs fs)) (hn : n ≤ 1048576) (hm : m ≤ 1048576) :
    Calls Tryz.prog 11 #[.agg #[.slice A n c, .slice A' m d], .agg #[.slice E n c', .slice E' m d']] w fun e w' => e = .returned (.bool true) ∧ Led w0 w' L ∧ Below w.heap.size w w' :=
  (eqNetwork_any w (NetOwn.strs (h.get i hi)) (NetOwn.strs (h.get j hj)) (NetOwn.fibs (h.get i hi)) (NetOwn.fibs (h.get j hj)) (Nat.le_refl _) (Nat.le_refl _) (by simp only [maxLen]; omega) (by simp only [maxLen]; omega)).mono fun _ _ ⟨he, hw⟩ => ⟨he, h.step hw, hw⟩
theorem ss_n {w : World} {base n c : Nat} {A : Option Addr} {ss : List Sl} {rows : List (List Int)} (h : OwnsSS w base (.slice A n c) ss rows) : n = rows.length := by
  obtain ⟨A', c', hv, _⟩ := h.1.form
  injection hv with _ e2 _
  rw [e2, h.2.1]
theorem ss_rows {w : World} {base : Nat} {v : Value} {ss : List Sl} {rows : List (List Int)} (h : (tSS base v ss rows).is w) : ss.length = rows.length := (show OwnsSS w base v ss rows from h).2.1
/-! ### Looks into the ledger -/
section
variable {w0 w : World} {L : List Thing}
theorem Led.cell (h : Led w0 w L) (i j : Nat) {g : Nat} {e : TypeId} {l : List Value} {u : Value} (hi : L[i]? = some (tBlk g e l.toArray)) (hj : l[j]? = some u) : w.cell? ⟨g, j, none⟩ = some u := by
  have hb : Blk w g e l.toArray := h.get i hi
  rw [hb.cell]; simpa using hj
theorem Led.frozen (h : Led w0 w L) (i j : Nat) {g : Nat} {e : TypeId} {l : List Value} (hi : L[i]? = some (tBlk g e l.toArray)) : w.frozen? ⟨g, j, none⟩ = false := Blk.frozen (h.get i hi) j
theorem Led.seesI (h : Led w0 w L) (i : Nat) {base c : Nat} {A : Option Addr} {xs : List Int} (hi : L[i]? = some (tOwns elInt base 3 (.slice A xs.length c) xs)) : Sees elInt w w.heap.size A xs.length xs := Owns.sees (h.get i hi)
theorem Led.rt (h : Led w0 w L) (i : Nat) {base c : Nat} {A : Option Addr} {xs : List Int} (hi : L[i]? = some (tOwns elInt base 3 (.slice A xs.length c) xs)) (hk : xs.length ≤ 1048576) : RtIs w A xs.length c xs := by
  have ho : Owns elInt w base _ _ xs := h.get i hi
  obtain ⟨A', c', hv, h1, _, _⟩ := ho.form
  injection hv with _ _ e3
  exact ⟨⟨by omega, hk⟩, ho.sees⟩
theorem Led.netIs (h : Led w0 w L) (i : Nat) {base n c m d : Nat} {A A' : Option Addr} {xs : List ByteArray} {fs : List Fib} (hi : L[i]? = some (tNet base A n c A' m d xs fs)) (hn : n ≤ 1048576) (hm : m ≤ 1048576) (hx : ∀ x ∈ xs, x.size ≤ maxLen) : NetIs w A n c A' m d xs fs :=
  NetOwn.is (h.get i hi) hn hm hx
/-- A block made by the walk, under the walk's name for its address. -/
theorem Led.blk_ (h : Led w0 w L) (g : Nat) (hg : g = w.heap.size) (e : TypeId) (cur : Array Value) : Led w0 (w.alloc (.cells cur e)) (tBlk g e cur :: L) := by subst hg; exact h.blk e cur
end
end Go.Proofs.YtgoegldffjfmdaaGreat
/- The ledger in a function's own walk: appends, stores, new rows. Conditions: at most 1099511627776 elements. -/
namespace Go.Proofs.YtgoegldffjfmdaaGreat
open Go.RowKit
section
variable {w0 w w' : World} {L : List Thing}
/-- One thing grows: into its own blocks or into new ones. -/
theorem Led.regrow (h : Led w0 w L) (i : Nat) {t t' : Thing} (hi : L[i]? = some t) (ht : Touch t.S w w') (hS : ∀ b, t'.S b → t.S b ∨ w.heap.size ≤ b) (his : t'.is w') : Led w0 w' (L.set i t') := by
  refine ⟨h.bl.trans (ht.below (B := w0.heap.size) (h.all i t hi).2 h.bl.size), fun j u hu => ?_, fun j k a b hjk ha hb x h1 h2 => ?_⟩
  · rw [List.getElem?_set] at hu
    by_cases hij : i = j
    · subst hij
      rw [if_pos rfl] at hu
      split at hu
      · injection hu with hu; subst hu
        refine ⟨his, fun b hb => ?_⟩
        rcases hS b hb with h1 | h1
        · exact (h.all i t hi).2 b h1
        · exact Nat.le_trans h.bl.size h1
      · cases hu
    · rw [if_neg hij] at hu
      exact ⟨u.st w w' (h.all j u hu).1 ht.size (fun b hb => ht.block b (u.lies w (h.all j u hu).1 b hb) (h.apart j i u t (by omega) hu hi b hb)), (h.all j u hu).2⟩
  · have key : ∀ (j : Nat) a, (L.set i t')[j]? = some a → (j = i ∧ a = t') ∨ (j ≠ i ∧ L[j]? = some a) := by
      intro j a ha
      rw [List.getElem?_set] at ha
      by_cases hij : i = j
      · subst hij
        rw [if_pos rfl] at ha
        split at ha
        · injection ha with ha; exact .inl ⟨rfl, ha.symm⟩
        · cases ha
      · rw [if_neg hij] at ha; exact .inr ⟨fun e => hij e.symm, ha⟩
    rcases key j a ha with ⟨rfl, rfl⟩ | ⟨hji, ha'⟩
    · rcases key k b hb with ⟨rfl, rfl⟩ | ⟨hki, hb'⟩
      · exact hjk rfl
      · rcases hS x h1 with h3 | h3
        · exact h.apart j k t b hjk hi hb' x h3 h2
        · have := b.lies w (h.all k b hb').1 x h2; omega
    · rcases key k b hb with ⟨rfl, rfl⟩ | ⟨hki, hb'⟩
      · rcases hS x h2 with h3 | h3
        · exact h.apart j k a t hjk ha' hi x h1 h3
        · have := a.lies w (h.all j a ha').1 x h1; omega
      · exact h.apart j k a b hjk ha' hb' x h1 h2
/-- A store into a block of the ledger. -/
theorem Led.set (h : Led w0 w L) (i : Nat) {g : Nat} {e : TypeId} {l : List Value} (hi : L[i]? = some (tBlk g e l.toArray)) (j : Nat) (u : Value) : Led w0 (w.setCell ⟨g, j, none⟩ u) (L.set i (tBlk g e (l.set j u).toArray)) :=
  h.touch i hi rfl (Touch.set (S := fun b => b = g) w (p := ⟨g, j, none⟩) rfl u) (by
    have hb : Blk w g e l.toArray := h.get i hi
    have := hb.set j u
    have e1 : l.toArray.setIfInBounds j u = (l.set j u).toArray := by simp
    rw [e1] at this
    exact this)
/-- A row made by a call. -/
theorem Led.owns_ {α : Type} {E : El α} {e : TypeId} {v : Value} {xs : List α} {base b0 : Nat} (h : Led w0 w L) (hb : Below w.heap.size w w') (ho : Owns E w' base e v xs) (hB : w.heap.size ≤ base) (h0 : b0 ≤ base) : Led w0 w' (tOwns E b0 e v xs :: L) :=
  h.put hb (tOwns E b0 e v xs) (fun b e => Nat.le_trans hB (ho.lies b e).1) (ho.base h0)
/-- A row of no elements, in a block of its own. -/
theorem Led.empty {α : Type} (h : Led w0 w L) (E : El α) (e : TypeId) (g : Nat) (hg : g = w.heap.size) (b0 : Nat) (h0 : b0 ≤ g) : Led w0 (w.alloc (.cells #[] e)) (tOwns E b0 e (.slice (some ⟨g, 0, none⟩) 0 0) [] :: L) := by
  subst hg
  exact h.owns_ (bl_alloc (Below.refl _ _) _) (Owns.of_blk (n := 0) (cap := 0) (cur := #[]) (Blk.new w e #[]) (Nat.le_refl _) rfl (Nat.le_refl _) (by simp) (by decide) (Filled.zero _ _ _)) (Nat.le_refl _) h0
theorem filled_single {α : Type} (E : El α) (x : α) : Filled E (E.cells x).toArray [x] 1 := by
  intro j y hj hy i u hu
  obtain rfl : j = 0 := by omega
  simp at hy; subst hy
  simpa using hu
/-- A row of one element, in a block of its own. -/
theorem Led.single {α : Type} (h : Led w0 w L) (E : El α) (x : α) (e : TypeId) (g : Nat) (hg : g = w.heap.size) (b0 : Nat) (h0 : b0 ≤ g) : Led w0 (w.alloc (.cells (E.cells x).toArray e)) (tOwns E b0 e (.slice (some ⟨g, 0, none⟩) 1 1) [x] :: L) := by
  subst hg
  exact h.owns_ (bl_alloc (Below.refl _ _) _) (Owns.of_blk (n := 1) (cap := 1) (cur := (E.cells x).toArray) (Blk.new w e _) (Nat.le_refl _) rfl (Nat.le_refl _) (by simp [E.len]) (by decide) (filled_single E x)) (Nat.le_refl _) h0
/-- The nil slice. -/
theorem Led.nilS {α : Type} (h : Led w0 w L) (E : El α) (e : TypeId) (b0 : Nat) : Led w0 w (tOwns E b0 e (.slice none 0 0) [] :: L) :=
  h.put (Below.refl _ _) (tOwns E b0 e (.slice none 0 0) []) (fun b e => by cases e) (World.ownsRow_nil _ _ _ _)
theorem Led.sees {α : Type} {E : El α} (h : Led w0 w L) (i : Nat) {base c n : Nat} {e : TypeId} {A : Option Addr} {xs : List α} (hi : L[i]? = some (tOwns E base e (.slice A n c) xs)) (hn : n = xs.length) : Sees E w w.heap.size A n xs := by
  subst hn
  exact Owns.sees (show Owns E w base e (.slice A xs.length c) xs from h.get i hi)
theorem Led.form {α : Type} {E : El α} (h : Led w0 w L) (i : Nat) {base : Nat} {e : TypeId} {v : Value} {xs : List α} (hi : L[i]? = some (tOwns E base e v xs)) : ∃ A c, v = .slice A xs.length c ∧ xs.length ≤ c := by
  obtain ⟨A, c, h1, h2, _⟩ := Owns.form (show Owns E w base e v xs from h.get i hi)
  exact ⟨A, c, h1, h2⟩
theorem Led.own {α : Type} {E : El α} (h : Led w0 w L) (i : Nat) {base : Nat} {e : TypeId} {v : Value} {xs : List α} (hi : L[i]? = some (tOwns E base e v xs)) : Owns E w base e v xs := h.get i hi
end
/-- A new block shows its one element. -/
theorem sees_new {α : Type} (E : El α) (w : World) (x : α) (e : TypeId) (g : Nat) (hg : g = w.heap.size) : Sees E (w.alloc (.cells (E.cells x).toArray e)) (w.heap.size + 1) (some ⟨g, 0, none⟩) 1 [x] := by
  subst hg
  refine ⟨rfl, .inr ⟨w.heap.size, 0, rfl, Nat.lt_succ_self _, fun k y hy j u hu => ?_⟩⟩
  have hb : Blk (w.alloc (.cells (E.cells x).toArray e)) w.heap.size e (E.cells x).toArray := Blk.new _ _ _
  have hk : k = 0 := by have := (List.getElem?_eq_some_iff.1 hy).1; simp at this; omega
  subst hk
  simp at hy; subst hy
  rw [hb.cell]; simpa using hu
section
variable {P : Program}
/-- append onto a row of the call's own, of whatever is seen. -/
theorem run_append_all {α : Type} {E : El α} {w : World} {base : Nat} {e t ty : TypeId} {v : Value} {xs ys : List α} {A : Option Addr} {n c B : Nat} {i : TypeInfo} {z : Value} (ht : P.underlying t = some (.slice e)) (hi : P.info? e = some i) (hz0 : i.zero = some z) (hz1 : i.size = E.sz)
    (hzs : z.cells.size = E.sz) (ho : Owns E w base e v xs) (hy : Sees E w B A n ys) (h63 : xs.length + n ≤ 1099511627776) (hby : i.bytes ≤ 64) (hbase : base ≤ w.heap.size) :
    ∃ A' c' w', (Builtin.append_ #[t, t] ty #[v, .slice A n c]).run P w = .ok (.slice A' (xs.length + n) c') w' ∧ Owns E w' base e (.slice A' (xs.length + n) c') (xs ++ ys) ∧ w.grownBy w' v.ownBlock ∧
      ∀ g, (Value.slice A' (xs.length + n) c').ownBlock = some g → v.ownBlock = some g ∨ g = w.heap.size := by
  have hyl := hy.len
  rcases A with _ | ad
  · have hn : n = 0 := by
      rcases hy.2 with h | ⟨b, o, h, _⟩
      · exact h
      · cases h
    subst hn
    have hys : ys = [] := List.eq_nil_of_length_eq_zero hyl
    subst hys
    obtain ⟨A1, c1, rfl, hc1, _, _⟩ := ho.form
    refine ⟨A1, c1, w, ?_, by simpa using ho, ⟨rfl, rfl, rfl, Nat.le_refl _, fun _ _ _ => rfl⟩, fun g hg => .inl hg⟩
    have h1 := run_append_nothing (P := P) w t t ty e i ht hi A1 xs.length c1 hc1 (.slice none 0 c) (Src.ofNil w ht c)
    simpa using h1
  · have hcells : ∀ j u, (ys.flatMap E.cells)[j]? = some u → w.cell? (ad.add j) = some u := by
      intro j u hj
      rcases hy.2 with h | ⟨b, o, h, _, hc⟩
      · subst h
        rw [List.eq_nil_of_length_eq_zero hyl] at hj; simp at hj
      · injection h with h; subst h
        have hpos := E.pos
        have hjl : j < ys.length * E.sz := by rw [← flat_len]; exact (List.getElem?_eq_some_iff.1 hj).1
        have hk : j / E.sz < ys.length := (Nat.div_lt_iff_lt_mul hpos).2 hjl
        obtain ⟨y, hyk⟩ : ∃ y, ys[j / E.sz]? = some y := ⟨ys[j / E.sz], List.getElem?_eq_getElem hk⟩
        have hm : j % E.sz < (E.cells y).length := by rw [E.len]; exact Nat.mod_lt _ hpos
        have h1 := hc (j / E.sz) y hyk (j % E.sz) _ (List.getElem?_eq_getElem hm)
        have h2 := flat_get E ys (j / E.sz) y hyk (j % E.sz) _ (List.getElem?_eq_getElem hm)
        have e1 : j / E.sz * E.sz + j % E.sz = j := by rw [Nat.mul_comm]; exact Nat.div_add_mod j E.sz
        rw [e1] at h2
        rw [hj] at h2
        injection h2 with h2
        rw [← h2] at h1
        have e2 : o + j / E.sz * E.sz + j % E.sz = o + j := by omega
        rw [e2] at h1
        rw [← h1]
        unfold Addr.add
        split
        · rename_i h0; rw [h0, Nat.add_zero]
        · rfl
    have h1c : ∀ u ∈ ys.flatMap E.cells, u.oneCell' = true := fun u hu => by
      obtain ⟨y, _, h2⟩ := List.mem_flatMap.1 hu
      exact E.one y u h2
    obtain ⟨v', w', hr, h2, h3, _, h5⟩ := run_append_own_at (P := P) w base t ty e i z E.sz i.bytes ht hi hz0 hz1 rfl hzs E.pos v xs.length (xs.flatMap E.cells) ho ad n c (ys.flatMap E.cells) (by rw [flat_len, hyl]) hcells h1c (by unfold maxLen; omega)
      (by have : (xs.length + n) * i.bytes ≤ 1099511627776 * 64 := Nat.mul_le_mul h63 hby; omega) hbase
    have ho' : Owns E w' base e v' (xs ++ ys) := by
      unfold Owns
      rw [List.length_append, hyl, List.flatMap_append]
      exact h2
    obtain ⟨A', c', hv, _⟩ := ho'.form
    rw [List.length_append, hyl] at hv
    subst hv
    refine ⟨A', c', w', hr, ho', h3, fun g hg => ?_⟩
    rcases h5 with h5 | h5
    · exact .inl (by rw [← h5]; exact hg)
    · exact .inr (by rw [h5] at hg; injection hg with hg; exact hg.symm)
variable {w0 w : World} {L : List Thing} {ops : Array Oper} {rest : List Oper} {o : Oper} {a : Act} {Q : Exit → Act → World → Prop}
theorem wp_append_led {α : Type} {E : El α} {K : Act → World → Prop} (s x : Operand) (t : TypeId) (ho : o.op = .call { callee := .builtin .append, args := #[s, x], argTypes := #[t, t] }) (hS : Led w0 w L) (j : Nat) {base : Nat} {e : TypeId} {v : Value} {xs ys : List α}
    (hj : L[j]? = some (tOwns E base e v xs)) {A : Option Addr} {n c B : Nat} {i : TypeInfo} {z : Value} (ht : P.underlying t = some (.slice e)) (hi : P.info? e = some i) (hz0 : i.zero = some z) (hz1 : i.size = E.sz) (hby : i.bytes ≤ 64) (hzs : z.cells.size = E.sz)
    (hs : a.eval s = v) (hx : a.eval x = .slice A n c) (hy : Sees E w B A n ys) (h63 : xs.length + n ≤ 1099511627776) (hbase : base ≤ w.heap.size)
    (h : ∀ A' c' w', Led w0 w' (L.set j (tOwns E base e (.slice A' (xs.length + n) c') (xs ++ ys))) → K (a.put o.dst (.slice A' (xs.length + n) c')) w') : o.wp P a w K Q := by
  obtain ⟨A', c', w', hr, h2, h3, h4⟩ := run_append_all (P := P) (ty := o.type) (c := c) ht hi hz0 hz1 hzs (hS.own j hj) hy h63 hby hbase
  unfold Oper.wp execOp
  simp only [ho, resolve, invoke, builtin, Sem.run_bind, Sem.run_pure, Result.andThen_ok, List.map_toArray, List.map_cons, List.map_nil, hs, hx, hr]
  refine h A' c' w' (hS.regrow j hj ⟨h3.os, h3.tape, h3.output, h3.size, fun k hk hn => h3.block k hk (fun e => hn e.symm)⟩ (fun b hb => ?_) h2)
  rcases h4 b hb with h5 | h5
  · exact .inl h5
  · exact .inr (by omega)
theorem wpList_append_led {α : Type} {E : El α} (hgd : o.guard = none) (s x : Operand) (t : TypeId) (ho : o.op = .call { callee := .builtin .append, args := #[s, x], argTypes := #[t, t] }) (hS : Led w0 w L) (j : Nat) {base : Nat} {e : TypeId} {v : Value} {xs ys : List α}
    (hj : L[j]? = some (tOwns E base e v xs)) {A : Option Addr} {n c B : Nat} {i : TypeInfo} {z : Value} (ht : P.underlying t = some (.slice e)) (hi : P.info? e = some i) (hz0 : i.zero = some z) (hz1 : i.size = E.sz) (hby : i.bytes ≤ 64) (hzs : z.cells.size = E.sz)
    (hs : a.eval s = v) (hx : a.eval x = .slice A n c) (hy : Sees E w B A n ys) (h63 : xs.length + n ≤ 1099511627776) (hbase : base ≤ w.heap.size)
    (h : ∀ A' c' w', Led w0 w' (L.set j (tOwns E base e (.slice A' (xs.length + n) c') (xs ++ ys))) → wpList P ops Q rest (a.put o.dst (.slice A' (xs.length + n) c')) w') : wpList P ops Q (o :: rest) a w :=
  wpList_plain hgd fun _ hK => wp_append_led s x t ho hS j hj ht hi hz0 hz1 hby hzs hs hx hy h63 hbase fun A' c' w' h2 => hK _ _ (h A' c' w' h2)
theorem step_append_led {α : Type} {E : El α} {K : Act → World → Prop} {F : Prop} (hgd : o.guard = none) (s x : Operand) (t : TypeId) (ho : o.op = .call { callee := .builtin .append, args := #[s, x], argTypes := #[t, t] }) (hS : Led w0 w L) (j : Nat) {base : Nat} {e : TypeId} {v : Value} {xs ys : List α}
    (hj : L[j]? = some (tOwns E base e v xs)) {A : Option Addr} {n c B : Nat} {i : TypeInfo} {z : Value} (ht : P.underlying t = some (.slice e)) (hi : P.info? e = some i) (hz0 : i.zero = some z) (hz1 : i.size = E.sz) (hby : i.bytes ≤ 64) (hzs : z.cells.size = E.sz)
    (hs : a.eval s = v) (hx : a.eval x = .slice A n c) (hy : Sees E w B A n ys) (h63 : xs.length + n ≤ 1099511627776) (hbase : base ≤ w.heap.size)
    (h : ∀ A' c' w', Led w0 w' (L.set j (tOwns E base e (.slice A' (xs.length + n) c') (xs ++ ys))) → K (a.put o.dst (.slice A' (xs.length + n) c')) w') : if Region.wanted o (yielded ops a.tmps) = true then Oper.wp P o a w K Q else F := by
  have hw : Region.wanted o (yielded ops a.tmps) = true := by simp [Region.wanted, hgd]
  rw [if_pos hw]
  exact wp_append_led s x t ho hS j hj ht hi hz0 hz1 hby hzs hs hx hy h63 hbase h
end
end Go.Proofs.YtgoegldffjfmdaaGreat
/- Lengths of routes, their nodes and their ends; RouteNodes, RouteLength; walked. Conditions: as each states. -/
namespace Go.Proofs.YtgoegldffjfmdaaGreat
open Go.RowKit
section
variable {n c m d er : Nat} {A A' R : Option Addr} {xs : List ByteArray} {fs : List Fib} {s : Int} {ids : List Int}
set_option maxHeartbeats 1000000 in
set_option maxRecDepth 100000 in
theorem lengthOf_any (w : World) (h : NetIs w A n c A' m d xs fs) (hr : RtIs w R ids.length er ids) (hin : ∀ x ∈ ids, 0 ≤ x ∧ x < fs.length) (hl : ∀ f ∈ fs, 0 ≤ f.len ∧ f.len ≤ 5000) :
    Calls Tryz.prog 45 #[.agg #[.slice A n c, .slice A' m d], .agg #[.int .i64 s, .slice R ids.length er]] w fun e w' => e = .returned (.int .i64 (lenR fs ids)) ∧ Below w.heap.size w w' := by
  have hS := ((Led.nil w).blk_ w.heap.size rfl 34 #[.slice A n c, .slice A' m d]).blk_ (w.heap.size + 1) (by simp) 29 #[.int .i64 s, .slice R ids.length er]
  have hbd := hid (rlTo_bd hl hin)
  have HIN := hid hin
  have hkr := hr.le
  have hm := h.mle
  have hlf := hid h.flen
  have HS := hid hS
  have HF := hid h
  have HR := hid hr
  clear hin hl hS h hr
  go_enter Tryz.func45, Tryz.ntmps45
  go_wp2_with fail
  go_loopw [5, 11] (fun t i wr => ∃ (k : Nat) (r : Int), k ≤ ids.length ∧ i = .int .i64 k ∧ t = .int .i64 r ∧ Hid (r = rlTo fs ids k) ∧ Hid (Led w wr [tBlk (w.heap.size + 1) 29 #[.int .i64 s, .slice R ids.length er], tBlk w.heap.size 34 #[.slice A n c, .slice A' m d]])) (fun _ i _ => ids.length - (intOf i).toNat)
  case atStart => exact ⟨0, 0, Nat.zero_le _, rfl, rfl, (rlTo_zero fs ids).symm, HS⟩
  case round =>
    clear HS
    obtain ⟨k, r, hk, rfl, rfl, hre, HS⟩ := hrel
    have p1 := HS.out.cell 1 1 rfl rfl
    have p3 := HS.out.cell 0 1 rfl rfl
    by_cases hlt : k < ids.length
    · obtain ⟨ib, io, rfl, _, hc⟩ := HR.out.2.at_ hlt
      obtain ⟨x, hxk⟩ := get_of (k := k) rfl hlt
      have hx := HIN.out x (List.mem_of_getElem? hxk)
      rw [hlf.out] at hx
      obtain ⟨j, rfl⟩ : ∃ j : Nat, x = (j : Int) := ⟨x.toNat, by omega⟩
      obtain ⟨b, o, rfl, _, hd⟩ := HF.out.fibs.at_ (k := j) (by omega)
      obtain ⟨f, hfj⟩ := get_of (k := j) hlf.out (by omega)
      have e0 := bl_cell HS.out.bl (hc k _ hxk 0 _ rfl)
      have f2 := bl_cell HS.out.bl (hd j f hfj 2 _ rfl)
      simp only [elFib, elInt, Nat.mul_one, Nat.add_zero] at e0 f2
      have b1 := hbd.out k (by omega)
      have b2 := hbd.out (k + 1) (by omega)
      have HN : Hid (rlTo fs ids (k + 1) = r + f.len) := by unfold Hid; rw [rlTo_succ hxk (by simpa using hfj), ← hre.out]
      rw [← hre.out] at b1
      rw [HN.out] at b2
      have iw : IntKind.i64.wrap (r + f.len) = r + f.len := IntWalk.i64_in _ (by omega)
      have ik : (k : Int) < (ids.length : Int) := by omega
      clear hc hd hxk hfj
      go_wp2
      go_roundw
      case rel => exact ⟨k + 1, _, by omega, by go_num, rfl, HN.out.symm, HS⟩
      case measure => simp [intOf]; omega
    · have hkm : k = ids.length := by omega
      have HE : Hid (r = lenR fs ids) := by rw [hkm] at hre; exact hre
      clear hlt hre
      go_wp2
      go_ret
      exact ⟨by rw [HE.out]; rfl, HS.out.bl⟩
set_option maxHeartbeats 1000000 in
set_option maxRecDepth 100000 in
theorem l4Length_any (w : World) (h : NetIs w A n c A' m d xs fs) (hr : RtIs w R ids.length er ids) (hin : ∀ x ∈ ids, 0 ≤ x ∧ x < fs.length) (hl : ∀ f ∈ fs, 0 ≤ f.len ∧ f.len ≤ 5000) :
    Calls Tryz.prog 88 #[.agg #[.slice A n c, .slice A' m d], .agg #[.int .i64 s, .slice R ids.length er]] w fun e w' => e = .returned (.int .i64 (lenR fs ids)) ∧ Below w.heap.size w w' := by
  have hS := ((Led.nil w).blk_ w.heap.size rfl 34 #[.slice A n c, .slice A' m d]).blk_ (w.heap.size + 1) (by simp) 29 #[.int .i64 s, .slice R ids.length er]
  have hbd := hid (rlTo_bd hl hin)
  have HIN := hid hin
  have hkr := hr.le
  have hm := h.mle
  have hlf := hid h.flen
  have HS := hid hS
  have HF := hid h
  have HR := hid hr
  clear hin hl hS h hr
  go_enter Tryz.func88, Tryz.ntmps88
  go_wp2_with fail
  go_loopw [5, 6] (fun t i wr => ∃ (k : Nat) (r : Int), k ≤ ids.length ∧ i = .int .i64 k ∧ t = .int .i64 r ∧ Hid (r = rlTo fs ids k) ∧ Hid (Led w wr [tBlk (w.heap.size + 1) 29 #[.int .i64 s, .slice R ids.length er], tBlk w.heap.size 34 #[.slice A n c, .slice A' m d]])) (fun _ i _ => ids.length - (intOf i).toNat)
  case atStart => exact ⟨0, 0, Nat.zero_le _, rfl, rfl, (rlTo_zero fs ids).symm, HS⟩
  case round =>
    clear HS
    obtain ⟨k, r, hk, rfl, rfl, hre, HS⟩ := hrel
    have p1 := HS.out.cell 1 1 rfl rfl
    have p3 := HS.out.cell 0 1 rfl rfl
    by_cases hlt : k < ids.length
    · obtain ⟨ib, io, rfl, _, hc⟩ := HR.out.2.at_ hlt
      obtain ⟨x, hxk⟩ := get_of (k := k) rfl hlt
      have hx := HIN.out x (List.mem_of_getElem? hxk)
      rw [hlf.out] at hx
      obtain ⟨j, rfl⟩ : ∃ j : Nat, x = (j : Int) := ⟨x.toNat, by omega⟩
      obtain ⟨b, o, rfl, _, hd⟩ := HF.out.fibs.at_ (k := j) (by omega)
      obtain ⟨f, hfj⟩ := get_of (k := j) hlf.out (by omega)
      have e0 := bl_cell HS.out.bl (hc k _ hxk 0 _ rfl)
      have f2 := bl_cell HS.out.bl (hd j f hfj 2 _ rfl)
      simp only [elFib, elInt, Nat.mul_one, Nat.add_zero] at e0 f2
      have b1 := hbd.out k (by omega)
      have b2 := hbd.out (k + 1) (by omega)
      have HN : Hid (rlTo fs ids (k + 1) = r + f.len) := by unfold Hid; rw [rlTo_succ hxk (by simpa using hfj), ← hre.out]
      rw [← hre.out] at b1
      rw [HN.out] at b2
      have iw : IntKind.i64.wrap (r + f.len) = r + f.len := IntWalk.i64_in _ (by omega)
      have ik : (k : Int) < (ids.length : Int) := by omega
      clear hc hd hxk hfj
      have P1 : ∀ w', Cls wr w' → w'.cell? ⟨w.heap.size, 1, none⟩ = some (.slice (some ⟨b, o, none⟩) m d) := fun _ h => h.cell p1
      have P3 : ∀ w', Cls wr w' → w'.cell? ⟨w.heap.size + 1, 1, none⟩ = some (.slice (some ⟨ib, io, none⟩) ids.length er) := fun _ h => h.cell p3
      have E0 : ∀ w', Cls wr w' → w'.cell? ⟨ib, io + k, none⟩ = some (.int .i64 (j : Int)) := fun _ h => h.cell e0
      have F2 : ∀ w', Cls wr w' → w'.cell? ⟨b, o + j * 4 + 2, none⟩ = some (.int .i64 f.len) := fun _ h => h.cell f2
      go_wp2
      refine region_cls (by kernel_rfl) (by kernel_rfl) ?_
      repeat (first
        | ((with_reducible refine quiet_pos ?_ (fun K hK => ?_))
           · rfl
           apply Exists.intro
           refine ⟨fun w' hw' => ?_, ?_⟩
           · go_simp
             with_reducible rfl
           simp only [Act.put, List.setIfInBounds_toArray, List.set_cons_zero, List.set_cons_succ]
           refine hK _ ?_; clear hK K)
        | ((with_reducible refine quiet_neg ?_ (fun K hK => ?_))
           · rfl
           simp only [Act.put, List.setIfInBounds_toArray, List.set_cons_zero, List.set_cons_succ]
           refine hK _ ?_; clear hK K))
      with_reducible refine wpQuiet_nil ?_
      intro wz hwz'
      have HS2 := hid (HS.out.step hwz')
      clear P1 P3 E0 F2 HS
      go_wp2
      go_roundw
      case rel => exact ⟨k + 1, _, by omega, by go_num, rfl, HN.out.symm, HS2⟩
      case measure => simp [intOf]; omega
    · have hkm : k = ids.length := by omega
      have HE : Hid (r = lenR fs ids) := by rw [hkm] at hre; exact hre
      clear hlt hre
      go_wp2
      go_ret
      exact ⟨by rw [HE.out]; rfl, HS.out.bl⟩
set_option maxHeartbeats 1000000 in
set_option maxRecDepth 100000 in
theorem endOf_any (w : World) (h : NetIs w A n c A' m d xs fs) (hr : RtIs w R ids.length er ids) (g : rtB n fs s ids = true) :
    Calls Tryz.prog 47 #[.agg #[.slice A n c, .slice A' m d], .agg #[.int .i64 s, .slice R ids.length er]] w fun e w' => e = .returned (.int .i64 (atW fs s ids ids.length)) ∧ Below w.heap.size w w' := by
  have hS := ((Led.nil w).blk_ w.heap.size rfl 34 #[.slice A n c, .slice A' m d]).blk_ (w.heap.size + 1) (by simp) 29 #[.int .i64 s, .slice R ids.length er]
  have hkr := hr.le
  have hol := outW_len fs s ids ids.length
  have hog := outW_get fs s ids ids.length
  have HL := hid hol
  have HG := hid hog
  clear hol hog
  go_enter Tryz.func47, Tryz.ntmps47
  go_wp2_with fail
  refine (visited_any s _ (h.grow hS.bl) (hr.grow hS.bl)).mono ?_
  rintro e w1 ⟨v, rfl, ho, hb⟩
  rw [rtL_yes g] at ho
  obtain ⟨A1, c1, rfl, _, _, hs⟩ := ho.form
  rw [HL.out] at hs ⊢
  obtain ⟨b, o, rfl, _, hc⟩ := hs.at_ (k := ids.length) (by omega)
  have e0 := hc _ _ HG.out 0 _ rfl
  simp only [elInt, Nat.mul_one, Nat.add_zero] at e0
  have iw : IntKind.i64.wrap (((ids.length + 1 : Nat) : Int) - 1) = (ids.length : Int) := by rw [show (((ids.length + 1 : Nat) : Int) - 1) = (ids.length : Int) by omega]; exact IntWalk.i64_in _ (by omega)
  have ik : (ids.length : Int) < ((ids.length + 1 : Nat) : Int) := by omega
  have hbz := bl_then hS.bl hb
  clear ho hs hc
  go_wp2_with fail
  go_ret
  exact ⟨rfl, hbz⟩
end
end Go.Proofs.YtgoegldffjfmdaaGreat
/- The order of routes, walked: slices.Compare, compareRoutes, l4Compare, CompareRoutes of both sides. Conditions: as each states. -/
namespace Go.Proofs.YtgoegldffjfmdaaGreat
open Go.RowKit
theorem Cls.onto {w w1 w2 : World} (h : Cls w w1) (k : Cls w1 w2) : Cls w w2 := bl_then h k
theorem sgn_cmp (x y : Int) : sgnI (x - y) = cmpB x y := by
  unfold sgnI cmpB
  split
  · rw [if_pos (by omega)]
  · split
    · rw [if_neg (by omega), if_pos (by omega)]
    · rw [if_neg (by omega), if_neg (by omega)]
/-- Two routes in their order. -/
def ordR (fs : List Fib) (s : Int) (a : List Int) (t : Int) (b : List Int) : Int := orI [cmpB (lenR fs a) (lenR fs b), cmpB (a.length : Int) (b.length : Int), cmpL a b, cmpB s t]
theorem ordR_len {fs : List Fib} {s t : Int} {a b : List Int} (h : lenR fs a ≠ lenR fs b) : ordR fs s a t b = sgnI (lenR fs a - lenR fs b) := by
  unfold ordR orI; rw [sgn_cmp, if_neg (by rw [cmpB_zero]; exact h)]
theorem ordR_num {fs : List Fib} {s t : Int} {a b : List Int} (h : lenR fs a = lenR fs b) (h2 : (a.length : Int) ≠ b.length) : ordR fs s a t b = sgnI ((a.length : Int) - b.length) := by
  unfold ordR orI orI; rw [sgn_cmp, if_pos (by rw [cmpB_zero]; exact h), if_neg (by rw [cmpB_zero]; exact h2)]
theorem ordR_list {fs : List Fib} {s t : Int} {a b : List Int} (h : lenR fs a = lenR fs b) (h2 : a.length = b.length) (h3 : cmpL a b ≠ 0) : ordR fs s a t b = cmpL a b := by
  unfold ordR orI orI orI; rw [if_pos (by rw [cmpB_zero]; exact h), if_pos (by rw [cmpB_zero]; omega), if_neg h3]
theorem ordR_start {fs : List Fib} {s t : Int} {a : List Int} : ordR fs s a t a = sgnI (s - t) := by
  unfold ordR orI orI orI orI orI; rw [if_pos (by rw [cmpB_zero]), if_pos (by rw [cmpB_zero]), if_pos (cmpL_same a), sgn_cmp]
  split
  · rename_i h; exact h.symm
  · rfl
set_option maxRecDepth 100000 in
theorem sign_any (x : Int) (w : World) : Calls Tryz.prog 129 #[.int .i64 x] w fun e w' => e = .returned (.int .i64 (sgnI x)) ∧ w = w' := by
  by_cases h1 : x < 0
  · have H : Hid (sgnI x = -1) := by unfold Hid sgnI; rw [if_pos h1]
    go_enter Tryz.func129, Tryz.ntmps129
    go_wp2
    go_ret
    exact ⟨by rw [H.out]; rfl, rfl⟩
  · by_cases h2 : x > 0
    · have H : Hid (sgnI x = 1) := by unfold Hid sgnI; rw [if_neg h1, if_pos h2]
      go_enter Tryz.func129, Tryz.ntmps129
      go_wp2
      go_ret
      exact ⟨by rw [H.out]; rfl, rfl⟩
    · have H : Hid (sgnI x = 0) := by unfold Hid sgnI; rw [if_neg h1, if_neg h2]
      go_enter Tryz.func129, Tryz.ntmps129
      go_wp2
      go_ret
      exact ⟨by rw [H.out]; rfl, rfl⟩
set_option maxHeartbeats 1000000 in
set_option maxRecDepth 100000 in
theorem compareL_any {B B' c c' : Nat} {A A' : Option Addr} {xs ys : List Int} (w : World) (hA : Sees elInt w B A xs.length xs) (hB : Sees elInt w B' A' ys.length ys) (hx : xs.length ≤ 1048576) :
    Calls Tryz.prog 104 #[.slice A xs.length c, .slice A' ys.length c'] w fun e w' => e = .returned (.int .i64 (cmpL xs ys)) ∧ w = w' := by
  go_enter Tryz.func104, Tryz.ntmps104
  go_wp2
  go_loop [11] (fun i => ∃ k : Nat, k ≤ xs.length ∧ k ≤ ys.length ∧ i = .int .i64 k ∧ Hid (xs.take k = ys.take k)) (fun i => xs.length - (intOf i).toNat)
  case atStart => exact ⟨0, Nat.zero_le _, Nat.zero_le _, rfl, rfl⟩
  case round =>
    obtain ⟨k, hk, hk2, rfl, hsame⟩ := hrel
    by_cases hlt : k < xs.length
    · obtain ⟨b, o, rfl, _, hc⟩ := hA.at_ hlt
      obtain ⟨x, hxk⟩ := get_of (k := k) rfl hlt
      have e0 := hc k x hxk 0 _ rfl
      simp only [elInt, Nat.mul_one, Nat.add_zero] at e0
      by_cases hlt2 : k < ys.length
      · obtain ⟨b2, o2, rfl, _, hd⟩ := hB.at_ hlt2
        obtain ⟨y, hyk⟩ := get_of (k := k) rfl hlt2
        have e1 := hd k y hyk 0 _ rfl
        simp only [elInt, Nat.mul_one, Nat.add_zero] at e1
        have HX := hid hxk
        have HY := hid hyk
        clear hc hd hxk hyk
        by_cases hxy : x = y
        · subst hxy
          have HN : Hid (xs.take (k + 1) = ys.take (k + 1)) := by unfold Hid; rw [List.take_add_one, List.take_add_one, HX.out, HY.out, hsame.out]
          have hz : cmpB x x = 0 := cmpB_zero.2 rfl
          clear hsame
          go_wp2_with fail
          refine (compare_any x x _).mono ?_
          rintro e w2 ⟨rfl, rfl⟩
          rw [hz]
          go_wp2_with fail
          go_round
          case rel => exact ⟨k + 1, by omega, by omega, by go_num, HN⟩
          case measure => simp [intOf]; omega
        · have HN : Hid (cmpL xs ys = cmpB x y) := by unfold Hid; rw [cmpL_at hsame.out HX.out HY.out hxy, sgn_cmp]
          obtain ⟨z, hz⟩ : ∃ z, z = cmpB x y := ⟨_, rfl⟩
          have hz0 : z ≠ 0 := by rw [hz]; intro h; exact hxy (cmpB_zero.1 h)
          have hz1 : (z == 0) = false := by simp [hz0]
          have hz2 : (z != 0) = true := by simp [hz0]
          have HZ := hid hz
          clear hsame hz
          go_wp2_with fail
          refine (compare_any x y _).mono ?_
          rintro e w2 ⟨rfl, rfl⟩
          rw [← HZ.out]
          go_wp2_with fail
          go_ret
          exact ⟨by rw [HN.out, ← HZ.out]; rfl, rfl⟩
      · have hky : k = ys.length := by omega
        have HN : Hid (cmpL xs ys = 1) := cmpL_long (by have := hsame.out; rw [hky] at this; simpa using this) (by omega)
        clear hc hsame hxk hky
        go_wp2
        go_ret
        exact ⟨by rw [HN.out]; rfl, rfl⟩
    · have hkx : k = xs.length := by omega
      by_cases hlt2 : xs.length < ys.length
      · have HN : Hid (cmpL xs ys = -1) := cmpL_short (by have := hsame.out; rw [hkx] at this; simpa using this) hlt2
        clear hsame
        go_wp2
        go_ret
        exact ⟨by rw [HN.out]; rfl, rfl⟩
      · have HN : Hid (cmpL xs ys = 0) := by
          have h1 := hsame.out
          rw [hkx] at h1
          have h2 : xs = ys := by
            rw [List.take_length] at h1
            rw [h1]
            exact List.take_of_length_le (by omega)
          rw [h2]; exact cmpL_same ys
        clear hsame
        go_wp2
        go_ret
        exact ⟨by rw [HN.out]; rfl, rfl⟩
section
variable {n c m d er eq : Nat} {A A' R Q : Option Addr} {xs : List ByteArray} {fs : List Fib} {s t : Int} {ids jds : List Int}
set_option maxHeartbeats 2000000 in
set_option maxRecDepth 100000 in
theorem compareRoutes_any (w : World) (h : NetIs w A n c A' m d xs fs) (hr : RtIs w R ids.length er ids) (hq : RtIs w Q jds.length eq jds) (hl : ∀ f ∈ fs, 0 ≤ f.len ∧ f.len ≤ 5000) (hi : ∀ x ∈ ids, 0 ≤ x ∧ x < fs.length) (hj : ∀ x ∈ jds, 0 ≤ x ∧ x < fs.length) :
    Calls Tryz.prog 80 #[.agg #[.slice A n c, .slice A' m d], .agg #[.int .i64 s, .slice R ids.length er], .agg #[.int .i64 t, .slice Q jds.length eq]] w fun e w' => e = .returned (.int .i64 (ordR fs s ids t jds)) ∧ Below w.heap.size w w' := by
  have hS := (((Led.nil w).blk_ w.heap.size rfl 34 #[.slice A n c, .slice A' m d]).blk_ (w.heap.size + 1) (by simp) 29 #[.int .i64 s, .slice R ids.length er]).blk_ (w.heap.size + 1 + 1) (by simp) 29 #[.int .i64 t, .slice Q jds.length eq]
  have hri := hr.le
  have hqi := hq.le
  have H : Hid (ordR fs s ids t jds = orI [cmpB (lenR fs ids) (lenR fs jds), cmpB (ids.length : Int) (jds.length : Int), cmpL ids jds, cmpB s t]) := rfl
  have HL : Hid (∀ w', Cls w w' → Calls Tryz.prog 45 #[.agg #[.slice A n c, .slice A' m d], .agg #[.int .i64 s, .slice R ids.length er]] w' fun e w2 => e = .returned (.int .i64 (lenR fs ids)) ∧ Below w'.heap.size w' w2) := fun w' hw => lengthOf_any w' (h.grow hw) (hr.grow hw) hi hl
  have HM : Hid (∀ w', Cls w w' → Calls Tryz.prog 45 #[.agg #[.slice A n c, .slice A' m d], .agg #[.int .i64 t, .slice Q jds.length eq]] w' fun e w2 => e = .returned (.int .i64 (lenR fs jds)) ∧ Below w'.heap.size w' w2) := fun w' hw => lengthOf_any w' (h.grow hw) (hq.grow hw) hj hl
  have HC : Hid (∀ w', Cls w w' → Calls Tryz.prog 104 #[.slice R ids.length er, .slice Q jds.length eq] w' fun e w2 => e = .returned (.int .i64 (cmpL ids jds)) ∧ w' = w2) := fun w' hw => compareL_any w' (hr.grow hw).2 (hq.grow hw).2 hri
  clear hi hj hl h hr hq
  go_enter Tryz.func80, Tryz.ntmps80
  go_wp2_with fail
  generalize (((w.alloc (.cells #[.slice A n c, .slice A' m d] 34)).alloc (.cells #[.int .i64 s, .slice R ids.length er] 29)).alloc (.cells #[.int .i64 t, .slice Q jds.length eq] 29)) = W0 at *
  have C0 : ∀ w', Cls W0 w' → w'.cell? ⟨w.heap.size, 0, none⟩ = some (.slice A n c) := fun _ h => h.cell (hS.cell 2 0 rfl rfl)
  have C1 : ∀ w', Cls W0 w' → w'.cell? ⟨w.heap.size, 1, none⟩ = some (.slice A' m d) := fun _ h => h.cell (hS.cell 2 1 rfl rfl)
  have C2 : ∀ w', Cls W0 w' → w'.cell? ⟨w.heap.size + 1, 0, none⟩ = some (.int .i64 s) := fun _ h => h.cell (hS.cell 1 0 rfl rfl)
  have C3 : ∀ w', Cls W0 w' → w'.cell? ⟨w.heap.size + 1, 1, none⟩ = some (.slice R ids.length er) := fun _ h => h.cell (hS.cell 1 1 rfl rfl)
  have C4 : ∀ w', Cls W0 w' → w'.cell? ⟨w.heap.size + 1 + 1, 0, none⟩ = some (.int .i64 t) := fun _ h => h.cell (hS.cell 0 0 rfl rfl)
  have C5 : ∀ w', Cls W0 w' → w'.cell? ⟨w.heap.size + 1 + 1, 1, none⟩ = some (.slice Q jds.length eq) := fun _ h => h.cell (hS.cell 0 1 rfl rfl)
  have HB : Hid (Cls w W0) := hS.bl
  clear hS
  go_region_held3 (fun w' => Cls W0 w') (first | assumption | exact Cls.drew _ | exact Cls.next (by assumption) (by assumption) | exact bl_alloc (by assumption) _)
    (first
      | (go_at_call 45; with_reducible refine (HL.out _ (HB.out.onto (by assumption))).mono ?_; rintro e w' ⟨rfl, hb1⟩)
      | (go_at_call 45; with_reducible refine (HM.out _ (HB.out.onto (by assumption))).mono ?_; rintro e w' ⟨rfl, hb2⟩)
      | (go_at_call 104; refine (HC.out _ (HB.out.onto (by assumption))).mono ?_; rintro e w' ⟨rfl, rfl⟩)
      | (go_at_call 51; refine (compare_any _ _ _).mono ?_; rintro e w' ⟨rfl, rfl⟩)
      | (go_at_call 103; refine (or_any (x0 := cmpB (lenR fs ids) (lenR fs jds)) (x1 := cmpB (ids.length : Int) (jds.length : Int)) (x2 := cmpL ids jds) (x3 := cmpB s t) _ (by go_simp) (by go_simp) (by go_simp) (by go_simp)).mono ?_; rintro e w' ⟨rfl, rfl⟩))
  have hz := HB.out.onto (by assumption)
  go_wp2
  go_ret
  exact ⟨by rw [H.out]; rfl, hz⟩
set_option maxHeartbeats 2000000 in
set_option maxRecDepth 100000 in
theorem l4Compare_any (w : World) (h : NetIs w A n c A' m d xs fs) (hr : RtIs w R ids.length er ids) (hq : RtIs w Q jds.length eq jds) (hl : ∀ f ∈ fs, 0 ≤ f.len ∧ f.len ≤ 5000) (hi : ∀ x ∈ ids, 0 ≤ x ∧ x < fs.length) (hj : ∀ x ∈ jds, 0 ≤ x ∧ x < fs.length) (hs : 0 ≤ s ∧ s ≤ 1048576) (ht : 0 ≤ t ∧ t ≤ 1048576) :
    Calls Tryz.prog 106 #[.agg #[.slice A n c, .slice A' m d], .agg #[.int .i64 s, .slice R ids.length er], .agg #[.int .i64 t, .slice Q jds.length eq]] w fun e w' => e = .returned (.int .i64 (ordR fs s ids t jds)) ∧ Below w.heap.size w w' := by
  have hS := (((Led.nil w).blk_ w.heap.size rfl 34 #[.slice A n c, .slice A' m d]).blk_ (w.heap.size + 1) (by simp) 29 #[.int .i64 s, .slice R ids.length er]).blk_ (w.heap.size + 1 + 1) (by simp) 29 #[.int .i64 t, .slice Q jds.length eq]
  have hri := hr.le
  have hqi := hq.le
  have hm := h.mle
  have hlf := hid h.flen
  have hbi := rlTo_bd hl hi ids.length (Nat.le_refl _)
  have hbj := rlTo_bd hl hj jds.length (Nat.le_refl _)
  change 0 ≤ lenR fs ids ∧ lenR fs ids ≤ _ at hbi
  change 0 ≤ lenR fs jds ∧ lenR fs jds ≤ _ at hbj
  have HL : Hid (∀ w', Cls w w' → Calls Tryz.prog 88 #[.agg #[.slice A n c, .slice A' m d], .agg #[.int .i64 s, .slice R ids.length er]] w' fun e w2 => e = .returned (.int .i64 (lenR fs ids)) ∧ Below w'.heap.size w' w2) := fun w' hw => l4Length_any w' (h.grow hw) (hr.grow hw) hi hl
  have HM : Hid (∀ w', Cls w w' → Calls Tryz.prog 88 #[.agg #[.slice A n c, .slice A' m d], .agg #[.int .i64 t, .slice Q jds.length eq]] w' fun e w2 => e = .returned (.int .i64 (lenR fs jds)) ∧ Below w'.heap.size w' w2) := fun w' hw => l4Length_any w' (h.grow hw) (hq.grow hw) hj hl
  have HI := hid hi
  have HJ := hid hj
  have HR := hid hr
  have HQ := hid hq
  have HZ := hid (show lenR fs ids - lenR fs jds = lenR fs ids - lenR fs jds from rfl)
  obtain ⟨z, hz⟩ : ∃ z, z = lenR fs ids - lenR fs jds := ⟨_, rfl⟩
  have iw : IntKind.i64.wrap (lenR fs ids - lenR fs jds) = z := by rw [hz]; exact IntWalk.i64_in _ (by omega)
  have HZ := hid hz
  clear hi hj hl h hr hq hbi hbj hz
  by_cases hz0 : z = 0
  case neg =>
    have H : Hid (ordR fs s ids t jds = sgnI z) := by unfold Hid; rw [ordR_len (by have := HZ.out; omega), ← HZ.out]
    have hz1 : (z == 0) = false := by simp [hz0]
    have hz2 : (z != 0) = true := by simp [hz0]
    go_enter Tryz.func106, Tryz.ntmps106
    go_wp2_with fail
    generalize (((w.alloc (.cells #[.slice A n c, .slice A' m d] 34)).alloc (.cells #[.int .i64 s, .slice R ids.length er] 29)).alloc (.cells #[.int .i64 t, .slice Q jds.length eq] 29)) = W0 at *
    have C0 : ∀ w', Cls W0 w' → w'.cell? ⟨w.heap.size, 0, none⟩ = some (.slice A n c) := fun _ h => h.cell (hS.cell 2 0 rfl rfl)
    have C1 : ∀ w', Cls W0 w' → w'.cell? ⟨w.heap.size, 1, none⟩ = some (.slice A' m d) := fun _ h => h.cell (hS.cell 2 1 rfl rfl)
    have C2 : ∀ w', Cls W0 w' → w'.cell? ⟨w.heap.size + 1, 0, none⟩ = some (.int .i64 s) := fun _ h => h.cell (hS.cell 1 0 rfl rfl)
    have C3 : ∀ w', Cls W0 w' → w'.cell? ⟨w.heap.size + 1, 1, none⟩ = some (.slice R ids.length er) := fun _ h => h.cell (hS.cell 1 1 rfl rfl)
    have C4 : ∀ w', Cls W0 w' → w'.cell? ⟨w.heap.size + 1 + 1, 0, none⟩ = some (.int .i64 t) := fun _ h => h.cell (hS.cell 0 0 rfl rfl)
    have C5 : ∀ w', Cls W0 w' → w'.cell? ⟨w.heap.size + 1 + 1, 1, none⟩ = some (.slice Q jds.length eq) := fun _ h => h.cell (hS.cell 0 1 rfl rfl)
    have HB : Hid (Cls w W0) := hS.bl
    refine region_cls (by kernel_rfl) (by kernel_rfl) ?_
    repeat (first
      | ((with_reducible refine quiet_pos ?_ (fun K hK => ?_))
         · rfl
         apply Exists.intro
         refine ⟨fun w' hw' => ?_, ?_⟩
         · go_simp
           first
             | with_reducible rfl
             | (go_at_call 88; with_reducible exact hw'.call (HL.out _ (HB.out.onto hw')))
             | (go_at_call 88; with_reducible exact hw'.call (HM.out _ (HB.out.onto hw')))
         simp only [Act.put, List.setIfInBounds_toArray, List.set_cons_zero, List.set_cons_succ]
         refine hK _ ?_; clear hK K)
      | ((with_reducible refine quiet_neg ?_ (fun K hK => ?_))
         · rfl
         simp only [Act.put, List.setIfInBounds_toArray, List.set_cons_zero, List.set_cons_succ]
         refine hK _ ?_; clear hK K))
    with_reducible refine wpQuiet_nil ?_
    intro wz hwz'
    replace hS := hS.step hwz'
    clear C0 C1 C2 C3 C4 C5 hwz' HB HL HM
    go_wp2_with fail
    refine (sign_any z _).mono ?_
    rintro e w2 ⟨rfl, rfl⟩
    go_wp2_with fail
    go_ret
    exact ⟨by rw [H.out]; rfl, hS.bl⟩
  case pos =>
    subst hz0
    have HLN : Hid (lenR fs ids = lenR fs jds) := by have := HZ.out; unfold Hid; omega
    obtain ⟨y, hy⟩ : ∃ y, y = (ids.length : Int) - (jds.length : Int) := ⟨_, rfl⟩
    have iy : IntKind.i64.wrap ((ids.length : Int) - (jds.length : Int)) = y := by rw [hy]; exact IntWalk.i64_in _ (by omega)
    have HY := hid hy
    clear hy
    go_enter Tryz.func106, Tryz.ntmps106
    go_wp2_with fail
    generalize (((w.alloc (.cells #[.slice A n c, .slice A' m d] 34)).alloc (.cells #[.int .i64 s, .slice R ids.length er] 29)).alloc (.cells #[.int .i64 t, .slice Q jds.length eq] 29)) = W0 at *
    have C0 : ∀ w', Cls W0 w' → w'.cell? ⟨w.heap.size, 0, none⟩ = some (.slice A n c) := fun _ h => h.cell (hS.cell 2 0 rfl rfl)
    have C1 : ∀ w', Cls W0 w' → w'.cell? ⟨w.heap.size, 1, none⟩ = some (.slice A' m d) := fun _ h => h.cell (hS.cell 2 1 rfl rfl)
    have C2 : ∀ w', Cls W0 w' → w'.cell? ⟨w.heap.size + 1, 0, none⟩ = some (.int .i64 s) := fun _ h => h.cell (hS.cell 1 0 rfl rfl)
    have C3 : ∀ w', Cls W0 w' → w'.cell? ⟨w.heap.size + 1, 1, none⟩ = some (.slice R ids.length er) := fun _ h => h.cell (hS.cell 1 1 rfl rfl)
    have C4 : ∀ w', Cls W0 w' → w'.cell? ⟨w.heap.size + 1 + 1, 0, none⟩ = some (.int .i64 t) := fun _ h => h.cell (hS.cell 0 0 rfl rfl)
    have C5 : ∀ w', Cls W0 w' → w'.cell? ⟨w.heap.size + 1 + 1, 1, none⟩ = some (.slice Q jds.length eq) := fun _ h => h.cell (hS.cell 0 1 rfl rfl)
    have HB : Hid (Cls w W0) := hS.bl
    refine region_cls (by kernel_rfl) (by kernel_rfl) ?_
    repeat (first
      | ((with_reducible refine quiet_pos ?_ (fun K hK => ?_))
         · rfl
         apply Exists.intro
         refine ⟨fun w' hw' => ?_, ?_⟩
         · go_simp
           first
             | with_reducible rfl
             | (go_at_call 88; with_reducible exact hw'.call (HL.out _ (HB.out.onto hw')))
             | (go_at_call 88; with_reducible exact hw'.call (HM.out _ (HB.out.onto hw')))
         simp only [Act.put, List.setIfInBounds_toArray, List.set_cons_zero, List.set_cons_succ]
         refine hK _ ?_; clear hK K)
      | ((with_reducible refine quiet_neg ?_ (fun K hK => ?_))
         · rfl
         simp only [Act.put, List.setIfInBounds_toArray, List.set_cons_zero, List.set_cons_succ]
         refine hK _ ?_; clear hK K))
    with_reducible refine wpQuiet_nil ?_
    intro wz hwz'
    replace hS := hS.step hwz'
    clear C0 C1 C2 C3 C4 C5 hwz' HB HL HM
    have q0 := hS.cell 2 0 rfl rfl
    have q1 := hS.cell 2 1 rfl rfl
    have q2 := hS.cell 1 0 rfl rfl
    have q3 := hS.cell 1 1 rfl rfl
    have q4 := hS.cell 0 0 rfl rfl
    have q5 := hS.cell 0 1 rfl rfl
    by_cases hy0 : y = 0
    case neg =>
      have H : Hid (ordR fs s ids t jds = sgnI y) := by unfold Hid; rw [ordR_num HLN.out (by have := HY.out; omega), ← HY.out]
      have hy1 : (y == 0) = false := by simp [hy0]
      have hy2 : (y != 0) = true := by simp [hy0]
      go_wp2_with fail
      refine (sign_any y _).mono ?_
      rintro e w2 ⟨rfl, rfl⟩
      go_wp2_with fail
      go_ret
      exact ⟨by rw [H.out]; rfl, hS.bl⟩
    case pos =>
      subst hy0
      have HN : Hid (ids.length = jds.length) := by have := HY.out; unfold Hid; omega
      have HS : Hid (Led w _ [tBlk (w.heap.size + 1 + 1) 29 #[.int .i64 t, .slice Q jds.length eq], tBlk (w.heap.size + 1) 29 #[.int .i64 s, .slice R ids.length er], tBlk w.heap.size 34 #[.slice A n c, .slice A' m d]]) := hS
      clear hS
      go_wp2_with fail
      clear q0 q1 q2 q3 q4 q5
      go_loopw [9] (fun i wr => ∃ k : Nat, k ≤ ids.length ∧ i = .int .i64 k ∧ Hid (ids.take k = jds.take k) ∧ Hid (Led w wr [tBlk (w.heap.size + 1 + 1) 29 #[.int .i64 t, .slice Q jds.length eq], tBlk (w.heap.size + 1) 29 #[.int .i64 s, .slice R ids.length er], tBlk w.heap.size 34 #[.slice A n c, .slice A' m d]])) (fun i _ => ids.length - (intOf i).toNat)
      case atStart => exact ⟨0, Nat.zero_le _, rfl, rfl, HS⟩
      case round =>
        clear HS
        obtain ⟨k, hk, rfl, hsame, HS⟩ := hrel
        have p1 := HS.out.cell 1 1 rfl rfl
        have p3 := HS.out.cell 0 1 rfl rfl
        by_cases hlt : k < ids.length
        · have hlt2 : k < jds.length := by have := HN.out; omega
          obtain ⟨b, o, rfl, _, hc⟩ := HR.out.2.at_ hlt
          obtain ⟨b2, o2, rfl, _, hd⟩ := HQ.out.2.at_ hlt2
          obtain ⟨x, hxk⟩ := get_of (k := k) rfl hlt
          obtain ⟨y, hyk⟩ := get_of (k := k) rfl hlt2
          have e0 := bl_cell HS.out.bl (hc k x hxk 0 _ rfl)
          have e1 := bl_cell HS.out.bl (hd k y hyk 0 _ rfl)
          simp only [elInt, Nat.mul_one, Nat.add_zero] at e0 e1
          have hx := HI.out x (List.mem_of_getElem? hxk)
          have hy := HJ.out y (List.mem_of_getElem? hyk)
          rw [hlf.out] at hx hy
          have HX := hid hxk
          have HY := hid hyk
          have P1 : ∀ w', Cls wr w' → w'.cell? ⟨w.heap.size + 1, 1, none⟩ = some (.slice (some ⟨b, o, none⟩) ids.length er) := fun _ h => h.cell p1
          have P3 : ∀ w', Cls wr w' → w'.cell? ⟨w.heap.size + 1 + 1, 1, none⟩ = some (.slice (some ⟨b2, o2, none⟩) jds.length eq) := fun _ h => h.cell p3
          have E0 : ∀ w', Cls wr w' → w'.cell? ⟨b, o + k, none⟩ = some (.int .i64 x) := fun _ h => h.cell e0
          have E1 : ∀ w', Cls wr w' → w'.cell? ⟨b2, o2 + k, none⟩ = some (.int .i64 y) := fun _ h => h.cell e1
          have ik : (k : Int) < (ids.length : Int) := by omega
          have ik2 : (k : Int) < (jds.length : Int) := by omega
          clear hc hd hxk hyk e0 e1 p3
          cases gxy : (x == y)
          · have hne : x ≠ y := by simpa using gxy
            have H : Hid (ordR fs s ids t jds = sgnI (x - y)) := by
              have e := cmpL_at hsame.out HX.out HY.out hne
              have hs1 : sgnI (x - y) ≠ 0 := by rw [sgn_cmp]; intro h; exact hne (cmpB_zero.1 h)
              unfold Hid
              rw [ordR_list HLN.out HN.out (by rw [e]; exact hs1), e]
            have iz : IntKind.i64.wrap (x - y) = x - y := IntWalk.i64_in _ (by omega)
            go_wp2
            refine region_cls (by kernel_rfl) (by kernel_rfl) ?_
            repeat (first
              | ((with_reducible refine quiet_pos ?_ (fun K hK => ?_))
                 · rfl
                 apply Exists.intro
                 refine ⟨fun w' hw' => ?_, ?_⟩
                 · go_simp
                   with_reducible rfl
                 simp only [Act.put, List.setIfInBounds_toArray, List.set_cons_zero, List.set_cons_succ]
                 refine hK _ ?_; clear hK K)
              | ((with_reducible refine quiet_neg ?_ (fun K hK => ?_))
                 · rfl
                 simp only [Act.put, List.setIfInBounds_toArray, List.set_cons_zero, List.set_cons_succ]
                 refine hK _ ?_; clear hK K))
            with_reducible refine wpQuiet_nil ?_
            intro wz hwz'
            have P1' : ∀ w', Cls wz w' → w'.cell? ⟨w.heap.size + 1, 1, none⟩ = some (.slice (some ⟨b, o, none⟩) ids.length er) := fun _ h => P1 _ (hwz'.onto h)
            have P3' : ∀ w', Cls wz w' → w'.cell? ⟨w.heap.size + 1 + 1, 1, none⟩ = some (.slice (some ⟨b2, o2, none⟩) jds.length eq) := fun _ h => P3 _ (hwz'.onto h)
            have E0' : ∀ w', Cls wz w' → w'.cell? ⟨b, o + k, none⟩ = some (.int .i64 x) := fun _ h => E0 _ (hwz'.onto h)
            have E1' : ∀ w', Cls wz w' → w'.cell? ⟨b2, o2 + k, none⟩ = some (.int .i64 y) := fun _ h => E1 _ (hwz'.onto h)
            have hbz := hid (HS.out.step hwz').bl
            clear P1 P3 E0 E1 hwz' p1 HS
            go_wp2
            refine region_cls (by kernel_rfl) (by kernel_rfl) ?_
            repeat (first
              | ((with_reducible refine quiet_pos ?_ (fun K hK => ?_))
                 · rfl
                 apply Exists.intro
                 refine ⟨fun w' hw' => ?_, ?_⟩
                 · go_simp
                   first
                     | with_reducible rfl
                     | (go_at_call 129; with_reducible exact hw'.same (sign_any _ _))
                 simp only [Act.put, List.setIfInBounds_toArray, List.set_cons_zero, List.set_cons_succ]
                 refine hK _ ?_; clear hK K)
              | ((with_reducible refine quiet_neg ?_ (fun K hK => ?_))
                 · rfl
                 simp only [Act.put, List.setIfInBounds_toArray, List.set_cons_zero, List.set_cons_succ]
                 refine hK _ ?_; clear hK K))
            with_reducible refine wpQuiet_nil ?_
            intro wz hwz'
            have hbz2 := bl_then hbz.out hwz'
            go_wp2
            go_ret
            exact ⟨by rw [H.out]; rfl, hbz2⟩
          · have hxy : x = y := by simpa using gxy
            have HN2 : Hid (ids.take (k + 1) = jds.take (k + 1)) := by unfold Hid; rw [List.take_add_one, List.take_add_one, HX.out, HY.out, hsame.out, hxy]
            clear hxy
            go_wp2
            refine region_cls (by kernel_rfl) (by kernel_rfl) ?_
            repeat (first
              | ((with_reducible refine quiet_pos ?_ (fun K hK => ?_))
                 · rfl
                 apply Exists.intro
                 refine ⟨fun w' hw' => ?_, ?_⟩
                 · go_simp
                   with_reducible rfl
                 simp only [Act.put, List.setIfInBounds_toArray, List.set_cons_zero, List.set_cons_succ]
                 refine hK _ ?_; clear hK K)
              | ((with_reducible refine quiet_neg ?_ (fun K hK => ?_))
                 · rfl
                 simp only [Act.put, List.setIfInBounds_toArray, List.set_cons_zero, List.set_cons_succ]
                 refine hK _ ?_; clear hK K))
            with_reducible refine wpQuiet_nil ?_
            intro wz hwz'
            have HS2 := hid (HS.out.step hwz')
            clear P1 P3 E0 E1 hwz' p1 HS
            go_wp2
            exact ⟨⟨k + 1, by omega, by go_num, HN2, HS2⟩, by simp [intOf]; omega⟩
        · have hkx : k = ids.length := by omega
          have HE : Hid (ids = jds) := by
            have h1 := hsame.out
            rw [hkx, List.take_length] at h1
            unfold Hid
            rw [h1]
            exact List.take_of_length_le (by have := HN.out; omega)
          have H : Hid (ordR fs s ids t jds = sgnI (s - t)) := by unfold Hid; rw [← HE.out]; exact ordR_start
          have p0 := HS.out.cell 1 0 rfl rfl
          have p2 := HS.out.cell 0 0 rfl rfl
          have iz : IntKind.i64.wrap (s - t) = s - t := IntWalk.i64_in _ (by omega)
          clear hkx hsame
          go_wp2_with fail
          refine (sign_any _ _).mono ?_
          rintro e w2 ⟨rfl, rfl⟩
          go_wp2_with fail
          go_ret
          exact ⟨by rw [H.out]; rfl, HS.out.bl⟩
/-- CompareRoutes. -/
def crB (xs : List ByteArray) (fs : List Fib) (s : Int) (a : List Int) (t : Int) (b : List Int) : Bool := routeB xs fs s a && routeB xs fs t b
def crI (xs : List ByteArray) (fs : List Fib) (s : Int) (a : List Int) (t : Int) (b : List Int) : Int := if crB xs fs s a t b then ordR fs s a t b else 0
theorem routeB_start {xs : List ByteArray} {fs : List Fib} {s : Int} {a : List Int} (h : routeB xs fs s a = true) : 0 ≤ s ∧ s ≤ 1048576 := by
  obtain ⟨hg, hr⟩ := routeB_good h
  have h1 := inB_idx (rtB_parts hr).1
  have := (goodB_bd hg).2.1
  omega
end
end Go.Proofs.YtgoegldffjfmdaaGreat
/- The order of routes in plain Lean: it is an order. Conditions: one start. -/
namespace Go.Proofs.YtgoegldffjfmdaaGreat
theorem cmpL_le_trans : ∀ {a b c : List Int}, cmpL a b ≤ 0 → cmpL b c ≤ 0 → cmpL a c ≤ 0 ∧ (cmpL a c = 0 → cmpL a b = 0 ∧ cmpL b c = 0) := by
  intro a
  induction a with
  | nil =>
    intro b c h1 h2
    cases b with
    | nil => exact ⟨h2, fun h => ⟨rfl, h⟩⟩
    | cons y b =>
      cases c with
      | nil => exact absurd h2 (by unfold cmpL; decide)
      | cons z c => exact ⟨by unfold cmpL; decide, fun h => absurd h (by unfold cmpL; decide)⟩
  | cons x a ih =>
    intro b c h1 h2
    cases b with
    | nil => exact absurd h1 (by unfold cmpL; decide)
    | cons y b =>
      cases c with
      | nil => exact absurd h2 (by unfold cmpL; decide)
      | cons z c =>
        have e1 : cmpL (x :: a) (y :: b) = if x < y then -1 else if y < x then 1 else cmpL a b := rfl
        have e2 : cmpL (y :: b) (z :: c) = if y < z then -1 else if z < y then 1 else cmpL b c := rfl
        have e3 : cmpL (x :: a) (z :: c) = if x < z then -1 else if z < x then 1 else cmpL a c := rfl
        rw [e1] at h1
        rw [e2] at h2
        rw [e1, e2, e3]
        by_cases hxy : x < y
        · by_cases hyz : y < z
          · rw [if_pos (by omega : x < z)]; exact ⟨by omega, fun h => by omega⟩
          · rw [if_neg hyz] at h2
            by_cases hzy : z < y
            · rw [if_pos hzy] at h2; omega
            · rw [if_pos (by omega : x < z)]; exact ⟨by omega, fun h => by omega⟩
        · rw [if_neg hxy] at h1 ⊢
          by_cases hyx : y < x
          · rw [if_pos hyx] at h1; omega
          · rw [if_neg hyx] at h1 ⊢
            have hxe : x = y := by omega
            subst hxe
            by_cases hyz : x < z
            · rw [if_pos hyz, if_pos hyz]; exact ⟨by omega, fun h => by omega⟩
            · rw [if_neg hyz] at h2 ⊢
              rw [if_neg hyz]
              by_cases hzy : z < x
              · rw [if_pos hzy] at h2; omega
              · rw [if_neg hzy] at h2 ⊢
                rw [if_neg hzy]
                exact ih h1 h2
theorem cmpL_anti : ∀ {a b : List Int}, cmpL a b = 0 → a = b := by
  intro a
  induction a with
  | nil => intro b h; cases b with
    | nil => rfl
    | cons y b => exact absurd h (by unfold cmpL; decide)
  | cons x a ih =>
    intro b h
    cases b with
    | nil => exact absurd h (by unfold cmpL; decide)
    | cons y b =>
      have e1 : cmpL (x :: a) (y :: b) = if x < y then -1 else if y < x then 1 else cmpL a b := rfl
      rw [e1] at h
      split at h
      · omega
      · split at h
        · omega
        · rw [ih h, show x = y by omega]
theorem cmpL_flip : ∀ (a b : List Int), cmpL a b = -cmpL b a := by
  intro a
  induction a with
  | nil => intro b; cases b <;> rfl
  | cons x a ih =>
    intro b
    cases b with
    | nil => rfl
    | cons y b =>
      show (if x < y then -1 else if y < x then 1 else cmpL a b) = -(if y < x then -1 else if x < y then 1 else cmpL b a)
      rw [ih b]
      split <;> split <;> omega
/-- a is not behind b (one start). -/
def leR (fs : List Fib) (s : Int) (a b : List Int) : Prop := ordR fs s a s b ≤ 0
theorem ordR_eq (fs : List Fib) (s : Int) (a b : List Int) : ordR fs s a s b = if lenR fs a < lenR fs b then -1 else if lenR fs b < lenR fs a then 1 else if (a.length : Int) < b.length then -1 else if (b.length : Int) < a.length then 1 else cmpL a b := by
  by_cases h1 : lenR fs a < lenR fs b
  · simp [ordR, orI, cmpB, h1]
  · by_cases h2 : lenR fs b < lenR fs a
    · simp [ordR, orI, cmpB, h1, h2]
    · by_cases h3 : (a.length : Int) < b.length
      · have h3' : a.length < b.length := by omega
        simp [ordR, orI, cmpB, h1, h2, h3']
      · by_cases h4 : (b.length : Int) < a.length
        · have h4' : b.length < a.length := by omega
          have h3' : ¬ a.length < b.length := by omega
          simp [ordR, orI, cmpB, h1, h2, h3', h4']
        · simp only [ordR, orI, cmpB, if_neg h1, if_neg h2, if_neg h3, if_neg h4]
          by_cases h5 : cmpL a b = 0
          · simp [h5]
          · simp [h5]
theorem leR_trans {fs : List Fib} {s : Int} {a b c : List Int} (h1 : leR fs s a b) (h2 : leR fs s b c) : leR fs s a c := by
  unfold leR at *
  rw [ordR_eq] at *
  have h3 : cmpL a b ≤ 0 → cmpL b c ≤ 0 → cmpL a c ≤ 0 := fun x y => (cmpL_le_trans x y).1
  repeat' split at h1
  all_goals repeat' split at h2
  all_goals repeat' split
  all_goals first | omega | exact h3 h1 h2
theorem leR_anti {fs : List Fib} {s : Int} {a b : List Int} (h1 : leR fs s a b) (h2 : leR fs s b a) : a = b := by
  unfold leR at *
  rw [ordR_eq] at *
  have hf := cmpL_flip a b
  apply cmpL_anti
  repeat' split at h1
  all_goals repeat' split at h2
  all_goals omega
theorem leR_total {fs : List Fib} {s : Int} {a b : List Int} (h : ¬ leR fs s a b) : leR fs s b a := by
  unfold leR at *
  rw [ordR_eq] at *
  have hf := cmpL_flip a b
  repeat' split at h
  all_goals repeat' split
  all_goals omega
end Go.Proofs.YtgoegldffjfmdaaGreat
/- All simple routes in plain Lean: the search that stops when it has too many, against the whole search. Conditions: none. -/
namespace Go.Proofs.YtgoegldffjfmdaaGreat
section
variable {m to M : Nat} {nx : Nat → Nat → Option Nat} {ins : List (List Int) → List Int → List (List Int)}
/-- All routes that extend one, in the order of the search. -/
def dfsL (m to : Nat) (nx : Nat → Nat → Option Nat) : Nat → Nat → List Nat → List Int → List (List Int)
  | 0, _, _, _ => []
  | k + 1, v, seen, ids => if v = to then [ids] else (List.range m).flatMap fun i => match nx i v with
    | some u => if u ∈ seen then [] else dfsL m to nx k u (u :: seen) (ids ++ [(i : Int)])
    | none => []
/-- The search that puts each route at its place and stops when it has more than M. -/
def refL (m to M : Nat) (nx : Nat → Nat → Option Nat) (ins : List (List Int) → List Int → List (List Int)) : Nat → Nat → List Nat → List Int → List (List Int) → List (List Int)
  | 0, _, _, _, l => l
  | k + 1, v, seen, ids, l => if v = to then ins l ids else (List.range m).foldl (fun l i => if l.length ≤ M then (match nx i v with
    | some u => if u ∈ seen then l else refL m to M nx ins k u (u :: seen) (ids ++ [(i : Int)]) l
    | none => l) else l) l
theorem ins_foldl (hi : ∀ l r, (ins l r).length = l.length + 1) : ∀ (D l : List (List Int)), (D.foldl ins l).length = l.length + D.length := by
  intro D
  induction D with
  | nil => intro l; rfl
  | cons r D ih => intro l; rw [List.foldl_cons, ih, hi, List.length_cons]; omega
theorem refL_eq (hi : ∀ l r, (ins l r).length = l.length + 1) : ∀ (k v : Nat) (seen : List Nat) (ids : List Int) (l : List (List Int)), l.length ≤ M →
    refL m to M nx ins k v seen ids l = ((dfsL m to nx k v seen ids).take (M + 1 - l.length)).foldl ins l := by
  intro k
  induction k with
  | zero => intro v seen ids l _; unfold refL dfsL; rw [List.take_nil]; rfl
  | succ k ih =>
    intro v seen ids l hl
    unfold refL dfsL
    by_cases hv : v = to
    · rw [if_pos hv, if_pos hv, show M + 1 - l.length = (M - l.length) + 1 by omega, List.take_succ_cons, List.take_nil]
      rfl
    · rw [if_neg hv, if_neg hv]
      suffices hh : ∀ (is : List Nat) (l : List (List Int)), l.length ≤ M + 1 → is.foldl (fun l i => if l.length ≤ M then (match nx i v with
          | some u => if u ∈ seen then l else refL m to M nx ins k u (u :: seen) (ids ++ [(i : Int)]) l
          | none => l) else l) l = ((is.flatMap fun i => match nx i v with
          | some u => if u ∈ seen then [] else dfsL m to nx k u (u :: seen) (ids ++ [(i : Int)])
          | none => []).take (M + 1 - l.length)).foldl ins l from hh (List.range m) l (by omega)
      intro is
      induction is with
      | nil => intro l _; rw [List.flatMap_nil, List.take_nil]; rfl
      | cons i is ihs =>
        intro l hl1
        rw [List.foldl_cons, List.flatMap_cons]
        by_cases hM : l.length ≤ M
        · rw [if_pos hM]
          cases hn : nx i v with
          | none => simp only [List.nil_append]; exact ihs l hl1
          | some u =>
            simp only []
            by_cases hs : u ∈ seen
            · rw [if_pos hs, if_pos hs, List.nil_append]; exact ihs l hl1
            · rw [if_neg hs, if_neg hs, ih u (u :: seen) (ids ++ [(i : Int)]) l hM]
              generalize dfsL m to nx k u (u :: seen) (ids ++ [(i : Int)]) = D
              have hlen := ins_foldl hi (D.take (M + 1 - l.length)) l
              rw [List.length_take] at hlen
              rw [ihs _ (by rw [hlen]; omega), hlen, List.take_append, List.foldl_append]
              congr 2
              omega
        · rw [if_neg hM, ihs l hl1, show M + 1 - l.length = 0 by omega, List.take_zero, List.take_zero]
/-- The whole of it: either all routes, put in one after another, or too many. -/
theorem refL_all (hi : ∀ l r, (ins l r).length = l.length + 1) (k v : Nat) (seen : List Nat) (ids : List Int) :
    (refL m to M nx ins k v seen ids [] = (dfsL m to nx k v seen ids).foldl ins [] ∧ (dfsL m to nx k v seen ids).length ≤ M) ∨
    (M < (refL m to M nx ins k v seen ids []).length ∧ M < (dfsL m to nx k v seen ids).length) := by
  have h := refL_eq (m := m) (to := to) (M := M) (nx := nx) hi k v seen ids [] (Nat.zero_le _)
  rw [List.length_nil, Nat.sub_zero] at h
  by_cases hM : (dfsL m to nx k v seen ids).length ≤ M
  · exact .inl ⟨by rw [h, List.take_of_length_le (by omega)], hM⟩
  · refine .inr ⟨?_, by omega⟩
    rw [h, ins_foldl hi, List.length_take]
    simp; omega
end
end Go.Proofs.YtgoegldffjfmdaaGreat
/- Components by labels that are joined along fibers: as many rounds as there are nodes suffice. Plain Lean. Conditions: the fibers' ends are nodes. -/
namespace Go.Proofs.YtgoegldffjfmdaaGreat
def valL (L : List Int) (v : Nat) : Int := L.getD v 0
def fibD (fs : List Fib) (i : Nat) : Fib := fs.getD i ⟨0, 0, 0, 0⟩
/-- A fiber joins the labels of its ends. -/
def joinF (f : Fib) (L : List Int) : List Int := (L.set f.a.toNat (min (valL L f.a.toNat) (valL L f.b.toNat))).set f.b.toNat (min (valL L f.a.toNat) (valL L f.b.toNat))
/-- .. each of the first i fibers that is not gone. -/
def passTo (q : Nat → Bool) (fs : List Fib) (L : List Int) : Nat → List Int
  | 0 => L
  | i + 1 => if q i then passTo q fs L i else joinF (fibD fs i) (passTo q fs L i)
def passL (q : Nat → Bool) (fs : List Fib) (L : List Int) : List Int := passTo q fs L fs.length
/-- k rounds. -/
def rndL (q : Nat → Bool) (fs : List Fib) (n : Nat) : Nat → List Int
  | 0 => marks 0 n
  | k + 1 => passL q fs (rndL q fs n k)
/-- The labels: the smallest node of each component. -/
def compL (q : Nat → Bool) (fs : List Fib) (n : Nat) : List Int := rndL q fs n n
/-- The fibers' ends are nodes. -/
def endsB (n : Nat) (fs : List Fib) : Prop := ∀ i, i < fs.length → 0 ≤ (fibD fs i).a ∧ (fibD fs i).a < (fibD fs i).b ∧ (fibD fs i).b < n
theorem valL_set {L : List Int} {a v : Nat} {x : Int} (ha : a < L.length) : valL (L.set a x) v = if v = a then x else valL L v := by
  unfold valL
  by_cases h : v = a
  · subst h; rw [if_pos rfl]; simp [ha]
  · rw [if_neg h]; simp [show ¬ a = v from fun e => h e.symm]
theorem valL_get {L : List Int} {v : Nat} (h : v < L.length) : L[v]? = some (valL L v) := by unfold valL; simp [h]
theorem passTo_succ (q : Nat → Bool) (fs : List Fib) (L : List Int) (i : Nat) : passTo q fs L (i + 1) = if q i then passTo q fs L i else joinF (fibD fs i) (passTo q fs L i) := rfl
theorem passTo_no {q : Nat → Bool} {fs : List Fib} {L : List Int} {i : Nat} (h : q i = false) : passTo q fs L (i + 1) = joinF (fibD fs i) (passTo q fs L i) := by rw [passTo_succ, h]; rfl
theorem rndL_succ (q : Nat → Bool) (fs : List Fib) (n k : Nat) : rndL q fs n (k + 1) = passL q fs (rndL q fs n k) := rfl
theorem joinF_len (f : Fib) (L : List Int) : (joinF f L).length = L.length := by simp [joinF]
theorem joinF_val {f : Fib} {L : List Int} {n : Nat} (hL : L.length = n) (h0 : 0 ≤ f.a) (h1 : f.a < f.b) (h2 : f.b < n) (v : Nat) :
    valL (joinF f L) v = if v = f.a.toNat ∨ v = f.b.toNat then min (valL L f.a.toNat) (valL L f.b.toNat) else valL L v := by
  unfold joinF
  rw [valL_set (by simp; omega), valL_set (by omega)]
  by_cases e1 : v = f.b.toNat
  · rw [if_pos e1, if_pos (.inr e1)]
  · rw [if_neg e1]
    by_cases e2 : v = f.a.toNat
    · rw [if_pos e2, if_pos (.inl e2)]
    · rw [if_neg e2, if_neg (by rintro (h | h); exact e2 h; exact e1 h)]
theorem joinF_same {f : Fib} {L : List Int} {n : Nat} (hL : L.length = n) (h0 : 0 ≤ f.a) (h1 : f.a < f.b) (h2 : f.b < n) (he : valL L f.a.toNat = valL L f.b.toNat) : joinF f L = L := by
  unfold joinF
  rw [he, show min (valL L f.b.toNat) (valL L f.b.toNat) = valL L f.b.toNat by omega]
  have ha : L[f.a.toNat]? = some (valL L f.b.toNat) := by rw [← he]; exact valL_get (by omega)
  have hb : L[f.b.toNat]? = some (valL L f.b.toNat) := valL_get (by omega)
  have e1 : L.set f.a.toNat (valL L f.b.toNat) = L := by
    apply List.ext_getElem?
    intro i
    rw [List.getElem?_set]
    by_cases h : f.a.toNat = i
    · rw [if_pos h, if_pos (by omega), ← h, ha]
    · rw [if_neg h]
  rw [e1]
  apply List.ext_getElem?
  intro i
  rw [List.getElem?_set]
  by_cases h : f.b.toNat = i
  · rw [if_pos h, if_pos (by omega), ← h, hb]
  · rw [if_neg h]
section
variable {q : Nat → Bool} {fs : List Fib} {n : Nat}
theorem passTo_len (L : List Int) (i : Nat) : (passTo q fs L i).length = L.length := by
  induction i with
  | zero => rfl
  | succ i ih => rw [passTo_succ]; split; exact ih; rw [joinF_len]; exact ih
theorem rndL_len (k : Nat) : (rndL q fs n k).length = n := by
  induction k with
  | zero => exact marks_len 0 n
  | succ k ih => rw [rndL_succ]; unfold passL; rw [passTo_len]; exact ih
theorem compL_len : (compL q fs n).length = n := rndL_len n
theorem passTo_step {L : List Int} (hL : L.length = n) (he : endsB n fs) {i : Nat} (hi : i < fs.length) (v : Nat) : valL (passTo q fs L (i + 1)) v ≤ valL (passTo q fs L i) v := by
  rw [passTo_succ]
  split
  · exact Int.le_refl _
  · obtain ⟨h0, h1, h2⟩ := he i hi
    rw [joinF_val (n := n) (by rw [passTo_len, hL]) h0 h1 h2]
    split
    · rename_i h; rcases h with h | h <;> subst h <;> omega
    · exact Int.le_refl _
theorem passTo_mono {L : List Int} (hL : L.length = n) (he : endsB n fs) {i j : Nat} (hij : i ≤ j) (hj : j ≤ fs.length) (v : Nat) : valL (passTo q fs L j) v ≤ valL (passTo q fs L i) v := by
  induction j with
  | zero => rw [show i = 0 by omega]; exact Int.le_refl _
  | succ j ih =>
    rcases Nat.lt_or_ge i (j + 1) with h | h
    · exact Int.le_trans (passTo_step hL he (by omega) v) (ih (by omega) (by omega))
    · rw [show i = j + 1 by omega]; exact Int.le_refl _
theorem passL_le {L : List Int} (hL : L.length = n) (he : endsB n fs) (v : Nat) : valL (passL q fs L) v ≤ valL L v := passTo_mono hL he (Nat.zero_le _) (Nat.le_refl _) v
theorem passL_edge {L : List Int} (hL : L.length = n) (he : endsB n fs) {i : Nat} (hi : i < fs.length) (hq : q i = false) :
    valL (passL q fs L) (fibD fs i).a.toNat ≤ valL L (fibD fs i).b.toNat ∧ valL (passL q fs L) (fibD fs i).b.toNat ≤ valL L (fibD fs i).a.toNat := by
  obtain ⟨h0, h1, h2⟩ := he i hi
  have k1 := fun v => passTo_mono (q := q) hL he (show i + 1 ≤ fs.length from hi) (Nat.le_refl _) v
  have k2 := fun v => passTo_mono (q := q) hL he (Nat.zero_le i) (Nat.le_of_lt hi) v
  have e : ∀ v, valL (passTo q fs L (i + 1)) v = if v = (fibD fs i).a.toNat ∨ v = (fibD fs i).b.toNat then min (valL (passTo q fs L i) (fibD fs i).a.toNat) (valL (passTo q fs L i) (fibD fs i).b.toNat) else valL (passTo q fs L i) v := fun v => by
    rw [passTo_no hq]; exact joinF_val (n := n) (by rw [passTo_len, hL]) h0 h1 h2 v
  have ka := k1 (fibD fs i).a.toNat
  have kb := k1 (fibD fs i).b.toNat
  rw [e, if_pos (.inl rfl)] at ka
  rw [e, if_pos (.inr rfl)] at kb
  have la := k2 (fibD fs i).a.toNat
  have lb := k2 (fibD fs i).b.toNat
  unfold passL
  have e0 : passTo q fs L 0 = L := rfl
  rw [e0] at la lb
  omega
/-- No fiber leads out of the nodes whose label is c at most. -/
def shutL (q : Nat → Bool) (fs : List Fib) (L : List Int) (c : Int) : Prop := ∀ i, i < fs.length → q i = false → (valL L (fibD fs i).a.toNat ≤ c ↔ valL L (fibD fs i).b.toNat ≤ c)
theorem passL_shut {L : List Int} (hL : L.length = n) (he : endsB n fs) {c : Int} (hc : shutL q fs L c) (v : Nat) : valL (passL q fs L) v ≤ c ↔ valL L v ≤ c := by
  suffices h : ∀ i, i ≤ fs.length → ∀ v, (valL (passTo q fs L i) v ≤ c ↔ valL L v ≤ c) from h _ (Nat.le_refl _) v
  intro i
  induction i with
  | zero => intro _ v; exact Iff.rfl
  | succ i ih =>
    intro hi v
    have ih := ih (by omega)
    rw [passTo_succ]
    cases hq : q i
    · obtain ⟨h0, h1, h2⟩ := he i (by omega)
      have hs := hc i (by omega) hq
      simp only [Bool.false_eq_true, if_false]
      rw [joinF_val (n := n) (by rw [passTo_len, hL]) h0 h1 h2]
      have ia := ih (fibD fs i).a.toNat
      have ib := ih (fibD fs i).b.toNat
      split
      · rename_i h
        rcases h with h | h <;> subst h <;> omega
      · exact ih v
    · simp only [if_true]; exact ih v
/-- How many nodes have a label of c at most. -/
def cntL (n : Nat) (L : List Int) (c : Int) : Nat := (List.range n).countP fun v => decide (valL L v ≤ c)
theorem countP_lt {α : Type} {p r : α → Bool} : ∀ {l : List α}, (∀ x ∈ l, p x = true → r x = true) → (∃ x ∈ l, p x = false ∧ r x = true) → l.countP p < l.countP r := by
  intro l
  induction l with
  | nil => rintro _ ⟨x, hx, _⟩; cases hx
  | cons y l ih =>
    intro h1 h2
    have hle : l.countP p ≤ l.countP r := List.countP_mono_left (fun x hx h => h1 x (by simp [hx]) h)
    rw [List.countP_cons, List.countP_cons]
    obtain ⟨x, hx, hp, hr⟩ := h2
    rcases List.mem_cons.1 hx with rfl | hx
    · rw [hp, hr]; simp; omega
    · have := ih (fun z hz => h1 z (by simp [hz])) ⟨x, hx, hp, hr⟩
      have hy := h1 y (by simp)
      cases h3 : p y
      · simp; omega
      · rw [hy h3]; simp; omega
theorem shut_or (he : endsB n fs) (c : Int) (k : Nat) : shutL q fs (rndL q fs n k) c ∨ k + 1 ≤ cntL n (rndL q fs n k) c := by
  induction k with
  | zero =>
    by_cases h : 1 ≤ cntL n (rndL q fs n 0) c
    · exact .inr h
    · left
      have h0 : cntL n (rndL q fs n 0) c = 0 := by omega
      have hn : ∀ v, v < n → ¬ (valL (rndL q fs n 0) v ≤ c) := by
        intro v hv
        have := List.countP_eq_zero.1 h0 v (by simpa using hv)
        simpa using this
      intro i hi _
      obtain ⟨h0, h1, h2⟩ := he i hi
      exact ⟨fun h => absurd h (hn _ (by omega)), fun h => absurd h (hn _ (by omega))⟩
  | succ k ih =>
    have hL : (rndL q fs n k).length = n := rndL_len k
    rcases Classical.em (shutL q fs (rndL q fs n k) c) with hs | hs
    · left
      intro i hi hq
      show valL (passL q fs (rndL q fs n k)) _ ≤ c ↔ valL (passL q fs (rndL q fs n k)) _ ≤ c
      rw [passL_shut hL he hs, passL_shut hL he hs]
      exact hs i hi hq
    · right
      have hk : k + 1 ≤ cntL n (rndL q fs n k) c := by
        rcases ih with h | h
        · exact absurd h hs
        · exact h
      unfold shutL at hs
      have ⟨i, hi, hq, hne⟩ : ∃ i, i < fs.length ∧ q i = false ∧ ¬ (valL (rndL q fs n k) (fibD fs i).a.toNat ≤ c ↔ valL (rndL q fs n k) (fibD fs i).b.toNat ≤ c) := by
        apply Classical.byContradiction
        intro hno
        exact hs fun i hi hq => Classical.byContradiction fun h => hno ⟨i, hi, hq, h⟩
      obtain ⟨h0, h1, h2⟩ := he i hi
      obtain ⟨ea, eb⟩ := passL_edge (q := q) hL he hi hq
      have hlt : cntL n (rndL q fs n k) c < cntL n (rndL q fs n (k + 1)) c := by
        refine countP_lt (fun v _ hv => ?_) ?_
        · have := passL_le (q := q) hL he v
          simp only [decide_eq_true_eq] at hv ⊢
          exact Int.le_trans this hv
        · by_cases hA : valL (rndL q fs n k) (fibD fs i).a.toNat ≤ c
          · have hB : ¬ valL (rndL q fs n k) (fibD fs i).b.toNat ≤ c := fun h => hne ⟨fun _ => h, fun _ => hA⟩
            refine ⟨(fibD fs i).b.toNat, by simp; omega, by simpa using hB, ?_⟩
            simp only [decide_eq_true_eq]
            exact Int.le_trans eb hA
          · have hB : valL (rndL q fs n k) (fibD fs i).b.toNat ≤ c := by
              apply Classical.byContradiction
              intro h
              exact hne ⟨fun x => absurd x hA, fun x => absurd x h⟩
            refine ⟨(fibD fs i).a.toNat, by simp; omega, by simpa using hA, ?_⟩
            simp only [decide_eq_true_eq]
            exact Int.le_trans ea hB
      omega
theorem shut_all (he : endsB n fs) (c : Int) : shutL q fs (compL q fs n) c := by
  rcases shut_or (q := q) he c n with h | h
  · exact h
  · have : cntL n (rndL q fs n n) c ≤ n := by unfold cntL; exact Nat.le_trans List.countP_le_length (by simp)
    omega
theorem valL_ext {L M : List Int} (hl : L.length = M.length) (h : ∀ v, valL L v = valL M v) : L = M := by
  apply List.ext_getElem?
  intro i
  rcases Nat.lt_or_ge i L.length with hi | hi
  · have := h i
    unfold valL at this
    rw [List.getD_eq_getElem?_getD, List.getD_eq_getElem?_getD, List.getElem?_eq_getElem hi, List.getElem?_eq_getElem (by omega : i < M.length)] at this
    rw [List.getElem?_eq_getElem hi, List.getElem?_eq_getElem (by omega : i < M.length)]
    simpa using this
  · rw [List.getElem?_eq_none hi, List.getElem?_eq_none (by omega)]
/-- A further round turns nothing. -/
theorem compL_fix (he : endsB n fs) : passL q fs (compL q fs n) = compL q fs n := by
  have hL : (compL q fs n).length = n := compL_len
  refine valL_ext (by unfold passL; rw [passTo_len]) (fun v => ?_)
  have h1 := (passL_shut hL he (shut_all (q := q) he (valL (passL q fs (compL q fs n)) v)) v).1 (Int.le_refl _)
  have h2 := passL_le (q := q) hL he v
  omega
/-- The ends of a fiber that is not gone have one label. -/
theorem compL_edge (he : endsB n fs) {i : Nat} (hi : i < fs.length) (hq : q i = false) : valL (compL q fs n) (fibD fs i).a.toNat = valL (compL q fs n) (fibD fs i).b.toNat := by
  have h1 := (shut_all (q := q) he (valL (compL q fs n) (fibD fs i).a.toNat) i hi hq).1 (Int.le_refl _)
  have h2 := (shut_all (q := q) he (valL (compL q fs n) (fibD fs i).b.toNat) i hi hq).2 (Int.le_refl _)
  omega
theorem rndL_stay {k : Nat} (h : rndL q fs n (k + 1) = rndL q fs n k) : ∀ j, k ≤ j → rndL q fs n j = rndL q fs n k := by
  intro j
  induction j with
  | zero => intro hk; rw [show k = 0 by omega]
  | succ j ih =>
    intro hk
    rcases Nat.lt_or_ge j k with h1 | h1
    · rw [show k = j + 1 by omega]
    · have := ih h1
      show passL q fs (rndL q fs n j) = _
      rw [this]; exact h
/-- Where a round turns nothing the labels are found. -/
theorem rndL_done (he : endsB n fs) {k : Nat} (h : rndL q fs n (k + 1) = rndL q fs n k) : rndL q fs n k = compL q fs n := by
  rcases Nat.le_total k n with h1 | h1
  · exact (rndL_stay h n h1).symm
  · exact rndL_stay (compL_fix he) k h1
theorem rndL_late (he : endsB n fs) {k : Nat} (h : n ≤ k) : rndL q fs n (k + 1) = rndL q fs n k := by
  rw [rndL_stay (compL_fix (q := q) he) k h, rndL_stay (compL_fix (q := q) he) (k + 1) (by omega)]
/-- Has one of the first i fibers turned a label? -/
def chgB (q : Nat → Bool) (fs : List Fib) (L : List Int) : Nat → Bool
  | 0 => false
  | i + 1 => chgB q fs L i || (!q i && !(valL (passTo q fs L i) (fibD fs i).a.toNat == valL (passTo q fs L i) (fibD fs i).b.toNat))
theorem chgB_no {L : List Int} (hL : L.length = n) (he : endsB n fs) {i : Nat} (hi : i ≤ fs.length) (h : chgB q fs L i = false) : passTo q fs L i = L := by
  induction i with
  | zero => rfl
  | succ i ih =>
    unfold chgB at h
    rw [Bool.or_eq_false_iff] at h
    have ih := ih (by omega) h.1
    rw [passTo_succ]
    cases hq : q i
    · simp only [Bool.false_eq_true, if_false]
      obtain ⟨h0, h1, h2⟩ := he i (by omega)
      rw [joinF_same (n := n) (by rw [passTo_len, hL]) h0 h1 h2 (by have := h.2; rw [hq] at this; simpa using this)]
      exact ih
    · simp only [if_true]; exact ih
theorem chgB_yes {L : List Int} (hL : L.length = n) (he : endsB n fs) {i : Nat} (hi : i ≤ fs.length) (h : chgB q fs L i = true) : passL q fs L ≠ L := by
  have ⟨j, hj, hq, hne⟩ : ∃ j, j < fs.length ∧ q j = false ∧ valL (passTo q fs L j) (fibD fs j).a.toNat ≠ valL (passTo q fs L j) (fibD fs j).b.toNat := by
    induction i with
    | zero => cases h
    | succ i ih =>
      unfold chgB at h
      rcases Bool.or_eq_true_iff.1 h with h | h
      · exact ih (by omega) h
      · exact ⟨i, by omega, by simpa using (Bool.and_eq_true_iff.1 h).1, by simpa using (Bool.and_eq_true_iff.1 h).2⟩
  obtain ⟨h0, h1, h2⟩ := he j hj
  have e : ∀ v, valL (passTo q fs L (j + 1)) v = if v = (fibD fs j).a.toNat ∨ v = (fibD fs j).b.toNat then min (valL (passTo q fs L j) (fibD fs j).a.toNat) (valL (passTo q fs L j) (fibD fs j).b.toNat) else valL (passTo q fs L j) v := fun v => by
    rw [passTo_no hq]; exact joinF_val (n := n) (by rw [passTo_len, hL]) h0 h1 h2 v
  intro hEq
  have k1 := fun v => passTo_mono (q := q) hL he (show j + 1 ≤ fs.length from hj) (Nat.le_refl _) v
  have k2 := fun v => passTo_mono (q := q) hL he (Nat.zero_le j) (Nat.le_of_lt hj) v
  have e0 : passTo q fs L 0 = L := rfl
  have em : passTo q fs L fs.length = L := hEq
  have a1 := k1 (fibD fs j).a.toNat
  have b1 := k1 (fibD fs j).b.toNat
  have a2 := k2 (fibD fs j).a.toNat
  have b2 := k2 (fibD fs j).b.toNat
  rw [e, if_pos (.inl rfl), em] at a1
  rw [e, if_pos (.inr rfl), em] at b1
  rw [e0] at a2 b2
  omega
end
end Go.Proofs.YtgoegldffjfmdaaGreat
/- The search for routes over fibers, in plain Lean: its bounds; what it finds. Conditions: as each states. -/
namespace Go.Proofs.YtgoegldffjfmdaaGreat
open Go.RowKit
/-- The node at the other end, if there is one. -/
def nxF (fs : List Fib) (i v : Nat) : Option Nat := if 0 ≤ otherF (fibD fs i) (v : Int) then some (otherF (fibD fs i) (v : Int)).toNat else none
/-- All routes on from v. -/
def rtsL (fs : List Fib) (to k v : Nat) (seen : List Nat) (ids : List Int) : List (List Int) := dfsL fs.length to (nxF fs) k v seen ids
theorem nxF_some {fs : List Fib} {i v u : Nat} (h : otherF (fibD fs i) (v : Int) = (u : Int)) : nxF fs i v = some u := by
  unfold nxF; rw [h, if_pos (by omega)]; rfl
theorem nxF_none {fs : List Fib} {i v : Nat} (h : otherF (fibD fs i) (v : Int) < 0) : nxF fs i v = none := by
  unfold nxF; rw [if_neg (by omega)]
/-- What fiber i adds. -/
def rtsI (fs : List Fib) (to k v : Nat) (seen : List Nat) (ids : List Int) (i : Nat) : List (List Int) := match nxF fs i v with
  | some u => if u ∈ seen then [] else rtsL fs to k u (u :: seen) (ids ++ [(i : Int)])
  | none => []
/-- What the first j fibers add. -/
def rtsJ (fs : List Fib) (to k v : Nat) (seen : List Nat) (ids : List Int) (j : Nat) : List (List Int) := (List.range j).flatMap (rtsI fs to k v seen ids)
section
variable {fs : List Fib} {to k v : Nat} {seen : List Nat} {ids : List Int}
theorem rtsL_end : rtsL fs to (k + 1) to seen ids = [ids] := by unfold rtsL dfsL; rw [if_pos rfl]
theorem rtsL_on (h : v ≠ to) : rtsL fs to (k + 1) v seen ids = rtsJ fs to k v seen ids fs.length := by
  unfold rtsL rtsJ
  rw [dfsL, if_neg h]
  rfl
theorem rtsJ_succ (j : Nat) : rtsJ fs to k v seen ids (j + 1) = rtsJ fs to k v seen ids j ++ rtsI fs to k v seen ids j := by
  unfold rtsJ
  rw [List.range_succ, List.flatMap_append]
  simp
theorem rtsI_none {i : Nat} (h : otherF (fibD fs i) (v : Int) < 0) : rtsI fs to k v seen ids i = [] := by unfold rtsI; rw [nxF_none h]
theorem rtsI_seen {i u : Nat} (h : otherF (fibD fs i) (v : Int) = (u : Int)) (hs : u ∈ seen) : rtsI fs to k v seen ids i = [] := by unfold rtsI; rw [nxF_some h]; simp [hs]
theorem rtsI_on {i u : Nat} (h : otherF (fibD fs i) (v : Int) = (u : Int)) (hs : ¬ u ∈ seen) : rtsI fs to k v seen ids i = rtsL fs to k u (u :: seen) (ids ++ [(i : Int)]) := by unfold rtsI; rw [nxF_some h]; simp [hs]
theorem rtsJ_mono {i j : Nat} (h : i ≤ j) : (rtsJ fs to k v seen ids i).length ≤ (rtsJ fs to k v seen ids j).length := by
  obtain ⟨d, rfl⟩ := Nat.exists_eq_add_of_le h
  clear h
  induction d with
  | zero => exact Nat.le_refl _
  | succ d ih => rw [Nat.add_succ, rtsJ_succ, List.length_append]; omega
/-- Only the set of the nodes seen counts. -/
theorem rtsL_congr : ∀ (k v : Nat) (s t : List Nat) (ids : List Int), (∀ u, u ∈ s ↔ u ∈ t) → rtsL fs to k v s ids = rtsL fs to k v t ids := by
  intro k
  induction k with
  | zero => intro v s t ids _; rfl
  | succ k ih =>
    intro v s t ids h
    by_cases hv : v = to
    · subst hv; rw [rtsL_end, rtsL_end]
    · rw [rtsL_on hv, rtsL_on hv]
      unfold rtsJ
      congr 1
      funext i
      unfold rtsI
      cases nxF fs i v with
      | none => rfl
      | some u =>
        simp only [h u]
        split
        · rfl
        · exact ih u _ _ _ (fun x => by rw [List.mem_cons, List.mem_cons, h x])
/-- How many there are. -/
theorem rtsL_len : ∀ (k v : Nat) (seen : List Nat) (ids : List Int), (rtsL fs to k v seen ids).length ≤ (fs.length + 1) ^ k := by
  intro k
  induction k with
  | zero => intro v seen ids; exact Nat.zero_le _
  | succ k ih =>
    intro v seen ids
    by_cases hv : v = to
    · subst hv; rw [rtsL_end]; exact Nat.one_le_pow _ _ (by omega)
    · rw [rtsL_on hv]
      have hj : ∀ j, (rtsJ fs to k v seen ids j).length ≤ j * (fs.length + 1) ^ k := by
        intro j
        induction j with
        | zero => exact Nat.zero_le _
        | succ j ihj =>
          rw [rtsJ_succ, List.length_append, Nat.add_mul, Nat.one_mul]
          have : (rtsI fs to k v seen ids j).length ≤ (fs.length + 1) ^ k := by
            unfold rtsI
            split
            · split
              · exact Nat.zero_le _
              · exact ih _ _ _
            · exact Nat.zero_le _
          omega
      have h1 := hj fs.length
      have h2 : fs.length * (fs.length + 1) ^ k ≤ (fs.length + 1) ^ (k + 1) := by
        rw [Nat.pow_succ, Nat.mul_comm]
        exact Nat.mul_le_mul_left _ (by omega)
      omega
/-- What is found extends what was given, by fibers of the network, few. -/
theorem rtsL_mem : ∀ (k v : Nat) (seen : List Nat) (ids : List Int), ∀ r ∈ rtsL fs to k v seen ids, (∃ e, r = ids ++ e ∧ e.length + 1 ≤ k ∧ ∀ x ∈ e, 0 ≤ x ∧ x < fs.length) := by
  intro k
  induction k with
  | zero => intro v seen ids r hr; cases hr
  | succ k ih =>
    intro v seen ids r hr
    by_cases hv : v = to
    · subst hv
      rw [rtsL_end] at hr
      rw [List.mem_singleton.1 hr]
      exact ⟨[], by simp, by simp, fun x hx => by cases hx⟩
    · rw [rtsL_on hv] at hr
      unfold rtsJ at hr
      obtain ⟨i, hi, hr⟩ := List.mem_flatMap.1 hr
      have hi2 : i < fs.length := by simpa using hi
      unfold rtsI at hr
      split at hr
      · split at hr
        · cases hr
        · obtain ⟨e, he, h1, h2⟩ := ih _ _ _ r hr
          refine ⟨(i : Int) :: e, by rw [he]; simp, by simp; omega, fun x hx => ?_⟩
          rcases List.mem_cons.1 hx with hx | hx
          · rw [hx]; omega
          · exact h2 x hx
      · cases hr
theorem nodup_len : ∀ (n : Nat) (l : List Nat), l.Nodup → (∀ u ∈ l, u < n) → l.length ≤ n := by
  intro n
  induction n with
  | zero =>
    intro l _ h
    cases l with
    | nil => exact Nat.le_refl _
    | cons x l => exact absurd (h x (by simp)) (by omega)
  | succ n ih =>
    intro l hl h
    by_cases hm : n ∈ l
    · have h1 := ih (l.erase n) (hl.erase n) (fun u hu => by
        have h2 := (hl.mem_erase_iff).1 hu
        have := h u h2.2
        have := h2.1
        omega)
      rw [List.length_erase_of_mem hm] at h1
      omega
    · have h1 := ih l hl (fun u hu => by
        have := h u hu
        have : u ≠ n := fun e => hm (e ▸ hu)
        omega)
      omega
/-- The depth is enough. -/
theorem fuel_pos {n k : Nat} {seen : List Nat} (hn : seen.Nodup) (hs : ∀ u ∈ seen, u < n) (h : seen.length + k = n + 1) : 0 < k := by
  have := nodup_len n seen hn hs
  omega
end
end Go.Proofs.YtgoegldffjfmdaaGreat
