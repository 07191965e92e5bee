/- Lemmas and walks that the claim rests on, laid together. Conditions: none. -/
import Derived.Test.YtfepilpllfiegaaZc3e33f13110d
import Derived.ArgAppend
import Derived.Lib.SliceRun
import Derived.Test.YtfepilpllfiegaaZca6a11a8a0df
import Derived.Lib.AppendZeros
import Derived.Test.YtfepilpllfiegaaZc731a5b1582e
import Derived.Deep.RegionHeld3
/- slices.Clone at numbers, walked. Conditions: at most 1048576 numbers. -/
namespace Go.Proofs.Ytfepilpllfiegaa
open Go.RowKit
set_option maxHeartbeats 1000000 in
set_option maxRecDepth 100000 in
theorem cloneI_any {B n c : Nat} {A : Option Addr} {xs : List Int} (w : World) (hA : Sees elInt w B A n xs) (hn : n ≤ 1048576) :
    Calls Try.prog 99 #[.slice A n c] w fun e w' => ∃ v, e = .returned v ∧ Owns elInt w' w.heap.size 3 v xs ∧ Below w.heap.size w w' := by
  have qT : ∀ (w : World) (a : Option Addr), (binOp .eql 33 (.slice a n c) (.slice none 0 0)).run Try.prog w = .ok (.bool a.isNone) w := fun w a => Lib.run_eql_slice_nil w _ _ a n c 0 0 Try.underlying33
  rcases A with _ | ad
  · have h0 : xs = [] := by
      rcases hA.2 with h | ⟨b, o, h, _⟩
      · exact List.eq_nil_of_length_eq_zero (by rw [hA.len, h])
      · cases h
    subst h0
    go_enter Try.func99, Try.ntmps99
    go_wp2
    go_ret
    exact ⟨_, rfl, World.ownsRow_nil _ _ _ _, Below.refl _ _⟩
  · obtain ⟨i0, hi, hz0, hz1, hz2⟩ := info_parts int_info
    have hS := (Led.nil w).empty elInt 3 w.heap.size rfl w.heap.size (Nat.le_refl _)
    go_enter Try.func99, Try.ntmps99
    go_wp2_with (first
      | (at_builtin; refine wpList_append_led rfl _ _ 33 rfl hS 0 rfl Try.underlying33 hi hz0 hz1 (by rw [hz2]; decide) rfl rfl rfl (hA.grow hS.bl) (by simp; omega) (by simp) ?_)
      | go_in)
    intro A' c' w1 hS1
    go_wp2
    go_ret
    exact ⟨_, rfl, hS1.own 0 rfl, hS1.bl⟩
end Go.Proofs.Ytfepilpllfiegaa
/- Routes in the ledger: equal, marked, held. Conditions: at most 1048576 fibers; marks below 2^40. -/
namespace Go.Proofs.Ytfepilpllfiegaa
open Go.RowKit
variable {w0 : World} {L : List Thing} {base base' c c' : Nat} {A A' : Option Addr} {ids : List Int}
end Go.Proofs.Ytfepilpllfiegaa
/- slices.Concat of two rows of numbers, slices.Grow of nil, walked. Conditions: at most 524288 numbers each. -/
namespace Go.Proofs.Ytfepilpllfiegaa
open Go.RowKit
set_option maxHeartbeats 2000000 in
set_option maxRecDepth 100000 in
theorem growNil_any (k : Nat) (w : World) (hk : k ≤ 1048576) :
    Calls Try.prog 143 #[.slice none 0 0, .int .i64 k] w fun e w' => ∃ v, e = .returned v ∧ Owns elInt w' w.heap.size 3 v [] ∧ Below w.heap.size w w' := by
  obtain ⟨i0, hi, hz0, hz1, hz2⟩ := info_parts int_info
  have h1 : ¬ ((k : Int) < 0) := by omega
  have iw : IntKind.i64.wrap (k : Int) = (k : Int) := IntWalk.i64_in _ (by omega)
  rcases Nat.eq_zero_or_pos k with rfl | hp
  · go_enter Try.func143, Try.ntmps143
    go_wp2
    go_ret
    exact ⟨_, rfl, World.ownsRow_nil _ _ _ _, Below.refl _ _⟩
  · have hrz : ∀ ty, (Builtin.append_ #[33, 3] ty #[.slice none 0 0, .int .i64 k]).run Try.prog w = _ := fun ty => Lib.run_append_nil_zeros w 33 3 ty 3 i0 _ .i64 .i64 Try.underlying33 Try.underlying3 hi hz0 k hp (by omega) (by omega) (by rw [hz2]; omega)
    obtain ⟨G, hG⟩ : ∃ G, G = grownCap w k 0 3 := ⟨_, rfl⟩
    have hGn : k ≤ G := by rw [hG]; exact grownCap_ge w _ _ _
    have hG63 : G ≤ maxLen := by rw [hG]; exact grownCap_le_maxLen w k 0 3 (by unfold maxLen; omega)
    have hG64 : (G : Int) ≤ 9223372036854775807 := by unfold maxLen at hG63; omega
    rw [← hG] at hrz
    have ho := World.ownsRow_made (base := w.heap.size) (e := 3) (size := elInt.sz) w.drew (Builtin.zeroCells (Value.int .i64 0).cells k ++ Builtin.zeroCells (Value.int .i64 0).cells (G - k)) G (Nat.le_refl _) hG63 (by have e : (Value.int .i64 0).cells.size = 1 := rfl; simp [Builtin.zeroCells, elInt, e]; omega)
    have HO := hid ho
    have hp2 : (k : Int) > 0 := by omega
    clear hG ho
    go_enter Try.func143, Try.ntmps143
    go_wp2_with (at_builtin; refine Lib.wpList_append_run _ rfl _ _ _ _ rfl _ _ rfl rfl _ _ (hrz _) ?_)
    all_goals
      go_ret
      exact ⟨_, rfl, HO.out, bl_alloc (Cls.drew _) _⟩
set_option maxHeartbeats 2000000 in
set_option maxRecDepth 100000 in
theorem concat2_any {g n n' c c' : Nat} {A A' : Option Addr} {xs ys : List Int} (w : World) (hg : Blk w g 33 #[.slice A n c, .slice A' n' c']) (hx : Sees elInt w w.heap.size A n xs) (hy : Sees elInt w w.heap.size A' n' ys) (hn : n ≤ 524288) (hn' : n' ≤ 524288) :
    Calls Try.prog 101 #[.slice (some ⟨g, 0, none⟩) 2 2] w fun e w' => ∃ v, e = .returned v ∧ Owns elInt w' w.heap.size 3 v (xs ++ ys) ∧ Below w.heap.size w w' := by
  obtain ⟨i0, hi, hz0, hz1, hz2⟩ := info_parts int_info
  have HX := hid hx
  have HY := hid hy
  have HG := hid hg
  have hxl := hid hx.len
  have hyl := hid hy.len
  have c0 := hg.cell 0
  have c1 := hg.cell 1
  simp at c0 c1
  have hn0 : ¬ ((n : Int) < 0) := by omega
  have hn1 : ¬ ((n : Int) + (n' : Int) < 0) := by omega
  have iw0 : IntKind.i64.wrap (n : Int) = (n : Int) := IntWalk.i64_in _ (by omega)
  have iw1 : IntKind.i64.wrap ((n : Int) + (n' : Int)) = (n : Int) + (n' : Int) := IntWalk.i64_in _ (by omega)
  clear hx hy hg
  go_enter Try.func101, Try.ntmps101
  go_wp2_with fail
  go_loopw [3, 11] (fun V i wr => wr = w ∧ ((V = .int .i64 0 ∧ i = .int .i64 0) ∨ (V = .int .i64 n ∧ i = .int .i64 1) ∨ (V = .int .i64 ((n : Int) + n') ∧ i = .int .i64 2))) (fun _ i _ => 2 - (intOf i).toNat)
  case atStart => exact ⟨rfl, .inl ⟨rfl, rfl⟩⟩
  case round =>
    obtain ⟨hw, hrel⟩ := hrel
    subst hw
    rcases hrel with ⟨rfl, rfl⟩ | ⟨rfl, rfl⟩ | ⟨rfl, rfl⟩
    · go_wp2
      go_roundw
      case rel => exact ⟨trivial, .inr (.inl ⟨by go_num, rfl⟩)⟩
      case measure => simp [intOf]
    · go_wp2
      go_roundw
      case rel => exact ⟨trivial, .inr (.inr ⟨by go_num, rfl⟩)⟩
      case measure => simp [intOf]
    · have hG := growNil_any (n + n') wr (by omega)
      rw [Int.natCast_add] at hG
      go_wp2_with fail
      refine hG.mono ?_
      rintro e w1 ⟨v, rfl, ho, hb⟩
      have HS0 := hid ((Led.nil wr).owns hb ho)
      clear hG ho hb c0 c1
      go_wp2_with fail
      go_loopw [6, 27] (fun V i wq => ∃ l : List Int, Hid (Led wr wq [tOwns elInt wr.heap.size 3 V l]) ∧ ((l = [] ∧ i = .int .i64 0) ∨ (l = xs ∧ i = .int .i64 1) ∨ (l = xs ++ ys ∧ i = .int .i64 2))) (fun _ i _ => 2 - (intOf i).toNat)
      case atStart => exact ⟨_, HS0, .inl ⟨rfl, rfl⟩⟩
      case round =>
        clear HS0
        obtain ⟨l, HS, hrel⟩ := hrel
        obtain ⟨AV, cV, rfl, _⟩ := HS.out.form 0 rfl
        have hg2 := HG.out.below HS.out.bl HG.out.lt
        have c0 := hg2.cell 0
        have c1 := hg2.cell 1
        simp at c0 c1
        clear hg2
        rcases hrel with ⟨rfl, rfl⟩ | ⟨rfl, rfl⟩ | ⟨rfl, rfl⟩
        · go_wp2_with (first
            | (at_builtin; refine wpList_append_led rfl _ _ 33 rfl HS.out 0 rfl Try.underlying33 hi hz0 hz1 (by rw [hz2]; decide) rfl rfl rfl (HX.out.grow HS.out.bl) (by simp; omega) HS.out.bl.size ?_)
            | go_in)
          intro A2 c2 w2 hS2
          have HS2 := hid hS2
          clear hS2 HS
          go_wp2
          go_roundw
          case rel => exact ⟨_, HS2, .inr (.inl ⟨rfl, rfl⟩)⟩
          case measure => simp [intOf]
        · go_wp2_with (first
            | (at_builtin; refine wpList_append_led rfl _ _ 33 rfl HS.out 0 rfl Try.underlying33 hi hz0 hz1 (by rw [hz2]; decide) rfl rfl rfl (HY.out.grow HS.out.bl) (by have := hxl.out; omega) HS.out.bl.size ?_)
            | go_in)
          intro A2 c2 w2 hS2
          have HS2 := hid hS2
          clear hS2 HS
          go_wp2
          go_roundw
          case rel => exact ⟨_, HS2, .inr (.inr ⟨rfl, rfl⟩)⟩
          case measure => simp [intOf]
        · go_wp2
          go_ret
          exact ⟨_, rfl, HS.out.own 0 rfl, HS.out.bl⟩
end Go.Proofs.Ytfepilpllfiegaa
/- The order of routes, walked: slices.Compare, compareRoutes, l4Compare, CompareRoutes of both sides. Conditions: as each states. -/
namespace Go.Proofs.Ytfepilpllfiegaa
open Go.RowKit
theorem Cls.onto {w w1 w2 : World} (h : Cls w w1) (k : Cls w1 w2) : Cls w w2 := bl_then h k
theorem sgn_cmp (x y : Int) : sgnI (x - y) = cmpB x y := by
  unfold sgnI cmpB
  split
  · rw [if_pos (by omega)]
  · split
    · rw [if_neg (by omega), if_pos (by omega)]
    · rw [if_neg (by omega), if_neg (by omega)]
/-- Two routes in their order. -/
def ordR (fs : List Fib) (s : Int) (a : List Int) (t : Int) (b : List Int) : Int := orI [cmpB (lenR fs a) (lenR fs b), cmpB (a.length : Int) (b.length : Int), cmpL a b, cmpB s t]
theorem ordR_len {fs : List Fib} {s t : Int} {a b : List Int} (h : lenR fs a ≠ lenR fs b) : ordR fs s a t b = sgnI (lenR fs a - lenR fs b) := by
  unfold ordR orI; rw [sgn_cmp, if_neg (by rw [cmpB_zero]; exact h)]
theorem ordR_num {fs : List Fib} {s t : Int} {a b : List Int} (h : lenR fs a = lenR fs b) (h2 : (a.length : Int) ≠ b.length) : ordR fs s a t b = sgnI ((a.length : Int) - b.length) := by
  unfold ordR orI orI; rw [sgn_cmp, if_pos (by rw [cmpB_zero]; exact h), if_neg (by rw [cmpB_zero]; exact h2)]
theorem ordR_list {fs : List Fib} {s t : Int} {a b : List Int} (h : lenR fs a = lenR fs b) (h2 : a.length = b.length) (h3 : cmpL a b ≠ 0) : ordR fs s a t b = cmpL a b := by
  unfold ordR orI orI orI; rw [if_pos (by rw [cmpB_zero]; exact h), if_pos (by rw [cmpB_zero]; omega), if_neg h3]
theorem ordR_start {fs : List Fib} {s t : Int} {a : List Int} : ordR fs s a t a = sgnI (s - t) := by
  unfold ordR orI orI orI orI orI; rw [if_pos (by rw [cmpB_zero]), if_pos (by rw [cmpB_zero]), if_pos (cmpL_same a), sgn_cmp]
  split
  · rename_i h; exact h.symm
  · rfl
set_option maxRecDepth 100000 in
theorem sign_any (x : Int) (w : World) : Calls Try.prog 191 #[.int .i64 x] w fun e w' => e = .returned (.int .i64 (sgnI x)) ∧ w = w' := by
  by_cases h1 : x < 0
  · have H : Hid (sgnI x = -1) := by unfold Hid sgnI; rw [if_pos h1]
    go_enter Try.func191, Try.ntmps191
    go_wp2
    go_ret
    exact ⟨by rw [H.out]; rfl, rfl⟩
  · by_cases h2 : x > 0
    · have H : Hid (sgnI x = 1) := by unfold Hid sgnI; rw [if_neg h1, if_pos h2]
      go_enter Try.func191, Try.ntmps191
      go_wp2
      go_ret
      exact ⟨by rw [H.out]; rfl, rfl⟩
    · have H : Hid (sgnI x = 0) := by unfold Hid sgnI; rw [if_neg h1, if_neg h2]
      go_enter Try.func191, Try.ntmps191
      go_wp2
      go_ret
      exact ⟨by rw [H.out]; rfl, rfl⟩
set_option maxHeartbeats 1000000 in
set_option maxRecDepth 100000 in
theorem compareL_any {B B' c c' : Nat} {A A' : Option Addr} {xs ys : List Int} (w : World) (hA : Sees elInt w B A xs.length xs) (hB : Sees elInt w B' A' ys.length ys) (hx : xs.length ≤ 1048576) :
    Calls Try.prog 130 #[.slice A xs.length c, .slice A' ys.length c'] w fun e w' => e = .returned (.int .i64 (cmpL xs ys)) ∧ w = w' := by
  go_enter Try.func130, Try.ntmps130
  go_wp2
  go_loop [11] (fun i => ∃ k : Nat, k ≤ xs.length ∧ k ≤ ys.length ∧ i = .int .i64 k ∧ Hid (xs.take k = ys.take k)) (fun i => xs.length - (intOf i).toNat)
  case atStart => exact ⟨0, Nat.zero_le _, Nat.zero_le _, rfl, rfl⟩
  case round =>
    obtain ⟨k, hk, hk2, rfl, hsame⟩ := hrel
    by_cases hlt : k < xs.length
    · obtain ⟨b, o, rfl, _, hc⟩ := hA.at_ hlt
      obtain ⟨x, hxk⟩ := get_of (k := k) rfl hlt
      have e0 := hc k x hxk 0 _ rfl
      simp only [elInt, Nat.mul_one, Nat.add_zero] at e0
      by_cases hlt2 : k < ys.length
      · obtain ⟨b2, o2, rfl, _, hd⟩ := hB.at_ hlt2
        obtain ⟨y, hyk⟩ := get_of (k := k) rfl hlt2
        have e1 := hd k y hyk 0 _ rfl
        simp only [elInt, Nat.mul_one, Nat.add_zero] at e1
        have HX := hid hxk
        have HY := hid hyk
        clear hc hd hxk hyk
        by_cases hxy : x = y
        · subst hxy
          have HN : Hid (xs.take (k + 1) = ys.take (k + 1)) := by unfold Hid; rw [List.take_add_one, List.take_add_one, HX.out, HY.out, hsame.out]
          have hz : cmpB x x = 0 := cmpB_zero.2 rfl
          clear hsame
          go_wp2_with fail
          refine (compare_any x x _).mono ?_
          rintro e w2 ⟨rfl, rfl⟩
          rw [hz]
          go_wp2_with fail
          go_round
          case rel => exact ⟨k + 1, by omega, by omega, by go_num, HN⟩
          case measure => simp [intOf]; omega
        · have HN : Hid (cmpL xs ys = cmpB x y) := by unfold Hid; rw [cmpL_at hsame.out HX.out HY.out hxy, sgn_cmp]
          obtain ⟨z, hz⟩ : ∃ z, z = cmpB x y := ⟨_, rfl⟩
          have hz0 : z ≠ 0 := by rw [hz]; intro h; exact hxy (cmpB_zero.1 h)
          have hz1 : (z == 0) = false := by simp [hz0]
          have hz2 : (z != 0) = true := by simp [hz0]
          have HZ := hid hz
          clear hsame hz
          go_wp2_with fail
          refine (compare_any x y _).mono ?_
          rintro e w2 ⟨rfl, rfl⟩
          rw [← HZ.out]
          go_wp2_with fail
          go_ret
          exact ⟨by rw [HN.out, ← HZ.out]; rfl, rfl⟩
      · have hky : k = ys.length := by omega
        have HN : Hid (cmpL xs ys = 1) := cmpL_long (by have := hsame.out; rw [hky] at this; simpa using this) (by omega)
        clear hc hsame hxk hky
        go_wp2
        go_ret
        exact ⟨by rw [HN.out]; rfl, rfl⟩
    · have hkx : k = xs.length := by omega
      by_cases hlt2 : xs.length < ys.length
      · have HN : Hid (cmpL xs ys = -1) := cmpL_short (by have := hsame.out; rw [hkx] at this; simpa using this) hlt2
        clear hsame
        go_wp2
        go_ret
        exact ⟨by rw [HN.out]; rfl, rfl⟩
      · have HN : Hid (cmpL xs ys = 0) := by
          have h1 := hsame.out
          rw [hkx] at h1
          have h2 : xs = ys := by
            rw [List.take_length] at h1
            rw [h1]
            exact List.take_of_length_le (by omega)
          rw [h2]; exact cmpL_same ys
        clear hsame
        go_wp2
        go_ret
        exact ⟨by rw [HN.out]; rfl, rfl⟩
section
variable {n c m d er eq : Nat} {A A' R Q : Option Addr} {xs : List ByteArray} {fs : List Fib} {s t : Int} {ids jds : List Int}
set_option maxHeartbeats 2000000 in
set_option maxRecDepth 100000 in
theorem compareRoutes_any (w : World) (h : NetIs w A n c A' m d xs fs) (hr : RtIs w R ids.length er ids) (hq : RtIs w Q jds.length eq jds) (hl : ∀ f ∈ fs, 0 ≤ f.len ∧ f.len ≤ 5000) (hi : ∀ x ∈ ids, 0 ≤ x ∧ x < fs.length) (hj : ∀ x ∈ jds, 0 ≤ x ∧ x < fs.length) :
    Calls Try.prog 64 #[.agg #[.slice A n c, .slice A' m d], .agg #[.int .i64 s, .slice R ids.length er], .agg #[.int .i64 t, .slice Q jds.length eq]] w fun e w' => e = .returned (.int .i64 (ordR fs s ids t jds)) ∧ Below w.heap.size w w' := by
  have hS := (((Led.nil w).blk_ w.heap.size rfl 27 #[.slice A n c, .slice A' m d]).blk_ (w.heap.size + 1) (by simp) 35 #[.int .i64 s, .slice R ids.length er]).blk_ (w.heap.size + 1 + 1) (by simp) 35 #[.int .i64 t, .slice Q jds.length eq]
  have hri := hr.le
  have hqi := hq.le
  have H : Hid (ordR fs s ids t jds = orI [cmpB (lenR fs ids) (lenR fs jds), cmpB (ids.length : Int) (jds.length : Int), cmpL ids jds, cmpB s t]) := rfl
  have HL : Hid (∀ w', Cls w w' → Calls Try.prog 93 #[.agg #[.slice A n c, .slice A' m d], .agg #[.int .i64 s, .slice R ids.length er]] w' fun e w2 => e = .returned (.int .i64 (lenR fs ids)) ∧ Below w'.heap.size w' w2) := fun w' hw => lengthOf_any w' (h.grow hw) (hr.grow hw) hi hl
  have HM : Hid (∀ w', Cls w w' → Calls Try.prog 93 #[.agg #[.slice A n c, .slice A' m d], .agg #[.int .i64 t, .slice Q jds.length eq]] w' fun e w2 => e = .returned (.int .i64 (lenR fs jds)) ∧ Below w'.heap.size w' w2) := fun w' hw => lengthOf_any w' (h.grow hw) (hq.grow hw) hj hl
  have HC : Hid (∀ w', Cls w w' → Calls Try.prog 130 #[.slice R ids.length er, .slice Q jds.length eq] w' fun e w2 => e = .returned (.int .i64 (cmpL ids jds)) ∧ w' = w2) := fun w' hw => compareL_any w' (hr.grow hw).2 (hq.grow hw).2 hri
  clear hi hj hl h hr hq
  go_enter Try.func64, Try.ntmps64
  go_wp2_with fail
  generalize (((w.alloc (.cells #[.slice A n c, .slice A' m d] 27)).alloc (.cells #[.int .i64 s, .slice R ids.length er] 35)).alloc (.cells #[.int .i64 t, .slice Q jds.length eq] 35)) = W0 at *
  have C0 : ∀ w', Cls W0 w' → w'.cell? ⟨w.heap.size, 0, none⟩ = some (.slice A n c) := fun _ h => h.cell (hS.cell 2 0 rfl rfl)
  have C1 : ∀ w', Cls W0 w' → w'.cell? ⟨w.heap.size, 1, none⟩ = some (.slice A' m d) := fun _ h => h.cell (hS.cell 2 1 rfl rfl)
  have C2 : ∀ w', Cls W0 w' → w'.cell? ⟨w.heap.size + 1, 0, none⟩ = some (.int .i64 s) := fun _ h => h.cell (hS.cell 1 0 rfl rfl)
  have C3 : ∀ w', Cls W0 w' → w'.cell? ⟨w.heap.size + 1, 1, none⟩ = some (.slice R ids.length er) := fun _ h => h.cell (hS.cell 1 1 rfl rfl)
  have C4 : ∀ w', Cls W0 w' → w'.cell? ⟨w.heap.size + 1 + 1, 0, none⟩ = some (.int .i64 t) := fun _ h => h.cell (hS.cell 0 0 rfl rfl)
  have C5 : ∀ w', Cls W0 w' → w'.cell? ⟨w.heap.size + 1 + 1, 1, none⟩ = some (.slice Q jds.length eq) := fun _ h => h.cell (hS.cell 0 1 rfl rfl)
  have HB : Hid (Cls w W0) := hS.bl
  clear hS
  go_region_held3 (fun w' => Cls W0 w') (first | assumption | exact Cls.drew _ | exact Cls.next (by assumption) (by assumption) | exact bl_alloc (by assumption) _)
    (first
      | (go_at_call 93; with_reducible refine (HL.out _ (HB.out.onto (by assumption))).mono ?_; rintro e w' ⟨rfl, hb1⟩)
      | (go_at_call 93; with_reducible refine (HM.out _ (HB.out.onto (by assumption))).mono ?_; rintro e w' ⟨rfl, hb2⟩)
      | (go_at_call 130; refine (HC.out _ (HB.out.onto (by assumption))).mono ?_; rintro e w' ⟨rfl, rfl⟩)
      | (go_at_call 129; refine (compare_any _ _ _).mono ?_; rintro e w' ⟨rfl, rfl⟩)
      | (go_at_call 128; refine (or_any (x0 := cmpB (lenR fs ids) (lenR fs jds)) (x1 := cmpB (ids.length : Int) (jds.length : Int)) (x2 := cmpL ids jds) (x3 := cmpB s t) _ (by go_simp) (by go_simp) (by go_simp) (by go_simp)).mono ?_; rintro e w' ⟨rfl, rfl⟩))
  have hz := HB.out.onto (by assumption)
  go_wp2
  go_ret
  exact ⟨by rw [H.out]; rfl, hz⟩
set_option maxHeartbeats 2000000 in
set_option maxRecDepth 100000 in
theorem areRoutes_any (w : World) (h : NetIs w A n c A' m d xs fs) (hr : RtIs w R ids.length er ids) (hq : RtIs w Q jds.length eq jds) :
    Calls Try.prog 63 #[.agg #[.slice A n c, .slice A' m d], .agg #[.int .i64 s, .slice R ids.length er], .agg #[.int .i64 t, .slice Q jds.length eq]] w fun e w' => e = .returned (.bool (routeB xs fs s ids && routeB xs fs t jds)) ∧ Below w.heap.size w w' := by
  have hS := (((Led.nil w).blk_ w.heap.size rfl 27 #[.slice A n c, .slice A' m d]).blk_ (w.heap.size + 1) (by simp) 35 #[.int .i64 s, .slice R ids.length er]).blk_ (w.heap.size + 1 + 1) (by simp) 35 #[.int .i64 t, .slice Q jds.length eq]
  cases g : routeB xs fs s ids
  · go_enter Try.func63, Try.ntmps63
    go_wp2_with fail
    refine (implIsValidRoute s _ (h.grow hS.bl) (hr.grow hS.bl)).mono ?_
    rintro e w1 ⟨rfl, hb⟩
    replace hS := hS.step hb
    rw [g]
    have q0 := hS.cell 2 0 rfl rfl
    have q1 := hS.cell 2 1 rfl rfl
    have q2 := hS.cell 1 0 rfl rfl
    have q3 := hS.cell 1 1 rfl rfl
    have q4 := hS.cell 0 0 rfl rfl
    have q5 := hS.cell 0 1 rfl rfl
    go_wp2_with fail
    go_ret
    exact ⟨rfl, hS.bl⟩
  · go_enter Try.func63, Try.ntmps63
    go_wp2_with fail
    refine (implIsValidRoute s _ (h.grow hS.bl) (hr.grow hS.bl)).mono ?_
    rintro e w1 ⟨rfl, hb⟩
    replace hS := hS.step hb
    rw [g]
    have q0 := hS.cell 2 0 rfl rfl
    have q1 := hS.cell 2 1 rfl rfl
    have q2 := hS.cell 1 0 rfl rfl
    have q3 := hS.cell 1 1 rfl rfl
    have q4 := hS.cell 0 0 rfl rfl
    have q5 := hS.cell 0 1 rfl rfl
    go_wp2_with fail
    refine (implIsValidRoute t _ (h.grow hS.bl) (hq.grow hS.bl)).mono ?_
    rintro e w2 ⟨rfl, hb2⟩
    go_wp2_with fail
    go_ret
    exact ⟨rfl, bl_then hS.bl hb2⟩
set_option maxHeartbeats 2000000 in
set_option maxRecDepth 100000 in
theorem l4Compare_any (w : World) (h : NetIs w A n c A' m d xs fs) (hr : RtIs w R ids.length er ids) (hq : RtIs w Q jds.length eq jds) (hl : ∀ f ∈ fs, 0 ≤ f.len ∧ f.len ≤ 5000) (hi : ∀ x ∈ ids, 0 ≤ x ∧ x < fs.length) (hj : ∀ x ∈ jds, 0 ≤ x ∧ x < fs.length) (hs : 0 ≤ s ∧ s ≤ 1048576) (ht : 0 ≤ t ∧ t ≤ 1048576) :
    Calls Try.prog 172 #[.agg #[.slice A n c, .slice A' m d], .agg #[.int .i64 s, .slice R ids.length er], .agg #[.int .i64 t, .slice Q jds.length eq]] w fun e w' => e = .returned (.int .i64 (ordR fs s ids t jds)) ∧ Below w.heap.size w w' := by
  have hS := (((Led.nil w).blk_ w.heap.size rfl 27 #[.slice A n c, .slice A' m d]).blk_ (w.heap.size + 1) (by simp) 35 #[.int .i64 s, .slice R ids.length er]).blk_ (w.heap.size + 1 + 1) (by simp) 35 #[.int .i64 t, .slice Q jds.length eq]
  have hri := hr.le
  have hqi := hq.le
  have hm := h.mle
  have hlf := hid h.flen
  have hbi := rlTo_bd hl hi ids.length (Nat.le_refl _)
  have hbj := rlTo_bd hl hj jds.length (Nat.le_refl _)
  change 0 ≤ lenR fs ids ∧ lenR fs ids ≤ _ at hbi
  change 0 ≤ lenR fs jds ∧ lenR fs jds ≤ _ at hbj
  have HL : Hid (∀ w', Cls w w' → Calls Try.prog 190 #[.agg #[.slice A n c, .slice A' m d], .agg #[.int .i64 s, .slice R ids.length er]] w' fun e w2 => e = .returned (.int .i64 (lenR fs ids)) ∧ Below w'.heap.size w' w2) := fun w' hw => l4Length_any w' (h.grow hw) (hr.grow hw) hi hl
  have HM : Hid (∀ w', Cls w w' → Calls Try.prog 190 #[.agg #[.slice A n c, .slice A' m d], .agg #[.int .i64 t, .slice Q jds.length eq]] w' fun e w2 => e = .returned (.int .i64 (lenR fs jds)) ∧ Below w'.heap.size w' w2) := fun w' hw => l4Length_any w' (h.grow hw) (hq.grow hw) hj hl
  have HI := hid hi
  have HJ := hid hj
  have HR := hid hr
  have HQ := hid hq
  have HZ := hid (show lenR fs ids - lenR fs jds = lenR fs ids - lenR fs jds from rfl)
  obtain ⟨z, hz⟩ : ∃ z, z = lenR fs ids - lenR fs jds := ⟨_, rfl⟩
  have iw : IntKind.i64.wrap (lenR fs ids - lenR fs jds) = z := by rw [hz]; exact IntWalk.i64_in _ (by omega)
  have HZ := hid hz
  clear hi hj hl h hr hq hbi hbj hz
  by_cases hz0 : z = 0
  case neg =>
    have H : Hid (ordR fs s ids t jds = sgnI z) := by unfold Hid; rw [ordR_len (by have := HZ.out; omega), ← HZ.out]
    have hz1 : (z == 0) = false := by simp [hz0]
    have hz2 : (z != 0) = true := by simp [hz0]
    go_enter Try.func172, Try.ntmps172
    go_wp2_with fail
    generalize (((w.alloc (.cells #[.slice A n c, .slice A' m d] 27)).alloc (.cells #[.int .i64 s, .slice R ids.length er] 35)).alloc (.cells #[.int .i64 t, .slice Q jds.length eq] 35)) = W0 at *
    have C0 : ∀ w', Cls W0 w' → w'.cell? ⟨w.heap.size, 0, none⟩ = some (.slice A n c) := fun _ h => h.cell (hS.cell 2 0 rfl rfl)
    have C1 : ∀ w', Cls W0 w' → w'.cell? ⟨w.heap.size, 1, none⟩ = some (.slice A' m d) := fun _ h => h.cell (hS.cell 2 1 rfl rfl)
    have C2 : ∀ w', Cls W0 w' → w'.cell? ⟨w.heap.size + 1, 0, none⟩ = some (.int .i64 s) := fun _ h => h.cell (hS.cell 1 0 rfl rfl)
    have C3 : ∀ w', Cls W0 w' → w'.cell? ⟨w.heap.size + 1, 1, none⟩ = some (.slice R ids.length er) := fun _ h => h.cell (hS.cell 1 1 rfl rfl)
    have C4 : ∀ w', Cls W0 w' → w'.cell? ⟨w.heap.size + 1 + 1, 0, none⟩ = some (.int .i64 t) := fun _ h => h.cell (hS.cell 0 0 rfl rfl)
    have C5 : ∀ w', Cls W0 w' → w'.cell? ⟨w.heap.size + 1 + 1, 1, none⟩ = some (.slice Q jds.length eq) := fun _ h => h.cell (hS.cell 0 1 rfl rfl)
    have HB : Hid (Cls w W0) := hS.bl
    refine region_cls (by kernel_rfl) (by kernel_rfl) ?_
    repeat (first
      | ((with_reducible refine quiet_pos ?_ (fun K hK => ?_))
         · rfl
         apply Exists.intro
         refine ⟨fun w' hw' => ?_, ?_⟩
         · go_simp
           first
             | with_reducible rfl
             | (go_at_call 190; with_reducible exact hw'.call (HL.out _ (HB.out.onto hw')))
             | (go_at_call 190; with_reducible exact hw'.call (HM.out _ (HB.out.onto hw')))
         simp only [Act.put, List.setIfInBounds_toArray, List.set_cons_zero, List.set_cons_succ]
         refine hK _ ?_; clear hK K)
      | ((with_reducible refine quiet_neg ?_ (fun K hK => ?_))
         · rfl
         simp only [Act.put, List.setIfInBounds_toArray, List.set_cons_zero, List.set_cons_succ]
         refine hK _ ?_; clear hK K))
    with_reducible refine wpQuiet_nil ?_
    intro wz hwz'
    replace hS := hS.step hwz'
    clear C0 C1 C2 C3 C4 C5 hwz' HB HL HM
    go_wp2_with fail
    refine (sign_any z _).mono ?_
    rintro e w2 ⟨rfl, rfl⟩
    go_wp2_with fail
    go_ret
    exact ⟨by rw [H.out]; rfl, hS.bl⟩
  case pos =>
    subst hz0
    have HLN : Hid (lenR fs ids = lenR fs jds) := by have := HZ.out; unfold Hid; omega
    obtain ⟨y, hy⟩ : ∃ y, y = (ids.length : Int) - (jds.length : Int) := ⟨_, rfl⟩
    have iy : IntKind.i64.wrap ((ids.length : Int) - (jds.length : Int)) = y := by rw [hy]; exact IntWalk.i64_in _ (by omega)
    have HY := hid hy
    clear hy
    go_enter Try.func172, Try.ntmps172
    go_wp2_with fail
    generalize (((w.alloc (.cells #[.slice A n c, .slice A' m d] 27)).alloc (.cells #[.int .i64 s, .slice R ids.length er] 35)).alloc (.cells #[.int .i64 t, .slice Q jds.length eq] 35)) = W0 at *
    have C0 : ∀ w', Cls W0 w' → w'.cell? ⟨w.heap.size, 0, none⟩ = some (.slice A n c) := fun _ h => h.cell (hS.cell 2 0 rfl rfl)
    have C1 : ∀ w', Cls W0 w' → w'.cell? ⟨w.heap.size, 1, none⟩ = some (.slice A' m d) := fun _ h => h.cell (hS.cell 2 1 rfl rfl)
    have C2 : ∀ w', Cls W0 w' → w'.cell? ⟨w.heap.size + 1, 0, none⟩ = some (.int .i64 s) := fun _ h => h.cell (hS.cell 1 0 rfl rfl)
    have C3 : ∀ w', Cls W0 w' → w'.cell? ⟨w.heap.size + 1, 1, none⟩ = some (.slice R ids.length er) := fun _ h => h.cell (hS.cell 1 1 rfl rfl)
    have C4 : ∀ w', Cls W0 w' → w'.cell? ⟨w.heap.size + 1 + 1, 0, none⟩ = some (.int .i64 t) := fun _ h => h.cell (hS.cell 0 0 rfl rfl)
    have C5 : ∀ w', Cls W0 w' → w'.cell? ⟨w.heap.size + 1 + 1, 1, none⟩ = some (.slice Q jds.length eq) := fun _ h => h.cell (hS.cell 0 1 rfl rfl)
    have HB : Hid (Cls w W0) := hS.bl
    refine region_cls (by kernel_rfl) (by kernel_rfl) ?_
    repeat (first
      | ((with_reducible refine quiet_pos ?_ (fun K hK => ?_))
         · rfl
         apply Exists.intro
         refine ⟨fun w' hw' => ?_, ?_⟩
         · go_simp
           first
             | with_reducible rfl
             | (go_at_call 190; with_reducible exact hw'.call (HL.out _ (HB.out.onto hw')))
             | (go_at_call 190; with_reducible exact hw'.call (HM.out _ (HB.out.onto hw')))
         simp only [Act.put, List.setIfInBounds_toArray, List.set_cons_zero, List.set_cons_succ]
         refine hK _ ?_; clear hK K)
      | ((with_reducible refine quiet_neg ?_ (fun K hK => ?_))
         · rfl
         simp only [Act.put, List.setIfInBounds_toArray, List.set_cons_zero, List.set_cons_succ]
         refine hK _ ?_; clear hK K))
    with_reducible refine wpQuiet_nil ?_
    intro wz hwz'
    replace hS := hS.step hwz'
    clear C0 C1 C2 C3 C4 C5 hwz' HB HL HM
    have q0 := hS.cell 2 0 rfl rfl
    have q1 := hS.cell 2 1 rfl rfl
    have q2 := hS.cell 1 0 rfl rfl
    have q3 := hS.cell 1 1 rfl rfl
    have q4 := hS.cell 0 0 rfl rfl
    have q5 := hS.cell 0 1 rfl rfl
    by_cases hy0 : y = 0
    case neg =>
      have H : Hid (ordR fs s ids t jds = sgnI y) := by unfold Hid; rw [ordR_num HLN.out (by have := HY.out; omega), ← HY.out]
      have hy1 : (y == 0) = false := by simp [hy0]
      have hy2 : (y != 0) = true := by simp [hy0]
      go_wp2_with fail
      refine (sign_any y _).mono ?_
      rintro e w2 ⟨rfl, rfl⟩
      go_wp2_with fail
      go_ret
      exact ⟨by rw [H.out]; rfl, hS.bl⟩
    case pos =>
      subst hy0
      have HN : Hid (ids.length = jds.length) := by have := HY.out; unfold Hid; omega
      have HS : Hid (Led w _ [tBlk (w.heap.size + 1 + 1) 35 #[.int .i64 t, .slice Q jds.length eq], tBlk (w.heap.size + 1) 35 #[.int .i64 s, .slice R ids.length er], tBlk w.heap.size 27 #[.slice A n c, .slice A' m d]]) := hS
      clear hS
      go_wp2_with fail
      clear q0 q1 q2 q3 q4 q5
      go_loopw [9] (fun i wr => ∃ k : Nat, k ≤ ids.length ∧ i = .int .i64 k ∧ Hid (ids.take k = jds.take k) ∧ Hid (Led w wr [tBlk (w.heap.size + 1 + 1) 35 #[.int .i64 t, .slice Q jds.length eq], tBlk (w.heap.size + 1) 35 #[.int .i64 s, .slice R ids.length er], tBlk w.heap.size 27 #[.slice A n c, .slice A' m d]])) (fun i _ => ids.length - (intOf i).toNat)
      case atStart => exact ⟨0, Nat.zero_le _, rfl, rfl, HS⟩
      case round =>
        clear HS
        obtain ⟨k, hk, rfl, hsame, HS⟩ := hrel
        have p1 := HS.out.cell 1 1 rfl rfl
        have p3 := HS.out.cell 0 1 rfl rfl
        by_cases hlt : k < ids.length
        · have hlt2 : k < jds.length := by have := HN.out; omega
          obtain ⟨b, o, rfl, _, hc⟩ := HR.out.2.at_ hlt
          obtain ⟨b2, o2, rfl, _, hd⟩ := HQ.out.2.at_ hlt2
          obtain ⟨x, hxk⟩ := get_of (k := k) rfl hlt
          obtain ⟨y, hyk⟩ := get_of (k := k) rfl hlt2
          have e0 := bl_cell HS.out.bl (hc k x hxk 0 _ rfl)
          have e1 := bl_cell HS.out.bl (hd k y hyk 0 _ rfl)
          simp only [elInt, Nat.mul_one, Nat.add_zero] at e0 e1
          have hx := HI.out x (List.mem_of_getElem? hxk)
          have hy := HJ.out y (List.mem_of_getElem? hyk)
          rw [hlf.out] at hx hy
          have HX := hid hxk
          have HY := hid hyk
          have P1 : ∀ w', Cls wr w' → w'.cell? ⟨w.heap.size + 1, 1, none⟩ = some (.slice (some ⟨b, o, none⟩) ids.length er) := fun _ h => h.cell p1
          have P3 : ∀ w', Cls wr w' → w'.cell? ⟨w.heap.size + 1 + 1, 1, none⟩ = some (.slice (some ⟨b2, o2, none⟩) jds.length eq) := fun _ h => h.cell p3
          have E0 : ∀ w', Cls wr w' → w'.cell? ⟨b, o + k, none⟩ = some (.int .i64 x) := fun _ h => h.cell e0
          have E1 : ∀ w', Cls wr w' → w'.cell? ⟨b2, o2 + k, none⟩ = some (.int .i64 y) := fun _ h => h.cell e1
          have ik : (k : Int) < (ids.length : Int) := by omega
          have ik2 : (k : Int) < (jds.length : Int) := by omega
          clear hc hd hxk hyk e0 e1 p3
          cases gxy : (x == y)
          · have hne : x ≠ y := by simpa using gxy
            have H : Hid (ordR fs s ids t jds = sgnI (x - y)) := by
              have e := cmpL_at hsame.out HX.out HY.out hne
              have hs1 : sgnI (x - y) ≠ 0 := by rw [sgn_cmp]; intro h; exact hne (cmpB_zero.1 h)
              unfold Hid
              rw [ordR_list HLN.out HN.out (by rw [e]; exact hs1), e]
            have iz : IntKind.i64.wrap (x - y) = x - y := IntWalk.i64_in _ (by omega)
            go_wp2
            refine region_cls (by kernel_rfl) (by kernel_rfl) ?_
            repeat (first
              | ((with_reducible refine quiet_pos ?_ (fun K hK => ?_))
                 · rfl
                 apply Exists.intro
                 refine ⟨fun w' hw' => ?_, ?_⟩
                 · go_simp
                   with_reducible rfl
                 simp only [Act.put, List.setIfInBounds_toArray, List.set_cons_zero, List.set_cons_succ]
                 refine hK _ ?_; clear hK K)
              | ((with_reducible refine quiet_neg ?_ (fun K hK => ?_))
                 · rfl
                 simp only [Act.put, List.setIfInBounds_toArray, List.set_cons_zero, List.set_cons_succ]
                 refine hK _ ?_; clear hK K))
            with_reducible refine wpQuiet_nil ?_
            intro wz hwz'
            have P1' : ∀ w', Cls wz w' → w'.cell? ⟨w.heap.size + 1, 1, none⟩ = some (.slice (some ⟨b, o, none⟩) ids.length er) := fun _ h => P1 _ (hwz'.onto h)
            have P3' : ∀ w', Cls wz w' → w'.cell? ⟨w.heap.size + 1 + 1, 1, none⟩ = some (.slice (some ⟨b2, o2, none⟩) jds.length eq) := fun _ h => P3 _ (hwz'.onto h)
            have E0' : ∀ w', Cls wz w' → w'.cell? ⟨b, o + k, none⟩ = some (.int .i64 x) := fun _ h => E0 _ (hwz'.onto h)
            have E1' : ∀ w', Cls wz w' → w'.cell? ⟨b2, o2 + k, none⟩ = some (.int .i64 y) := fun _ h => E1 _ (hwz'.onto h)
            have hbz := hid (HS.out.step hwz').bl
            clear P1 P3 E0 E1 hwz' p1 HS
            go_wp2
            refine region_cls (by kernel_rfl) (by kernel_rfl) ?_
            repeat (first
              | ((with_reducible refine quiet_pos ?_ (fun K hK => ?_))
                 · rfl
                 apply Exists.intro
                 refine ⟨fun w' hw' => ?_, ?_⟩
                 · go_simp
                   first
                     | with_reducible rfl
                     | (go_at_call 191; with_reducible exact hw'.same (sign_any _ _))
                 simp only [Act.put, List.setIfInBounds_toArray, List.set_cons_zero, List.set_cons_succ]
                 refine hK _ ?_; clear hK K)
              | ((with_reducible refine quiet_neg ?_ (fun K hK => ?_))
                 · rfl
                 simp only [Act.put, List.setIfInBounds_toArray, List.set_cons_zero, List.set_cons_succ]
                 refine hK _ ?_; clear hK K))
            with_reducible refine wpQuiet_nil ?_
            intro wz hwz'
            have hbz2 := bl_then hbz.out hwz'
            go_wp2
            go_ret
            exact ⟨by rw [H.out]; rfl, hbz2⟩
          · have hxy : x = y := by simpa using gxy
            have HN2 : Hid (ids.take (k + 1) = jds.take (k + 1)) := by unfold Hid; rw [List.take_add_one, List.take_add_one, HX.out, HY.out, hsame.out, hxy]
            clear hxy
            go_wp2
            refine region_cls (by kernel_rfl) (by kernel_rfl) ?_
            repeat (first
              | ((with_reducible refine quiet_pos ?_ (fun K hK => ?_))
                 · rfl
                 apply Exists.intro
                 refine ⟨fun w' hw' => ?_, ?_⟩
                 · go_simp
                   with_reducible rfl
                 simp only [Act.put, List.setIfInBounds_toArray, List.set_cons_zero, List.set_cons_succ]
                 refine hK _ ?_; clear hK K)
              | ((with_reducible refine quiet_neg ?_ (fun K hK => ?_))
                 · rfl
                 simp only [Act.put, List.setIfInBounds_toArray, List.set_cons_zero, List.set_cons_succ]
                 refine hK _ ?_; clear hK K))
            with_reducible refine wpQuiet_nil ?_
            intro wz hwz'
            have HS2 := hid (HS.out.step hwz')
            clear P1 P3 E0 E1 hwz' p1 HS
            go_wp2
            exact ⟨⟨k + 1, by omega, by go_num, HN2, HS2⟩, by simp [intOf]; omega⟩
        · have hkx : k = ids.length := by omega
          have HE : Hid (ids = jds) := by
            have h1 := hsame.out
            rw [hkx, List.take_length] at h1
            unfold Hid
            rw [h1]
            exact List.take_of_length_le (by have := HN.out; omega)
          have H : Hid (ordR fs s ids t jds = sgnI (s - t)) := by unfold Hid; rw [← HE.out]; exact ordR_start
          have p0 := HS.out.cell 1 0 rfl rfl
          have p2 := HS.out.cell 0 0 rfl rfl
          have iz : IntKind.i64.wrap (s - t) = s - t := IntWalk.i64_in _ (by omega)
          clear hkx hsame
          go_wp2_with fail
          refine (sign_any _ _).mono ?_
          rintro e w2 ⟨rfl, rfl⟩
          go_wp2_with fail
          go_ret
          exact ⟨by rw [H.out]; rfl, HS.out.bl⟩
/-- CompareRoutes. -/
def crB (xs : List ByteArray) (fs : List Fib) (s : Int) (a : List Int) (t : Int) (b : List Int) : Bool := routeB xs fs s a && routeB xs fs t b
def crI (xs : List ByteArray) (fs : List Fib) (s : Int) (a : List Int) (t : Int) (b : List Int) : Int := if crB xs fs s a t b then ordR fs s a t b else 0
theorem routeB_start {xs : List ByteArray} {fs : List Fib} {s : Int} {a : List Int} (h : routeB xs fs s a = true) : 0 ≤ s ∧ s ≤ 1048576 := by
  obtain ⟨hg, hr⟩ := routeB_good h
  have h1 := inB_idx (rtB_parts hr).1
  have := (goodB_bd hg).2.1
  omega
set_option maxHeartbeats 2000000 in
set_option maxRecDepth 100000 in
theorem implCompareRoutes (w : World) (h : NetIs w A n c A' m d xs fs) (hr : RtIs w R ids.length er ids) (hq : RtIs w Q jds.length eq jds) :
    Calls Try.prog 16 #[.agg #[.slice A n c, .slice A' m d], .agg #[.int .i64 s, .slice R ids.length er], .agg #[.int .i64 t, .slice Q jds.length eq]] w fun e w' => e = .returned (.tuple #[.int .i64 (crI xs fs s ids t jds), .bool (crB xs fs s ids t jds)]) ∧ Below w.heap.size w w' := by
  have hS := (((Led.nil w).blk_ w.heap.size rfl 27 #[.slice A n c, .slice A' m d]).blk_ (w.heap.size + 1) (by simp) 35 #[.int .i64 s, .slice R ids.length er]).blk_ (w.heap.size + 1 + 1) (by simp) 35 #[.int .i64 t, .slice Q jds.length eq]
  have HB : Hid (crB xs fs s ids t jds = (routeB xs fs s ids && routeB xs fs t jds)) := rfl
  cases g : (routeB xs fs s ids && routeB xs fs t jds)
  · have H : Hid (crI xs fs s ids t jds = 0) := by unfold Hid crI crB; rw [g]; rfl
    rw [HB.out, g]
    go_enter Try.func16, Try.ntmps16
    go_wp2_with fail
    refine (areRoutes_any _ (h.grow hS.bl) (hr.grow hS.bl) (hq.grow hS.bl)).mono ?_
    rintro e w1 ⟨rfl, hb⟩
    rw [g]
    go_wp2_with fail
    go_ret2
    exact ⟨by rw [H.out]; rfl, bl_then hS.bl hb⟩
  · have H : Hid (crI xs fs s ids t jds = ordR fs s ids t jds) := by unfold Hid crI crB; rw [g]; rfl
    rw [HB.out, g]
    have g' := g
    rw [Bool.and_eq_true] at g'
    obtain ⟨hg, hr1⟩ := routeB_good g'.1
    have hr2 := (routeB_good g'.2).2
    have HL := hid (goodB_lens hg)
    have HI := hid (rtB_mem hr1)
    have HJ := hid (rtB_mem hr2)
    clear g' hg hr1 hr2
    go_enter Try.func16, Try.ntmps16
    go_wp2_with fail
    refine (areRoutes_any _ (h.grow hS.bl) (hr.grow hS.bl) (hq.grow hS.bl)).mono ?_
    rintro e w1 ⟨rfl, hb⟩
    rw [g]
    replace hS := hS.step hb
    have q0 := hS.cell 2 0 rfl rfl
    have q1 := hS.cell 2 1 rfl rfl
    have q2 := hS.cell 1 0 rfl rfl
    have q3 := hS.cell 1 1 rfl rfl
    have q4 := hS.cell 0 0 rfl rfl
    have q5 := hS.cell 0 1 rfl rfl
    go_wp2_with fail
    refine (compareRoutes_any _ (h.grow hS.bl) (hr.grow hS.bl) (hq.grow hS.bl) HL.out HI.out HJ.out).mono ?_
    rintro e w2 ⟨rfl, hb2⟩
    go_wp2_with fail
    go_ret2
    exact ⟨by rw [H.out]; rfl, bl_then hS.bl hb2⟩
end
end Go.Proofs.Ytfepilpllfiegaa
