/- Lemmas and walks that the claim rests on, laid together. Conditions: none. -/
import Derived.Test.YtgoegldffjfmdaaGreatRows
import Derived.Test.YtgoegldffjfmdaaGreatZ437c20ac4139
import Derived.Test.YtgoegldffjfmdaaGreatZa514eb999546
/- What an append leaves, in the words of Owns and Below. Conditions: none. -/
namespace Go.Proofs.YtgoegldffjfmdaaGreat
open Go.RowKit
theorem Owns.appended {α : Type} {E : El α} {w : World} {base : Nat} {e : TypeId} {v : Value} {xs : List α} {x : α} (h : w.ownsRow base e E.sz v (xs.length + 1) (xs.flatMap E.cells ++ E.cells x)) : Owns E w base e v (xs ++ [x]) := by
  unfold Owns; simpa using h
theorem Owns.sees {α : Type} {E : El α} {w : World} {base n c : Nat} {A : Option Addr} {e : TypeId} {xs : List α} (h : Owns E w base e (.slice A n c) xs) : Sees E w w.heap.size A xs.length xs := by
  obtain ⟨A', c', hv, _, _, hs⟩ := h.form
  injection hv with h1 h2 h3
  rw [h1]; exact hs
theorem bl_grown {w0 w w' : World} {v : Value} (hb : Below w0.heap.size w0 w) (hg : w.grownBy w' v.ownBlock) (hv : ∀ g, v.ownBlock = some g → w0.heap.size ≤ g) : Below w0.heap.size w0 w' :=
  hb.trans ⟨hg.os, hg.tape, hg.output, hg.size, fun k hk => hg.block k (Nat.lt_of_lt_of_le hk hb.size) (fun e => by have := hv k e.symm; omega)⟩
/-- Those of the first k numbers that pass p. -/
def idsTo (p : Nat → Bool) (k : Nat) : List Int := ((List.range k).filter p).map fun (j : Nat) => (j : Int)
theorem idsTo_zero (p : Nat → Bool) : idsTo p 0 = [] := rfl
theorem idsTo_yes {p : Nat → Bool} {k : Nat} (h : p k = true) : idsTo p (k + 1) = idsTo p k ++ [(k : Int)] := by simp [idsTo, List.range_succ, List.filter_append, h]
theorem idsTo_no {p : Nat → Bool} {k : Nat} (h : p k = false) : idsTo p (k + 1) = idsTo p k := by simp [idsTo, List.range_succ, List.filter_append, h]
theorem idsTo_len (p : Nat → Bool) (k : Nat) : (idsTo p k).length ≤ k := by
  unfold idsTo
  rw [List.length_map]
  exact Nat.le_trans (List.length_filter_le _ _) (by simp)
theorem idsTo_congr {p q : Nat → Bool} {k : Nat} (h : ∀ j, j < k → p j = q j) : idsTo p k = idsTo q k := by
  induction k with
  | zero => rfl
  | succ k ih =>
    have h1 := ih (fun j hj => h j (by omega))
    cases g : q k
    · rw [idsTo_no g, idsTo_no ((h k (by omega)).trans g), h1]
    · rw [idsTo_yes g, idsTo_yes ((h k (by omega)).trans g), h1]
theorem one_new (w : World) (x : Value) (t : TypeId) {b : Nat} (hb : b = w.heap.size) : ∀ j u, [x][j]? = some u → (w.alloc (.cells #[x] t)).cell? ((⟨b, 0, none⟩ : Addr).add j) = some u := by
  subst hb
  intro j u hj
  match j, hj with
  | 0, hj => simp at hj; subst hj; simp [Addr.add]
theorem int_info : (Tryz.prog.info? 3).map (fun i => (i.zero, i.size, i.bytes)) = some (some (.int .i64 0), 1, 8) := by kernel_rfl
end Go.Proofs.YtgoegldffjfmdaaGreat
/- Routes: the nodes they come by, in plain Lean; a route in memory. Conditions: none. -/
namespace Go.Proofs.YtgoegldffjfmdaaGreat
open Go.RowKit
/-- The node after k fibers. -/
def atW (fs : List Fib) (s : Int) (ids : List Int) : Nat → Int
  | 0 => s
  | k + 1 => otherF (fs.getD (ids.getD k 0).toNat ⟨0, 0, 0, 0⟩) (atW fs s ids k)
/-- The nodes up to there. -/
def outW (fs : List Fib) (s : Int) (ids : List Int) (k : Nat) : List Int := (List.range (k + 1)).map (atW fs s ids)
theorem outW_len (fs : List Fib) (s : Int) (ids : List Int) (k : Nat) : (outW fs s ids k).length = k + 1 := by simp [outW]
theorem outW_zero (fs : List Fib) (s : Int) (ids : List Int) : outW fs s ids 0 = [s] := rfl
theorem outW_succ (fs : List Fib) (s : Int) (ids : List Int) (k : Nat) : outW fs s ids (k + 1) = outW fs s ids k ++ [atW fs s ids (k + 1)] := by unfold outW; rw [List.range_succ (n := k + 1), List.map_append]; rfl
theorem outW_get (fs : List Fib) (s : Int) (ids : List Int) (k : Nat) : (outW fs s ids k)[k]? = some (atW fs s ids k) := by simp [outW]
theorem atW_succ {fs : List Fib} {s : Int} {ids : List Int} {k : Nat} {i : Int} {f : Fib} (hi : ids[k]? = some i) (hf : fs[i.toNat]? = some f) : atW fs s ids (k + 1) = otherF f (atW fs s ids k) := by
  show otherF _ _ = _
  rw [getD_of hi, getD_of hf]
/-- Step k is one that a route may take. -/
def okW (m : Nat) (fs : List Fib) (s : Int) (ids : List Int) (k : Nat) : Bool :=
  inB 0 ((m : Int) - 1) (ids.getD k 0) && (!decide (atW fs s ids (k + 1) < 0) && !hasB (outW fs s ids k) (atW fs s ids (k + 1)))
/-- Is it a route (of a network that is valid)? -/
def rtB (n : Nat) (fs : List Fib) (s : Int) (ids : List Int) : Bool := inB 0 ((n : Int) - 1) s && (!(ids.length == 0) && allB (okW fs.length fs s ids) ids.length)
/-- Its nodes; none of what is no route. -/
def rtL (n : Nat) (fs : List Fib) (s : Int) (ids : List Int) : List Int := if rtB n fs s ids then outW fs s ids ids.length else []
theorem rtL_yes {n : Nat} {fs : List Fib} {s : Int} {ids : List Int} (h : rtB n fs s ids = true) : rtL n fs s ids = outW fs s ids ids.length := if_pos h
theorem rtL_no {n : Nat} {fs : List Fib} {s : Int} {ids : List Int} (h : rtB n fs s ids = false) : rtL n fs s ids = [] := by unfold rtL; rw [h]; rfl
/-- .. of a network that may be invalid. -/
def routeB (xs : List ByteArray) (fs : List Fib) (s : Int) (ids : List Int) : Bool := goodB xs fs && rtB xs.length fs s ids
/-- A route lies in memory. -/
def RtIs (w : World) (R : Option Addr) (k e : Nat) (ids : List Int) : Prop := (k ≤ e ∧ k ≤ 1048576) ∧ Sees elInt w w.heap.size R k ids
section
variable {w w' : World} {R : Option Addr} {k e : Nat} {ids : List Int}
theorem RtIs.grow (h : RtIs w R k e ids) (hb : Below w.heap.size w w') : RtIs w' R k e ids := ⟨h.1, (h.2.grow hb).more hb.size⟩
theorem RtIs.len (h : RtIs w R k e ids) : ids.length = k := h.2.len
theorem RtIs.le (h : RtIs w R k e ids) : k ≤ 1048576 := h.1.2
end
end Go.Proofs.YtgoegldffjfmdaaGreat
/- Lists of numbers: slices.Index, slices.Contains, l1Has, l1Rising, isSet, toIntS, walked. Conditions: none (toIntS: at most 1048576). -/
namespace Go.Proofs.YtgoegldffjfmdaaGreat
open Go.RowKit
section
variable {B n c : Nat} {A : Option Addr} {xs : List Int}
theorem indexI_any (s : Int) (w : World) (hA : Sees elInt w B A n xs) (hn : n ≤ maxLen) :
    Calls Tryz.prog 95 #[.slice A n c, .int .i64 s] w fun e w' => e = .returned (.int .i64 (findI xs s)) ∧ w = w' := by
  unfold maxLen at hn
  go_enter Tryz.func95, Tryz.ntmps95
  go_wp2
  go_loop [8] (fun i => ∃ k : Nat, k ≤ n ∧ i = .int .i64 k ∧ Hid (noneTo xs s k)) (fun i => n - (intOf i).toNat)
  case atStart => exact ⟨0, Nat.zero_le _, rfl, noneTo_zero⟩
  case round =>
    obtain ⟨k, hk, rfl, hno⟩ := hrel
    by_cases hlt : k < n
    · obtain ⟨b, o, rfl, _, hx⟩ := hA.at_ hlt
      obtain ⟨x, hxk⟩ : ∃ x, xs[k]? = some x := ⟨xs[k]'(by rw [hA.len]; exact hlt), List.getElem?_eq_getElem _⟩
      have hc := hx k x hxk 0 _ rfl
      simp only [elInt, Nat.mul_one, Nat.add_zero] at hc
      clear hx
      by_cases heq : x = s
      · subst heq
        have HF := hid (findI_at hno hxk)
        clear hxk
        go_wp2
        go_ret
        exact ⟨by rw [HF.out]; rfl, rfl⟩
      · have hne : (s == x) = false := by simp; exact fun e => heq e.symm
        have HN := hid (noneTo_succ hno hxk heq)
        clear hxk hno
        go_wp2
        go_round
        case rel => exact ⟨k + 1, by omega, by go_num, HN⟩
        case measure => simp [intOf]; omega
    · have HF : Hid (findI xs s = -1) := findI_none hA.len (by obtain rfl : k = n := (by omega); exact hno.out)
      go_wp2
      go_ret
      exact ⟨by rw [HF.out]; rfl, rfl⟩
theorem containsI_any (s : Int) (w : World) (hA : Sees elInt w B A n xs) (hn : n ≤ maxLen) :
    Calls Tryz.prog 63 #[.slice A n c, .int .i64 s] w fun e w' => e = .returned (.bool (hasB xs s)) ∧ w = w' := by
  go_enter Tryz.func63, Tryz.ntmps63
  go_wp2_with (go_at_call 95; refine (indexI_any s _ hA hn).mono ?_; rintro e w' ⟨rfl, rfl⟩)
  go_ret
  exact ⟨rfl, rfl⟩
theorem l1Has_any (s : Int) (w : World) (hA : Sees elInt w B A n xs) (hn : n ≤ maxLen) :
    Calls Tryz.prog 86 #[.slice A n c, .int .i64 s] w fun e w' => e = .returned (.bool (hasB xs s)) ∧ w = w' := by
  unfold maxLen at hn
  go_enter Tryz.func86, Tryz.ntmps86
  go_wp2
  go_loop [5] (fun i => ∃ k : Nat, k ≤ n ∧ i = .int .i64 k ∧ Hid (noneTo xs s k)) (fun i => n - (intOf i).toNat)
  case atStart => exact ⟨0, Nat.zero_le _, rfl, noneTo_zero⟩
  case round =>
    obtain ⟨k, hk, rfl, hno⟩ := hrel
    by_cases hlt : k < n
    · obtain ⟨b, o, rfl, _, hx⟩ := hA.at_ hlt
      obtain ⟨x, hxk⟩ : ∃ x, xs[k]? = some x := ⟨xs[k]'(by rw [hA.len]; exact hlt), List.getElem?_eq_getElem _⟩
      have hc := hx k x hxk 0 _ rfl
      simp only [elInt, Nat.mul_one, Nat.add_zero] at hc
      clear hx
      by_cases heq : x = s
      · subst heq
        have HF : Hid (hasB xs x = true) := hasB_iff.2 (List.mem_of_getElem? hxk)
        clear hxk
        go_wp2
        go_ret
        exact ⟨by rw [HF.out]; rfl, rfl⟩
      · have hne : (x == s) = false := by simp; exact heq
        have HN := hid (noneTo_succ hno hxk heq)
        clear hxk hno
        go_wp2
        go_round
        case rel => exact ⟨k + 1, by omega, by go_num, HN⟩
        case measure => simp [intOf]; omega
    · have HF : Hid (hasB xs s = false) := by
        unfold Hid
        cases g : hasB xs s
        · rfl
        · exact absurd (hasB_iff.1 g) (noneTo_not hA.len (by obtain rfl : k = n := (by omega); exact hno.out))
      go_wp2
      go_ret
      exact ⟨by rw [HF.out]; rfl, rfl⟩
/-- Number k lies within bounds and above the one before it. -/
def riseAt (lo hi : Int) (xs : List Int) (k : Nat) : Bool := inB lo hi (xs.getD k 0) && !(decide (0 < k) && decide (xs.getD k 0 ≤ xs.getD (k - 1) 0))
def risB (lo hi : Int) (xs : List Int) : Bool := allB (riseAt lo hi xs) xs.length
set_option maxHeartbeats 1000000 in
set_option maxRecDepth 100000 in
theorem l1Rising_any (lo hi : Int) (w : World) (hA : Sees elInt w B A n xs) (hn : n ≤ 1048576) :
    Calls Tryz.prog 26 #[.slice A n c, .int .i64 lo, .int .i64 hi] w fun e w' => e = .returned (.bool (risB lo hi xs)) ∧ Below w.heap.size w w' := by
  have hl := hA.len
  go_enter Tryz.func26, Tryz.ntmps26
  go_wp2
  go_loopw [7] (fun i wr => ∃ k : Nat, k ≤ n ∧ i = .int .i64 k ∧ Hid (allTo (riseAt lo hi xs) k) ∧ Below w.heap.size w wr) (fun i _ => n - (intOf i).toNat)
  case atStart => exact ⟨0, Nat.zero_le _, rfl, allTo_zero _, Below.refl _ _⟩
  case round =>
    obtain ⟨k, hk, rfl, hno, hb⟩ := hrel
    by_cases hlt : k < n
    · obtain ⟨b, o, rfl, _, hx⟩ := hA.at_ hlt
      obtain ⟨x, hxk⟩ := get_of (k := k) hl hlt
      have hc := bl_cell hb (hx k x hxk 0 _ rfl)
      simp only [elInt, Nat.mul_one, Nat.add_zero] at hc
      have T0 : ∀ w', Cls wr w' → w'.cell? ⟨b, o + k, none⟩ = some (.int .i64 x) := fun _ h => h.cell hc
      have iz : (k : Int) < (n : Int) := by omega
      cases g1 : inB lo hi x
      · have HF : Hid (risB lo hi xs = false) := allB_no (k := k) (by omega) (by unfold riseAt; rw [getD_of hxk, g1]; rfl)
        clear hx hxk hno hl
        go_wp2
        refine region_cls (by kernel_rfl) (by kernel_rfl) ?_
        repeat (first
          | ((with_reducible refine quiet_pos ?_ (fun K hK => ?_))
             · rfl
             apply Exists.intro
             refine ⟨fun w' hw' => ?_, ?_⟩
             · go_simp
               first
                 | with_reducible rfl
                 | (go_at_call 53; exact hw'.same (l1In_any _ _ _ _))
             simp only [Act.put, List.setIfInBounds_toArray, List.set_cons_zero, List.set_cons_succ]
             refine hK _ ?_; clear hK K)
          | ((with_reducible refine quiet_neg ?_ (fun K hK => ?_))
             · rfl
             simp only [Act.put, List.setIfInBounds_toArray, List.set_cons_zero, List.set_cons_succ]
             refine hK _ ?_; clear hK K))
        with_reducible refine wpQuiet_nil ?_
        intro w3 hw3
        go_wp2
        go_ret
        exact ⟨by rw [HF.out]; rfl, bl_then hb hw3⟩
      · by_cases hk0 : 0 < k
        · obtain ⟨y, hyk⟩ := get_of (k := k - 1) hl (by omega)
          have hcy := bl_cell hb (hx (k - 1) y hyk 0 _ rfl)
          simp only [elInt, Nat.mul_one, Nat.add_zero] at hcy
          have i0 : decide ((0 : Nat) < k) = true := decide_eq_true hk0
          have i1 : IntKind.i64.wrap ((k : Int) - 1) = (k : Int) - 1 := IntWalk.i64_in _ (by omega)
          have i2 : (0 : Int) ≤ (k : Int) - 1 := by omega
          have i3 : ((k : Int) - 1).toNat = k - 1 := by omega
          have i4 : (k : Int) - 1 < (n : Int) := by omega
          have i5 : (1 : Int) ≤ (k : Int) := by omega
          have i6 : 1 ≤ k := by omega
          have T1 : ∀ w', Cls wr w' → w'.cell? ⟨b, o + (k - 1), none⟩ = some (.int .i64 y) := fun _ h => h.cell hcy
          cases g2 : decide (x ≤ y)
          · have HN : Hid (allTo (riseAt lo hi xs) (k + 1)) := allTo_succ hno.out (by unfold riseAt; rw [getD_of hxk, getD_of hyk, g1, g2, i0]; rfl)
            clear hx hxk hyk hno hl
            go_wp2
            refine region_cls (by kernel_rfl) (by kernel_rfl) ?_
            repeat (first
              | ((with_reducible refine quiet_pos ?_ (fun K hK => ?_))
                 · rfl
                 apply Exists.intro
                 refine ⟨fun w' hw' => ?_, ?_⟩
                 · go_simp
                   first
                     | with_reducible rfl
                     | (go_at_call 53; exact hw'.same (l1In_any _ _ _ _))
                 simp only [Act.put, List.setIfInBounds_toArray, List.set_cons_zero, List.set_cons_succ]
                 refine hK _ ?_; clear hK K)
              | ((with_reducible refine quiet_neg ?_ (fun K hK => ?_))
                 · rfl
                 simp only [Act.put, List.setIfInBounds_toArray, List.set_cons_zero, List.set_cons_succ]
                 refine hK _ ?_; clear hK K))
            with_reducible refine wpQuiet_nil ?_
            intro w3 hw3
            go_wp2
            go_roundw
            case rel => exact ⟨k + 1, by omega, by go_num, HN, bl_then hb hw3⟩
            case measure => simp [intOf]; omega
          · have HF : Hid (risB lo hi xs = false) := allB_no (k := k) (by omega) (by unfold riseAt; rw [getD_of hxk, getD_of hyk, g1, g2, i0]; rfl)
            clear hx hxk hyk hno hl
            go_wp2
            refine region_cls (by kernel_rfl) (by kernel_rfl) ?_
            repeat (first
              | ((with_reducible refine quiet_pos ?_ (fun K hK => ?_))
                 · rfl
                 apply Exists.intro
                 refine ⟨fun w' hw' => ?_, ?_⟩
                 · go_simp
                   first
                     | with_reducible rfl
                     | (go_at_call 53; exact hw'.same (l1In_any _ _ _ _))
                 simp only [Act.put, List.setIfInBounds_toArray, List.set_cons_zero, List.set_cons_succ]
                 refine hK _ ?_; clear hK K)
              | ((with_reducible refine quiet_neg ?_ (fun K hK => ?_))
                 · rfl
                 simp only [Act.put, List.setIfInBounds_toArray, List.set_cons_zero, List.set_cons_succ]
                 refine hK _ ?_; clear hK K))
            with_reducible refine wpQuiet_nil ?_
            intro w3 hw3
            go_wp2
            go_ret
            exact ⟨by rw [HF.out]; rfl, bl_then hb hw3⟩
        · have hk00 : k = 0 := by omega
          have e6 : decide (0 < k) = false := by simp; omega
          have HN : Hid (allTo (riseAt lo hi xs) (k + 1)) := allTo_succ hno.out (by unfold riseAt; rw [getD_of hxk, g1, e6]; rfl)
          clear hx hxk hno hl hk0 hk00
          go_wp2
          refine region_cls (by kernel_rfl) (by kernel_rfl) ?_
          repeat (first
            | ((with_reducible refine quiet_pos ?_ (fun K hK => ?_))
               · rfl
               apply Exists.intro
               refine ⟨fun w' hw' => ?_, ?_⟩
               · go_simp
                 first
                   | with_reducible rfl
                   | (go_at_call 53; exact hw'.same (l1In_any _ _ _ _))
               simp only [Act.put, List.setIfInBounds_toArray, List.set_cons_zero, List.set_cons_succ]
               refine hK _ ?_; clear hK K)
            | ((with_reducible refine quiet_neg ?_ (fun K hK => ?_))
               · rfl
               simp only [Act.put, List.setIfInBounds_toArray, List.set_cons_zero, List.set_cons_succ]
               refine hK _ ?_; clear hK K))
          with_reducible refine wpQuiet_nil ?_
          intro w3 hw3
          go_wp2
          go_roundw
          case rel => exact ⟨k + 1, by omega, by go_num, HN, bl_then hb hw3⟩
          case measure => simp [intOf]; omega
    · have HF : Hid (risB lo hi xs = true) := allB_yes hno.out (by omega)
      go_wp2
      go_ret
      exact ⟨by rw [HF.out]; rfl, hb⟩
set_option maxHeartbeats 1000000 in
set_option maxRecDepth 100000 in
theorem isSet_any (hi : Nat) (w : World) (hA : Sees elInt w B A n xs) (hn : n ≤ 1048576) (hh : hi ≤ 1048576) :
    Calls Tryz.prog 31 #[.slice A n c, .int .i64 hi] w fun e w' => e = .returned (.bool (risB 0 ((hi : Int) - 1) xs)) ∧ w = w' := by
  have hl := hA.len
  go_enter Tryz.func31, Tryz.ntmps31
  go_wp2
  go_loop [9] (fun i => ∃ k : Nat, k ≤ n ∧ i = .int .i64 k ∧ Hid (allTo (riseAt 0 ((hi : Int) - 1) xs) k)) (fun i => n - (intOf i).toNat)
  case atStart => exact ⟨0, Nat.zero_le _, rfl, allTo_zero _⟩
  case round =>
    obtain ⟨k, hk, rfl, hno⟩ := hrel
    by_cases hlt : k < n
    · obtain ⟨b, o, rfl, _, hx⟩ := hA.at_ hlt
      obtain ⟨x, hxk⟩ := get_of (k := k) hl hlt
      have hc := hx k x hxk 0 _ rfl
      simp only [elInt, Nat.mul_one, Nat.add_zero] at hc
      cases g1 : inB 0 ((hi : Int) - 1) x
      · have HF : Hid (risB 0 ((hi : Int) - 1) xs = false) := allB_no (k := k) (by omega) (by unfold riseAt; rw [getD_of hxk, g1]; rfl)
        clear hx hxk hno hl
        go_wp2_with (go_at_call 61; refine (within_any _ _ _ _).mono ?_; rintro e w' ⟨rfl, rfl⟩; rw [g1])
        go_ret
        exact ⟨by rw [HF.out]; rfl, rfl⟩
      · by_cases hk0 : 0 < k
        · obtain ⟨y, hyk⟩ := get_of (k := k - 1) hl (by omega)
          have hcy := hx (k - 1) y hyk 0 _ rfl
          simp only [elInt, Nat.mul_one, Nat.add_zero] at hcy
          have i0 : decide ((0 : Nat) < k) = true := decide_eq_true hk0
          have i1 : IntKind.i64.wrap ((k : Int) - 1) = (k : Int) - 1 := IntWalk.i64_in _ (by omega)
          have i2 : (0 : Int) ≤ (k : Int) - 1 := by omega
          have i3 : ((k : Int) - 1).toNat = k - 1 := by omega
          have i4 : (k : Int) - 1 < (n : Int) := by omega
          have i5 : (1 : Int) ≤ (k : Int) := by omega
          have i6 : 1 ≤ k := by omega
          cases g2 : decide (x ≤ y)
          · have HN : Hid (allTo (riseAt 0 ((hi : Int) - 1) xs) (k + 1)) := allTo_succ hno.out (by unfold riseAt; rw [getD_of hxk, getD_of hyk, g1, g2, i0]; rfl)
            clear hx hxk hyk hno hl
            go_wp2_with (go_at_call 61; refine (within_any _ _ _ _).mono ?_; rintro e w' ⟨rfl, rfl⟩; rw [g1])
            go_round
            case rel => exact ⟨k + 1, by omega, by go_num, HN⟩
            case measure => simp [intOf]; omega
          · have HF : Hid (risB 0 ((hi : Int) - 1) xs = false) := allB_no (k := k) (by omega) (by unfold riseAt; rw [getD_of hxk, getD_of hyk, g1, g2, i0]; rfl)
            clear hx hxk hyk hno hl
            go_wp2_with (go_at_call 61; refine (within_any _ _ _ _).mono ?_; rintro e w' ⟨rfl, rfl⟩; rw [g1])
            go_ret
            exact ⟨by rw [HF.out]; rfl, rfl⟩
        · have e6 : decide (0 < k) = false := by simp; omega
          have HN : Hid (allTo (riseAt 0 ((hi : Int) - 1) xs) (k + 1)) := allTo_succ hno.out (by unfold riseAt; rw [getD_of hxk, g1, e6]; rfl)
          clear hx hxk hno hl hk0
          go_wp2_with (go_at_call 61; refine (within_any _ _ _ _).mono ?_; rintro e w' ⟨rfl, rfl⟩; rw [g1])
          go_round
          case rel => exact ⟨k + 1, by omega, by go_num, HN⟩
          case measure => simp [intOf]; omega
    · have HF : Hid (risB 0 ((hi : Int) - 1) xs = true) := allB_yes hno.out (by omega)
      go_wp2
      go_ret
      exact ⟨by rw [HF.out]; rfl, rfl⟩
theorem toIntS_any (w : World) (hA : Sees elInt w B A n xs) (hn : n ≤ 1048576) :
    Calls Tryz.prog 8 #[.slice A n c] w fun e w' => ∃ v, e = .returned v ∧ Owns elInt w' w.heap.size 3 v xs ∧ Below w.heap.size w w' := by
  obtain ⟨i0, hi, hz0, hz1, hz2⟩ := info_parts int_info
  have hmk := fun W => make_n (P := Tryz.prog) Tryz.underlying26 hi hz0 (n := n) (by rw [hz2]; omega) (by omega) W
  rw [hz1] at hmk
  clear hi hz0 hz1 hz2
  go_enter Tryz.func8, Tryz.ntmps8
  go_wp2
  have hb0 := bl_alloc (Below.refl w.heap.size w) (.cells (madeCells #[.int .i64 0] n) 3)
  have hk0 : Hid (Blk (w.alloc (.cells (madeCells #[.int .i64 0] n) 3)) w.heap.size 3 (madeCells #[.int .i64 0] n)) := Blk.new _ _ _
  have hs0 : Hid ((madeCells #[.int .i64 0] n).size = n) := size_madeCells _ _
  clear hmk
  go_loopw [4] (fun i wr => ∃ (k : Nat) (cur : Array Value), k ≤ n ∧ i = .int .i64 k ∧ Hid (Blk wr w.heap.size 3 cur) ∧ Hid (cur.size = n) ∧ Hid (Filled elInt cur xs k) ∧ Below w.heap.size w wr) (fun i _ => n - (intOf i).toNat)
  case atStart => exact ⟨0, _, Nat.zero_le _, rfl, hk0, hs0, Filled.zero _ _ _, hb0⟩
  case round =>
    clear hb0 hk0 hs0
    obtain ⟨k, cur, hk, rfl, hblk, hsz, hfill, hb⟩ := hrel
    by_cases hlt : k < n
    · obtain ⟨b, o, rfl, _, hc⟩ := hA.at_ hlt
      obtain ⟨x, hxk⟩ := get_of (k := k) hA.len hlt
      have hcx := bl_cell hb (hc k x hxk 0 _ rfl)
      simp only [elInt, Nat.mul_one, Nat.add_zero] at hcx
      obtain ⟨u, hu⟩ := hblk.out.cell_ (i := k) (by rw [hsz.out]; omega)
      have hfz := hblk.out.frozen k
      have HB := hid (hblk.out.set k (.int .i64 x))
      have HS : Hid ((cur.setIfInBounds k (.int .i64 x)).size = n) := by rw [Array.size_setIfInBounds]; exact hsz
      have HF := hid (filled_int hfill.out hxk (by rw [hsz.out]; omega))
      have hb3 := bl_set hb (p := ⟨w.heap.size, k, none⟩) (.int .i64 x) (Nat.le_refl _)
      clear hc hxk hblk hsz hfill
      go_wp2
      go_roundw
      case rel => exact ⟨k + 1, _, by omega, by go_num, HB, HS, HF, hb3⟩
      case measure => simp [intOf]; omega
    · have hkn : k = n := by omega
      have HO := hid (Owns.of_filled (E := elInt) hblk.out (Nat.le_refl _) hA.len (by rw [hsz.out]; exact (Nat.mul_one _).symm) (by simp only [maxLen]; omega) (by rw [← hkn]; exact hfill.out))
      clear hblk hsz hfill
      go_wp2
      go_ret
      exact ⟨_, rfl, HO.out, hb⟩
end
end Go.Proofs.YtgoegldffjfmdaaGreat
/- OtherEnd of the program and of the reference, walked. Conditions: none. -/
namespace Go.Proofs.YtgoegldffjfmdaaGreat
open Go.RowKit
instance : Inhabited ByteArray := ⟨ByteArray.empty⟩
def oeF (fs : List Fib) (i v : Int) : Int := otherF (fs.getD i.toNat default) v
def oeB (xs : List ByteArray) (fs : List Fib) (i v : Int) : Bool := goodB xs fs && inB 0 ((fs.length : Int) - 1) i && !decide (oeF fs i v < 0)
def oeI (xs : List ByteArray) (fs : List Fib) (i v : Int) : Int := if oeB xs fs i v then oeF fs i v else 0
section
variable {n c m d : Nat} {A A' : Option Addr} {xs : List ByteArray} {fs : List Fib}
theorem inB_idx {i : Int} {m : Nat} (h : inB 0 ((m : Int) - 1) i = true) : 0 ≤ i ∧ i < m := by unfold inB at h; simp at h; omega
end
end Go.Proofs.YtgoegldffjfmdaaGreat
/- l4Walk and visited: the nodes of a route, walked. Conditions: none. -/
namespace Go.Proofs.YtgoegldffjfmdaaGreat
open Go.RowKit
theorem filled_one (s : Int) : Filled elInt #[.int .i64 s] [s] 1 := by
  intro j x hj hx i u hu
  obtain rfl : j = 0 := by omega
  simp at hx; subst hx
  match i, hu with
  | 0, hu => simp [elInt] at hu; subst hu; rfl
variable {n c m d kr er : Nat} {A A' R : Option Addr} {xs : List ByteArray} {fs : List Fib} {ids : List Int}
set_option maxHeartbeats 1000000 in
set_option maxRecDepth 100000 in
theorem visited_any (s : Int) (w : World) (h : NetIs w A n c A' m d xs fs) (hr : RtIs w R kr er ids) :
    Calls Tryz.prog 74 #[.agg #[.slice A n c, .slice A' m d], .agg #[.int .i64 s, .slice R kr er]] w fun e w' => ∃ v, e = .returned (.tuple #[v, .bool (rtB n fs s ids)]) ∧ Owns elInt w' w.heap.size 3 v (rtL n fs s ids) ∧ Below w.heap.size w w' := by
  obtain ⟨i0, hi, hz0, hz1, hz2⟩ := info_parts int_info
  have hb1 := bl_alloc (Below.refl w.heap.size w) (.cells #[.slice A n c, .slice A' m d] 34)
  have hb0 := bl_alloc hb1 (.cells #[.int .i64 s, .slice R kr er] 29)
  have hx0 : Blk ((w.alloc (.cells #[.slice A n c, .slice A' m d] 34)).alloc (.cells #[.int .i64 s, .slice R kr er] 29)) w.heap.size 34 #[.slice A n c, .slice A' m d] := (Blk.new _ _ _).alloc _
  have hy0 : Blk ((w.alloc (.cells #[.slice A n c, .slice A' m d] 34)).alloc (.cells #[.int .i64 s, .slice R kr er] 29)) (w.heap.size + 1) 29 #[.int .i64 s, .slice R kr er] := by
    have := Blk.new (w.alloc (.cells #[.slice A n c, .slice A' m d] 34)) 29 #[.int .i64 s, .slice R kr er]
    simpa using this
  have h0 := h.grow hb0
  have hr0 := hr.grow hb0
  have hlx := h.xlen
  have hlf := h.flen
  have hm := h.mle
  have hn := h.nle
  have hlr := hr.len
  have hkr := hr.le
  have hsz0 : ((w.alloc (.cells #[.slice A n c, .slice A' m d] 34)).alloc (.cells #[.int .i64 s, .slice R kr er] 29)).heap.size = w.heap.size + 2 := by simp
  cases g1 : inB 0 ((n : Int) - 1) s
  · have H : Hid (rtB n fs s ids = false) := by unfold Hid rtB; rw [g1]; rfl
    clear hlx hlf hlr
    go_enter Tryz.func74, Tryz.ntmps74
    go_wp2_with (go_at_call 61; refine (within_any _ _ _ _).mono ?_; rintro e w' ⟨rfl, rfl⟩; rw [g1])
    go_ret2
    exact ⟨_, by rw [H.out]; rfl, by rw [rtL_no H.out]; exact World.ownsRow_nil _ _ _ _, hb0⟩
  · by_cases hk0 : kr = 0
    · have H : Hid (rtB n fs s ids = false) := by unfold Hid rtB; rw [g1, hlr, hk0]; rfl
      have e0 : (kr == 0) = true := by simp [hk0]
      have e1 : ((kr : Int) == 0) = true := by simp [hk0]
      clear hlx hlf hlr hk0
      go_enter Tryz.func74, Tryz.ntmps74
      go_wp2_with (go_at_call 61; refine (within_any _ _ _ _).mono ?_; rintro e w' ⟨rfl, rfl⟩; rw [g1])
      go_ret2
      exact ⟨_, by rw [H.out]; rfl, by rw [rtL_no H.out]; exact World.ownsRow_nil _ _ _ _, hb0⟩
    · have e0 : (kr == 0) = false := by simp [hk0]
      have e1 : ((kr : Int) == 0) = false := by simp; omega
      have HB : Hid (rtB n fs s ids = allB (okW m fs s ids) kr) := by unfold Hid rtB; rw [g1, hlr, e0, hlf]; rfl
      clear hlx
      go_enter Tryz.func74, Tryz.ntmps74
      go_wp2_with fail
      refine (within_any _ _ _ _).mono ?_
      rintro e w' ⟨rfl, rfl⟩
      rw [g1]
      go_wp2_with fail
      go_region
      have hbe : Below ((w.alloc (.cells #[.slice A n c, .slice A' m d] 34)).alloc (.cells #[.int .i64 s, .slice R kr er] 29)).heap.size ((w.alloc (.cells #[.slice A n c, .slice A' m d] 34)).alloc (.cells #[.int .i64 s, .slice R kr er] 29)) ((((w.alloc (.cells #[.slice A n c, .slice A' m d] 34)).alloc (.cells #[.int .i64 s, .slice R kr er] 29)).alloc (.cells #[.int .i64 s] 3)).drew) := by
        repeat (first | exact Below.refl _ _ | apply Below.drew | apply bl_alloc)
      have hoe : Hid (Owns elInt ((((w.alloc (.cells #[.slice A n c, .slice A' m d] 34)).alloc (.cells #[.int .i64 s, .slice R kr er] 29)).alloc (.cells #[.int .i64 s] 3)).drew) (w.heap.size + 2) 3 (.slice (some ⟨w.heap.size + 2, 0, none⟩) 1 1) (outW fs s ids 0)) :=
        hid ((show Owns elInt (((w.alloc (.cells #[.slice A n c, .slice A' m d] 34)).alloc (.cells #[.int .i64 s, .slice R kr er] 29)).alloc (.cells #[.int .i64 s] 3)) (w.heap.size + 2) 3 (.slice (some ⟨w.heap.size + 2, 0, none⟩) 1 1) [s] from Owns.of_blk (n := 1) (cap := 1) (cur := #[.int .i64 s]) (by have := Blk.new ((w.alloc (.cells #[.slice A n c, .slice A' m d] 34)).alloc (.cells #[.int .i64 s, .slice R kr er] 29)) 3 #[.int .i64 s]; simpa using this) (Nat.le_refl _) rfl (Nat.le_refl _) rfl (by decide) (filled_one s)).below (Below.drew (Below.refl _ _)))
      have q9 : ((((w.alloc (.cells #[.slice A n c, .slice A' m d] 34)).alloc (.cells #[.int .i64 s, .slice R kr er] 29)).alloc (.cells #[.int .i64 s] 3)).drew).cell? ⟨w.heap.size + 1, 1, none⟩ = some (.slice R kr er) := by
        have := (hy0.below hbe (by omega)).cell 1
        simpa using this
      go_wp2_with fail
      generalize hw0 : ((w.alloc (.cells #[.slice A n c, .slice A' m d] 34)).alloc (.cells #[.int .i64 s, .slice R kr er] 29)) = w0 at *
      clear q9
      go_loopw [6, 7, 32] (fun v a i wr => ∃ (k : Nat) (cu : Int), k ≤ kr ∧ i = .int .i64 k ∧ a = .int .i64 cu ∧ Hid (atW fs s ids k = cu) ∧ Hid (Owns elInt wr (w.heap.size + 2) 3 v (outW fs s ids k)) ∧ Hid (allTo (okW m fs s ids) k) ∧ Below w0.heap.size w0 wr) (fun _ _ i _ => kr - (intOf i).toNat)
      case atStart => exact ⟨0, s, Nat.zero_le _, rfl, rfl, rfl, hoe, allTo_zero _, hbe⟩
      case round =>
        clear hbe hoe
        obtain ⟨k, cu, hk, rfl, rfl, hcu, hown, hall, hb⟩ := hrel
        by_cases hlt : k < kr
        · obtain ⟨b, o, rfl, _, hc⟩ := hr0.2.at_ hlt
          obtain ⟨i, hik⟩ := get_of (k := k) hlr hlt
          have hci := bl_cell hb (hc k i hik 0 _ rfl)
          simp only [elInt, Nat.mul_one, Nat.add_zero] at hci
          have p1 := (hx0.below hb (by omega)).cell 1
          simp at p1
          have hwz := hb.size
          clear hc
          cases g2 : inB 0 ((m : Int) - 1) i
          · have H : Hid (rtB n fs s ids = false) := by unfold Hid; rw [HB.out]; exact allB_no hlt (by unfold okW; rw [getD_of hik, g2]; rfl)
            clear hik hown hall
            go_wp2_with (go_at_call 61; refine (within_any _ _ _ _).mono ?_; rintro e w' ⟨rfl, rfl⟩; rw [g2])
            go_ret2
            exact ⟨_, by rw [H.out]; rfl, by rw [rtL_no H.out]; exact World.ownsRow_nil _ _ _ _, hb0.trans (hb.mono (by omega))⟩
          · obtain ⟨i0', i1'⟩ := inB_idx g2
            obtain ⟨f, hf⟩ := get_of (k := i.toNat) hlf (by omega)
            obtain ⟨bf, of, rfl, _, hcf⟩ := h0.fibs.at_ (k := i.toNat) (by omega)
            have f0 := bl_cell hb (hcf _ f hf 0 _ rfl)
            have f1 := bl_cell hb (hcf _ f hf 1 _ rfl)
            have f2 := bl_cell hb (hcf _ f hf 2 _ rfl)
            have f3 := bl_cell hb (hcf _ f hf 3 _ rfl)
            simp only [elFib, Nat.add_zero] at f0 f1 f2 f3
            have HNX' : Hid (atW fs s ids (k + 1) = otherF f cu) := by unfold Hid; rw [← hcu.out]; exact atW_succ hik hf
            have HC := hid (otherEnd_any f cu wr)
            generalize hnx : otherF f cu = nx at HC HNX'
            have HNX := HNX'
            have hkk : Hid (okW m fs s ids k = (!decide (nx < 0) && !hasB (outW fs s ids k) nx)) := by unfold Hid okW; rw [getD_of hik, g2, HNX.out]; rfl
            clear hik hf hcf hnx hcu HNX'
            go_wp2_with fail
            refine (within_any _ _ _ _).mono ?_
            rintro e w' ⟨rfl, rfl⟩
            rw [g2]
            go_wp2_with fail
            refine HC.out.mono ?_
            rintro e wy ⟨rfl, hby⟩
            have hbz := bl_then hb hby
            have hoz : Hid (Owns elInt _ _ _ _ _) := hown.out.below hby
            obtain ⟨Ao, co, rfl, _, _, hso⟩ := hoz.out.form
            rw [outW_len] at hso ⊢
            have hso := hid hso
            have hwys := hby.size
            clear HC hown f0 f1 f2 f3 p1 hci
            cases g3 : decide (nx < 0)
            · cases g4 : hasB (outW fs s ids k) nx
              · have HALL : Hid (allTo (okW m fs s ids) (k + 1)) := allTo_succ hall.out (by rw [hkk.out, g3, g4]; rfl)
                have hbG := bl_alloc hbz (.cells #[.int .i64 nx] 3)
                have hoG : Hid (Owns elInt _ _ _ _ _) := hoz.out.below (bl_alloc (Below.refl _ _) (.cells #[.int .i64 nx] 3))
                have hoG2 : Hid (∀ g, (Value.slice Ao (k + 1) co).ownBlock = some g → w0.heap.size ≤ g) := fun g hg => by have := (hoG.out.lies g (by rw [outW_len]; exact hg)).1; omega
                rw [outW_len] at hoG
                have hll := outW_len fs s ids k
                clear hkk hoz hall
                go_wp2_with fail
                refine (containsI_any nx _ hso.out (by simp only [maxLen]; omega)).mono ?_
                rintro e w' ⟨rfl, rfl⟩
                rw [g4]
                clear hso
                go_wp2_with (first
                  | (at_builtin; refine wpList_append_own _ rfl _ _ 26 rfl (w.heap.size + 2) 3 i0 (.int .i64 0) 1 8 Tryz.underlying26 hi hz0 hz1 hz2 rfl (by decide) _ (outW fs s ids k).length ((outW fs s ids k).flatMap elInt.cells) rfl hoG.out ⟨_, 0, none⟩ 1 1 [.int .i64 nx] rfl rfl (one_new _ _ _ (by simp)) (fun u hu => by simp at hu; subst hu; rfl) (by unfold maxLen; omega) (by omega) (by simp; omega) ?_)
                  | go_in)
                intro v' w1 hown' hgrow _
                have HO : Hid (Owns elInt w1 (w.heap.size + 2) 3 v' (outW fs s ids (k + 1))) := by unfold Hid; rw [outW_succ, HNX.out]; exact Owns.appended (by rw [hll]; exact hown')
                have hbN := bl_grown hbG hgrow (fun g hg => by have := (hoG2.out g hg); omega)
                clear hown' hgrow hoG hbG hoG2
                go_wp2
                go_roundw
                case rel => exact ⟨k + 1, nx, by omega, by go_num, rfl, HNX, HO, HALL, hbN⟩
                case measure => simp [intOf]; omega
              · have H : Hid (rtB n fs s ids = false) := by unfold Hid; rw [HB.out]; exact allB_no hlt (by rw [hkk.out, g3, g4]; rfl)
                clear hkk hoz hall
                go_wp2_with fail
                refine (containsI_any nx _ hso.out (by simp only [maxLen]; omega)).mono ?_
                rintro e w' ⟨rfl, rfl⟩
                rw [g4]
                go_wp2_with fail
                go_ret2
                exact ⟨_, by rw [H.out]; rfl, by rw [rtL_no H.out]; exact World.ownsRow_nil _ _ _ _, hb0.trans (hbz.mono (by omega))⟩
            · have H : Hid (rtB n fs s ids = false) := by unfold Hid; rw [HB.out]; exact allB_no hlt (by rw [hkk.out, g3]; rfl)
              clear hkk hoz hall
              go_wp2_with fail
              go_ret2
              exact ⟨_, by rw [H.out]; rfl, by rw [rtL_no H.out]; exact World.ownsRow_nil _ _ _ _, hb0.trans (hbz.mono (by omega))⟩
        · have hkm : k = kr := by omega
          have H : Hid (rtB n fs s ids = true) := by unfold Hid; rw [HB.out]; exact allB_yes (by rw [← hkm]; exact hall.out) rfl
          have HL : Hid (rtL n fs s ids = outW fs s ids kr) := (rtL_yes H.out).trans (by rw [hlr])
          rw [hkm] at hown
          clear hlt hall hcu
          go_wp2
          go_ret2
          exact ⟨_, by rw [H.out]; rfl, by rw [HL.out]; exact hown.out.base (by omega), hb0.trans (hb.mono (by omega))⟩
end Go.Proofs.YtgoegldffjfmdaaGreat
/- markIntS, heldIntS, eqIntS, walked. Conditions: at most 1048576 numbers, marks below 2^40. -/
namespace Go.Proofs.YtgoegldffjfmdaaGreat
open Go.RowKit
set_option maxRecDepth 100000 in
theorem markIntS_any {base n : Nat} {v : Value} {xs : List Int} (k : Int) (w : World) (h : Owns elInt w base 3 v xs) (hl : xs.length = n) (hn : n ≤ 1048576) (hk0 : 0 ≤ k) (hk : k ≤ 1099511627776) :
    Calls Tryz.prog 14 #[v, .int .i64 k] w fun e w' => e = .returned (.int .i64 (k + n)) ∧ Owns elInt w' base 3 v (marks k n) ∧ Touch (fun b => v.ownBlock = some b) w w' := by
  rcases h.cases with ⟨rfl, rfl⟩ | ⟨g, cap, cur0, rfl, hg, hb0, hnc, hcm, hs0, _⟩
  · subst hl
    go_enter Tryz.func14, Tryz.ntmps14
    go_wp2
    refine wp_loop_rounds 1 ?_
    rw [rounds_succ]
    go_wp2
    go_ret
    exact ⟨by simp, h, Touch.refl _ _⟩
  · rw [hl] at hnc ⊢
    have hc' : Hid (cur0.size = cap) := by rw [hs0]; exact Nat.mul_one cap
    have hb0' := hid hb0
    clear hl hs0 h hb0
    go_enter Tryz.func14, Tryz.ntmps14
    go_wp2
    go_loopw [1, 5] (fun t i wr => ∃ (j : Nat) (r : Int) (cur : Array Value), j ≤ n ∧ i = .int .i64 j ∧ t = .int .i64 r ∧ r ≤ 1099511627776 + j ∧ 0 ≤ r ∧ Hid (r = k + j) ∧ Hid (Blk wr g 3 cur) ∧ Hid (cur.size = cap) ∧ Hid (Filled elInt cur (marks k n) j) ∧ Touch (fun b => some g = some b) w wr) (fun _ i _ => n - (intOf i).toNat)
    case atStart => exact ⟨0, k, cur0, Nat.zero_le _, rfl, rfl, by omega, hk0, by unfold Hid; simp, hb0', hc', Filled.zero _ _ _, Touch.refl _ _⟩
    case round =>
      clear hb0' hc'
      obtain ⟨j, r, cur, hj, rfl, rfl, hr1, hr0, hr, hblk, hsz, hfill, ht⟩ := hrel
      by_cases hlt : j < n
      · obtain ⟨u, hu⟩ := hblk.out.cell_ (i := j) (by rw [hsz.out]; omega)
        have hfz := hblk.out.frozen j
        have HB := hid (hblk.out.set j (.int .i64 r))
        have HS : Hid ((cur.setIfInBounds j (.int .i64 r)).size = cap) := by rw [Array.size_setIfInBounds]; exact hsz
        have HF : Hid (Filled elInt (cur.setIfInBounds j (.int .i64 r)) (marks k n) (j + 1)) := filled_int hfill.out (by rw [hr.out]; exact marks_get hlt) (by rw [hsz.out]; omega)
        have HR : Hid (r + 1 = k + ((j + 1 : Nat) : Int)) := by have := hr.out; unfold Hid; omega
        have HT := ht.trans (Touch.set (S := fun b => some g = some b) wr (p := ⟨g, j, none⟩) rfl (.int .i64 r))
        clear hblk hsz hfill hr ht
        go_wp2
        go_roundw
        case rel => exact ⟨j + 1, _, _, by omega, by go_num, rfl, by omega, by omega, HR, HB, HS, HF, HT⟩
        case measure => simp [intOf]; omega
      · have hjn : j = n := by omega
        have HE : Hid (r = k + (n : Int)) := by rw [← hjn]; exact hr
        have HO := hid (Owns.of_blk (E := elInt) (base := base) hblk.out hg (marks_len k n) hnc (by rw [hsz.out]; exact (Nat.mul_one _).symm) hcm (by have hq := hfill.out; rw [hjn] at hq; exact hq))
        clear hblk hsz hfill hr
        go_wp2
        go_ret
        exact ⟨by rw [HE.out]; rfl, HO.out, ht⟩
set_option maxRecDepth 100000 in
theorem heldIntS_any {B n c : Nat} {A : Option Addr} (k : Int) (w : World) (h : Sees elInt w B A n (marks k n)) (hn : n ≤ 1048576) (hk0 : 0 ≤ k) (hk : k ≤ 1099511627776) :
    Calls Tryz.prog 39 #[.slice A n c, .int .i64 k] w fun e w' => e = .returned (.int .i64 (k + n)) ∧ w = w' := by
  go_enter Tryz.func39, Tryz.ntmps39
  go_wp2
  go_loop [1, 5] (fun t i => ∃ (j : Nat) (r : Int), j ≤ n ∧ i = .int .i64 j ∧ t = .int .i64 r ∧ r ≤ 1099511627776 + j ∧ 0 ≤ r ∧ Hid (r = k + j)) (fun _ i => n - (intOf i).toNat)
  case atStart => exact ⟨0, k, Nat.zero_le _, rfl, rfl, by omega, hk0, by unfold Hid; simp⟩
  case round =>
    obtain ⟨j, r, hj, rfl, rfl, hr1, hr0, hr⟩ := hrel
    by_cases hlt : j < n
    · obtain ⟨b, o, rfl, _, hc⟩ := h.at_ hlt
      have hx := hc j (k + j) (marks_get hlt) 0 _ rfl
      rw [← hr.out] at hx
      simp only [elInt, Nat.mul_one, Nat.add_zero] at hx
      have HR : Hid (r + 1 = k + ((j + 1 : Nat) : Int)) := by have := hr.out; unfold Hid; omega
      clear hc hr
      go_wp2
      go_round
      case rel => exact ⟨j + 1, _, by omega, by go_num, rfl, by omega, by omega, HR⟩
      case measure => simp [intOf]; omega
    · have hjn : j = n := by omega
      have HE : Hid (r = k + (n : Int)) := by rw [← hjn]; exact hr
      clear hr
      go_wp2
      go_ret
      exact ⟨by rw [HE.out]; rfl, rfl⟩
set_option maxRecDepth 100000 in
theorem eqIntS_any {B B' n c c' : Nat} {A A' : Option Addr} {xs : List Int} (w : World) (hA : Sees elInt w B A n xs) (hA' : Sees elInt w B' A' n xs) (hn : n ≤ 1048576) :
    Calls Tryz.prog 12 #[.slice A n c, .slice A' n c'] w fun e w' => e = .returned (.bool true) ∧ ∃ q, w' = w.drewN q := by
  go_enter Tryz.func12, Tryz.ntmps12
  go_wp2
  go_loopw [5] (fun i wr => ∃ k q : Nat, k ≤ n ∧ i = .int .i64 k ∧ wr = w.drewN q) (fun i _ => n - (intOf i).toNat)
  case atStart => exact ⟨0, 0, Nat.zero_le _, rfl, rfl⟩
  case round =>
    obtain ⟨k, q, hk, rfl, rfl⟩ := hrel
    by_cases hlt : k < n
    · obtain ⟨b, o, rfl, _, hc⟩ := hA.at_ hlt
      obtain ⟨b', o', rfl, _, hc'⟩ := hA'.at_ hlt
      obtain ⟨x, hxk⟩ : ∃ x, xs[k]? = some x := ⟨xs[k]'(by rw [hA.len]; exact hlt), List.getElem?_eq_getElem _⟩
      have h1 := hc k x hxk 0 _ rfl
      have h2 := hc' k x hxk 0 _ rfl
      simp only [elInt, Nat.mul_one, Nat.add_zero] at h1 h2
      clear hc hc' hxk
      have i1 : (k : Int) < (n : Int) := by omega
      go_wp2
      go_quiet (fail)
      go_wp2
      go_roundw
      case rel => exact ⟨k + 1, _, by omega, by go_num, rfl⟩
      case measure => simp [intOf]; omega
    · go_wp2
      go_ret
      exact ⟨rfl, _, rfl⟩
end Go.Proofs.YtgoegldffjfmdaaGreat
/- szStringS, walked: it takes the lengths off a number, -1 if that is too small. Conditions: the number lies in 0 .. 1048576. -/
namespace Go.Proofs.YtgoegldffjfmdaaGreat
open Go.RowKit
def lessI (left : Int) (t : Nat) : Int := if (t : Int) ≤ left then left - t else -1
def sumTo (xs : List ByteArray) (k : Nat) : Nat := ((xs.take k).map ByteArray.size).sum
def strTot (xs : List ByteArray) : Nat := xs.length + sumTo xs xs.length
theorem sumTo_succ {xs : List ByteArray} {k : Nat} {x : ByteArray} (h : xs[k]? = some x) : sumTo xs (k + 1) = sumTo xs k + x.size := by
  unfold sumTo
  obtain ⟨hk, hx⟩ := List.getElem?_eq_some_iff.1 h
  rw [List.take_succ_eq_append_getElem hk, hx, List.map_append, List.sum_append]; simp
theorem sumTo_mono {xs : List ByteArray} {j k : Nat} (h : j ≤ k) : sumTo xs j ≤ sumTo xs k := by
  unfold sumTo
  obtain ⟨d, rfl⟩ := Nat.exists_eq_add_of_le h
  rw [List.take_add, List.map_append, List.sum_append]; omega
theorem size_le_tot {xs : List ByteArray} {x : ByteArray} (h : x ∈ xs) : x.size ≤ strTot xs := by
  obtain ⟨k, hk, e⟩ := List.mem_iff_getElem.1 h
  have h1 := sumTo_succ (xs := xs) (k := k) (x := x) (by rw [List.getElem?_eq_getElem hk, e])
  have h2 := sumTo_mono (xs := xs) (j := k + 1) (k := xs.length) hk
  unfold strTot; omega
theorem lessI_neg {left : Int} {t : Nat} (h : left < t) : lessI left t = -1 := by unfold lessI; rw [if_neg (by omega)]
theorem lessI_pos {left : Int} {t : Nat} (h : (t : Int) ≤ left) : lessI left t = left - t := by unfold lessI; rw [if_pos h]
set_option maxRecDepth 100000 in
theorem szStringS_any {B n c : Nat} {A : Option Addr} {xs : List ByteArray} (left : Int) (w : World) (hA : Sees elStr w B A n xs) (hn : n ≤ maxLen) (hx : ∀ x ∈ xs, x.size ≤ maxLen) (h0 : 0 ≤ left) (hl : left ≤ 1048576) :
    Calls Tryz.prog 23 #[.slice A n c, .int .i64 left] w fun e w' => e = .returned (.int .i64 (lessI left (strTot xs))) ∧ w = w' := by
  have hlen := hA.len
  unfold maxLen at hn hx
  by_cases hs : (n : Int) ≤ left
  · have HL := hid hlen
    clear hlen
    have e0 : decide (left - (n : Int) < 0) = false := by simp; omega
    go_enter Tryz.func23, Tryz.ntmps23
    go_wp2
    clear e0
    go_loop [1, 5] (fun l i => ∃ (k : Nat) (r : Int), k ≤ n ∧ i = .int .i64 k ∧ l = .int .i64 r ∧ 0 ≤ r ∧ r ≤ 1048576 ∧ Hid (r = left - n - sumTo xs k)) (fun _ i => n - (intOf i).toNat)
    case atStart => exact ⟨0, left - n, Nat.zero_le _, rfl, rfl, by omega, by omega, by unfold Hid sumTo; simp⟩
    case round =>
      obtain ⟨k, r, hk, rfl, rfl, hr0, hr1, hr⟩ := hrel
      by_cases hlt : k < n
      · obtain ⟨b, o, rfl, _, hc⟩ := hA.at_ hlt
        obtain ⟨x, hxk⟩ : ∃ x, xs[k]? = some x := ⟨xs[k]'(by rw [HL.out]; exact hlt), List.getElem?_eq_getElem _⟩
        have hcx := hc k x hxk 0 _ rfl
        simp only [elStr, Nat.mul_one, Nat.add_zero] at hcx
        have hxs : x.size ≤ 2 ^ 63 - 1 := hx x (List.mem_of_getElem? hxk)
        have hsucc := sumTo_succ hxk
        have hmono := sumTo_mono (xs := xs) (j := k + 1) (k := n) hlt
        clear hc hxk
        by_cases hneg : r - (x.size : Int) < 0
        · have HN : Hid (lessI left (strTot xs) = -1) := lessI_neg (by have := hr.out; have := HL.out; unfold strTot; rw [this]; omega)
          clear hsucc hmono
          go_wp2
          go_ret
          exact ⟨by rw [HN.out]; rfl, rfl⟩
        · have HR : Hid (r - (x.size : Int) = left - n - sumTo xs (k + 1)) := by have := hr.out; unfold Hid; omega
          clear hsucc hmono hr
          go_wp2
          go_round
          case rel => exact ⟨k + 1, _, by omega, by go_num, rfl, by omega, by omega, HR⟩
          case measure => simp [intOf]; omega
      · have HR : Hid (lessI left (strTot xs) = r) := by
          obtain rfl : k = n := by omega
          have h1 := hr.out; have h2 := HL.out
          refine hid ?_
          rw [lessI_pos (by unfold strTot; rw [h2]; omega)]; unfold strTot; rw [h2]; omega
        clear hr
        go_wp2
        go_ret
        exact ⟨by rw [HR.out]; rfl, rfl⟩
  · have HN : Hid (lessI left (strTot xs) = -1) := lessI_neg (by unfold strTot; omega)
    clear hlen
    go_enter Tryz.func23, Tryz.ntmps23
    go_wp2
    go_ret
    exact ⟨by rw [HN.out]; rfl, rfl⟩
end Go.Proofs.YtgoegldffjfmdaaGreat
/- szFiberS and szNetwork, walked. Conditions: the number lies in 0 .. 1048576. -/
namespace Go.Proofs.YtgoegldffjfmdaaGreat
open Go.RowKit
set_option maxRecDepth 100000 in
theorem szFiberS_any {n c : Nat} {A : Option Addr} (left : Int) (w : World) (hn : n ≤ maxLen) (h0 : 0 ≤ left) (hl : left ≤ 1048576) :
    Calls Tryz.prog 24 #[.slice A n c, .int .i64 left] w fun e w' => e = .returned (.int .i64 (lessI left n)) ∧ w = w' := by
  unfold maxLen at hn
  by_cases hs : (n : Int) ≤ left
  · have HN := hid (lessI_pos hs)
    go_enter Tryz.func24, Tryz.ntmps24
    go_wp2
    go_ret
    exact ⟨by rw [HN.out]; rfl, rfl⟩
  · have HN := hid (lessI_neg (left := left) (t := n) (by omega))
    go_enter Tryz.func24, Tryz.ntmps24
    go_wp2
    go_ret
    exact ⟨by rw [HN.out]; rfl, rfl⟩
theorem lessI_bd {left : Int} {t : Nat} : (lessI left t = -1 ∧ left < t) ∨ (0 ≤ lessI left t ∧ lessI left t ≤ left ∧ (t : Int) ≤ left) := by
  unfold lessI; split <;> omega
theorem lessI_lessI {left : Int} {s t : Nat} : lessI left (s + t) = if lessI left s < 0 then -1 else lessI (lessI left s) t := by
  unfold lessI; split <;> split <;> (try split) <;> omega
/-- What a network holds: names, letters, fibers. -/
def netTot {α : Type} (xs : List ByteArray) (fs : List α) : Nat := strTot xs + fs.length
set_option maxHeartbeats 1000000 in
set_option maxRecDepth 100000 in
theorem szNetwork_any {B n c m d : Nat} {A A' : Option Addr} {xs : List ByteArray} {fs : List Fib} (left : Int) (w : World) (hA : Sees elStr w B A n xs) (hF : Sees elFib w B A' m fs) (hB : B ≤ w.heap.size) (hn : n ≤ maxLen) (hm : m ≤ maxLen)
    (hx : ∀ x ∈ xs, x.size ≤ maxLen) (h0 : 0 ≤ left) (hl : left ≤ 1048576) :
    Calls Tryz.prog 5 #[.agg #[.slice A n c, .slice A' m d], .int .i64 left] w fun e w' => e = .returned (.int .i64 (lessI left (netTot xs fs))) ∧ Below w.heap.size w w' := by
  have hA' : Sees elStr (w.alloc (.cells #[.slice A n c, .slice A' m d] 25)) B A n xs := hA.below ((bl_alloc (Below.refl _ _) _).mono hB)
  have hll := lessI_lessI (left := left) (s := strTot xs) (t := fs.length)
  rw [hF.len] at hll
  unfold netTot
  rw [hF.len]
  rcases lessI_bd (left := left) (t := strTot xs) with ⟨h1, _⟩ | ⟨h1, h2, _⟩
  · have HN : Hid (lessI left (strTot xs + m) = -1) := by rw [hll, if_pos (by omega)]; rfl
    have HS := hid h1
    clear hll h1
    go_enter Tryz.func5, Tryz.ntmps5
    go_wp2_with fail
    refine (szStringS_any left _ hA' hn hx h0 hl).mono ?_
    rintro e w' ⟨rfl, rfl⟩
    rw [HS.out]
    go_wp2_with fail
    go_ret
    exact ⟨by rw [HN.out]; rfl, bl_alloc (Below.refl _ _) _⟩
  · have HN : Hid (lessI left (strTot xs + m) = lessI (lessI left (strTot xs)) m) := by rw [hll, if_neg (by omega)]; rfl
    clear hll
    go_enter Tryz.func5, Tryz.ntmps5
    go_wp2_with fail
    refine (szStringS_any left _ hA' hn hx h0 hl).mono ?_
    rintro e w' ⟨rfl, rfl⟩
    generalize lessI left (strTot xs) = r at *
    rcases lessI_bd (left := r) (t := m) with ⟨h3, _⟩ | ⟨h3, h4, _⟩
    · have HS := hid h3
      clear h3
      go_wp2_with fail
      refine (szFiberS_any r _ hm h1 (by omega)).mono ?_
      rintro e w' ⟨rfl, rfl⟩
      rw [HS.out]
      go_wp2_with fail
      go_ret
      exact ⟨by rw [HN.out, HS.out]; rfl, bl_alloc (Below.refl _ _) _⟩
    · go_wp2_with fail
      refine (szFiberS_any r _ hm h1 (by omega)).mono ?_
      rintro e w' ⟨rfl, rfl⟩
      go_wp2_with fail
      go_ret
      exact ⟨by rw [HN.out]; rfl, bl_alloc (Below.refl _ _) _⟩
end Go.Proofs.YtgoegldffjfmdaaGreat
/- How an argument that can be read is opened: strings, slices, networks, routes. Conditions: none. -/
namespace Go.Proofs.YtgoegldffjfmdaaGreat
open Go.ChangeShapes Go.WideShapes Go.ChangeAt Go.RowKit Go.Deep
theorem i64_bd {n : Int} (h : (Lit.int .i64 n).wf = true) : -9223372036854775808 ≤ n ∧ n ≤ 9223372036854775807 := by
  simp [Lit.wf, IntKind.min, IntKind.max, IntKind.signed, IntKind.bits] at h; omega
section
variable {H : Type} {enc : TypeId × Value → H} {P : Program} {W : World} {spare : Nat → Bool} {held : Bool}
/-- A slice whose elements' cells are known. -/
theorem open_sl {α : Type} (E : El α) {t e : TypeId} {fuel : Nat} {cs : List Value} {x : DataW H × List MemPlace} (good : α → Prop) (ht : P.underlying t = some (.slice e)) (hsz : P.cellsOf e = E.sz)
    (hel : ∀ fuel cs y, DataW.trod enc P W 0 spare held fuel e cs = some y → ∃ a, cs = E.cells a ∧ good a)
    (h : DataW.trod enc P W 0 spare held fuel t cs = some x) :
    ∃ A n c xs, cs = [.slice A n c] ∧ n ≤ c ∧ c ≤ maxLen ∧ Sees E W W.heap.size A n xs ∧ ∀ a ∈ xs, good a := by
  rcases open_slice ht h with ⟨h0, _⟩ | ⟨a, len, cap, m, k, D, Pl, hcs, _, hl, hm, hmm, _, hi⟩
  · exact ⟨none, 0, 0, [], h0, Nat.le_refl _, Nat.zero_le _, Sees.nil _ _ _ _, fun _ h => by cases h⟩
  · have hlm : len ≤ m := by rw [hmm]; split <;> omega
    have key : ∀ i : Nat, i < len → ∃ y : α, good y ∧ ∀ j u, (E.cells y)[j]? = some u → W.cell? (a.add (i * E.sz + j)) = some u := by
      intro i hlt
      obtain ⟨cs', hc, htr⟩ := hi i (by omega)
      obtain ⟨y, rfl, hg⟩ := hel _ _ _ htr
      obtain ⟨_, hlen, hat⟩ := World.cells?_some hc
      refine ⟨y, hg, fun j u hu => ?_⟩
      have hj : j < P.cellsOf e := by rw [hsz, ← E.len y]; exact (List.getElem?_eq_some_iff.1 hu).1
      have := hat j hj
      rw [add_add, hsz] at this
      rw [this, hu]
    rcases Nat.eq_zero_or_pos len with h0 | h0
    · subst h0
      exact ⟨some a, 0, cap, [], hcs, hl, hm, Sees.nil _ _ _ _, fun _ h => by cases h⟩
    · have hspot : a.spot = none := by
        obtain ⟨y, _, hy⟩ := key 0 h0
        have hpos := E.pos
        have hlen := E.len y
        have h1 := hy 0 ((E.cells y)[0]'(by omega)) (List.getElem?_eq_getElem (by omega))
        simp only [Nat.zero_mul, Nat.zero_add] at h1
        rw [show a.add 0 = a by simp [Addr.add]] at h1
        unfold World.cell? at h1
        split at h1
        · split at h1
          · cases h1
          · rename_i hs; simpa using hs
        · cases h1
      obtain ⟨y0, _, _⟩ := key 0 h0
      have : Inhabited α := ⟨y0⟩
      obtain ⟨f, hf⟩ := choose_lt key
      refine ⟨some a, len, cap, (List.range len).map f, hcs, hl, hm, ⟨by simp, .inr ⟨a.block, a.off, by cases a; simp_all, ?_, ?_⟩⟩, ?_⟩
      · obtain ⟨_, hy⟩ := hf 0 h0
        have hpos := E.pos
        have hlen := E.len (f 0)
        have h1 := hy 0 ((E.cells (f 0))[0]'(by omega)) (List.getElem?_eq_getElem (by omega))
        have := World.block_lt_of_cell? W _ h1
        simp only [Addr.add] at this
        split at this <;> simpa using this
      · intro k x hx j u hu
        have hk : k < len := by have := (List.getElem?_eq_some_iff.1 hx).1; simpa using this
        have hx' : f k = x := by simpa [List.getElem?_map, List.getElem?_range, hk] using hx
        have := (hf k hk).2 j u (by rw [hx']; exact hu)
        rw [← this]
        unfold Addr.add
        split
        · rename_i h00; rw [Nat.add_assoc, h00, Nat.add_zero]; cases a; simp_all
        · rw [Nat.add_assoc]
      · intro x hx
        obtain ⟨i, hi, rfl⟩ := List.mem_map.1 hx
        exact (hf i (by simpa using hi)).1
/-- A slice that came in. -/
def SlArg {α : Type} (E : El α) (W : World) (A : Option Addr) (n c : Nat) (xs : List α) (good : α → Prop) : Prop := n ≤ c ∧ c ≤ maxLen ∧ Sees E W W.heap.size A n xs ∧ ∀ a ∈ xs, good a
theorem open_sl_val {α : Type} (E : El α) {t e : TypeId} {base : Nat} {v : Value} {d : DataW H} {p : List MemPlace} (good : α → Prop) (ht : P.underlying t = some (.slice e)) (hsz : P.cellsOf e = E.sz)
    (hel : ∀ fuel cs y, DataW.trod enc P W 0 spare held fuel e cs = some y → ∃ a, cs = E.cells a ∧ good a)
    (hv : Value.okWide P W .any base t v) (h : DataW.Trod enc P W 0 spare held t v d p) : ∃ A n c xs, v = .slice A n c ∧ SlArg E W A n c xs good := by
  obtain ⟨a, len, cap, rfl⟩ := okWide_slice ht hv
  obtain ⟨fuel, h⟩ := h
  obtain ⟨A, n, c, xs, e, h1, h2, h3, h4⟩ := open_sl E good ht hsz hel h
  exact ⟨A, n, c, xs, by simpa [Value.cells] using e, h1, h2, h3, h4⟩
theorem el_int {e : TypeId} (he : P.underlying e = some (.int .i64)) (fuel : Nat) (cs : List Value) (y : DataW H × List MemPlace) (h : DataW.trod enc P W 0 spare held fuel e cs = some y) :
    ∃ a, cs = elInt.cells a ∧ (-9223372036854775808 ≤ a ∧ a ≤ 9223372036854775807) := by
  obtain ⟨n, rfl, _, hw⟩ := DataW.trod_int he h
  exact ⟨n, rfl, i64_bd hw⟩
theorem el_str {e : TypeId} (he : P.underlying e = some .string) (fuel : Nat) (cs : List Value) (y : DataW H × List MemPlace) (h : DataW.trod enc P W 0 spare held fuel e cs = some y) :
    ∃ a, cs = elStr.cells a ∧ a.size ≤ maxLen := by
  obtain ⟨n, rfl, _, hw⟩ := DataW.trod_string he h
  exact ⟨n, rfl, hw⟩
end
end Go.Proofs.YtgoegldffjfmdaaGreat
/- How a network that can be read is opened. Conditions: none. -/
namespace Go.Proofs.YtgoegldffjfmdaaGreat
open Go.ChangeShapes Go.WideShapes Go.ChangeAt Go.RowKit Go.Deep Go.Joins
theorem cellsN : Tryz.prog.cellsOf 25 = 2 := by kernel_rfl
theorem cellsF : Tryz.prog.cellsOf 92 = 4 := by kernel_rfl
theorem cellsS : Tryz.prog.cellsOf 9 = 1 := by kernel_rfl
theorem cellsI : Tryz.prog.cellsOf 3 = 1 := by kernel_rfl
section
variable {H : Type} {enc : TypeId × Value → H} {W : World} {spare : Nat → Bool} {held : Bool}
set_option maxRecDepth 100000 in
theorem el_fib (fuel : Nat) (cs : List Value) (y : DataW H × List MemPlace) (h : DataW.trod enc Tryz.prog W 0 spare held fuel 92 cs = some y) : ∃ a, cs = elFib.cells a ∧ True := by
  obtain ⟨ys, n, _, _, hl, hyl, hf⟩ := DataW.trod_struct Tryz.underlying92 h
  rw [cellsF] at hl
  have hi : ∀ k, k < 4 → ∃ m : Int, (cs.drop k).take 1 = [.int .i64 m] := by
    intro k hk
    have hy : k < ys.length := by rw [hyl]; exact hk
    match k, hk with
    | 0, _ => have := hf 0 _ rfl; rw [List.getElem?_eq_getElem hy] at this; obtain ⟨m, hm, _⟩ := DataW.trod_int Tryz.underlying3 this; exact ⟨m, by simpa [cellsI] using hm⟩
    | 1, _ => have := hf 1 _ rfl; rw [List.getElem?_eq_getElem hy] at this; obtain ⟨m, hm, _⟩ := DataW.trod_int Tryz.underlying3 this; exact ⟨m, by simpa [cellsI] using hm⟩
    | 2, _ => have := hf 2 _ rfl; rw [List.getElem?_eq_getElem hy] at this; obtain ⟨m, hm, _⟩ := DataW.trod_int Tryz.underlying3 this; exact ⟨m, by simpa [cellsI] using hm⟩
    | 3, _ => have := hf 3 _ rfl; rw [List.getElem?_eq_getElem hy] at this; obtain ⟨m, hm, _⟩ := DataW.trod_int Tryz.underlying3 this; exact ⟨m, by simpa [cellsI] using hm⟩
  match cs, hl with
  | [v0, v1, v2, v3], _ =>
    obtain ⟨m0, h0⟩ := hi 0 (by omega)
    obtain ⟨m1, h1⟩ := hi 1 (by omega)
    obtain ⟨m2, h2⟩ := hi 2 (by omega)
    obtain ⟨m3, h3⟩ := hi 3 (by omega)
    simp at h0 h1 h2 h3
    exact ⟨⟨m0, m1, m2, m3⟩, by simp [elFib, h0, h1, h2, h3], trivial⟩
/-- A network that came in. -/
def NetArg (W : World) (A : Option Addr) (n c : Nat) (A' : Option Addr) (m d : Nat) (xs : List ByteArray) (fs : List Fib) : Prop :=
  SlArg elStr W A n c xs (fun s => s.size ≤ maxLen) ∧ SlArg elFib W A' m d fs (fun _ => True)
set_option maxRecDepth 100000 in
theorem open_net {base : Nat} {v : Value} {d : DataW H} {p : List MemPlace} (hv : Value.okWide Tryz.prog W .any base 25 v) (h : DataW.Trod enc Tryz.prog W 0 spare held 25 v d p) :
    ∃ A n c A' m d xs fs, v = .agg #[.slice A n c, .slice A' m d] ∧ NetArg W A n c A' m d xs fs := by
  obtain ⟨v0, v1, y0, y1, k, rfl, _, _, h0, h1⟩ := open_agg2 Tryz.underlying25 (by kernel_rfl) cellsN hv h
  obtain ⟨A, n, c, xs, e0, a1, a2, a3, a4⟩ := open_sl elStr (fun s => s.size ≤ maxLen) Tryz.underlying22 cellsS (el_str Tryz.underlying9) h0
  obtain ⟨A', m, d, fs, e1, b1, b2, b3, b4⟩ := open_sl elFib (fun _ => True) Tryz.underlying23 cellsF el_fib h1
  simp at e0 e1
  exact ⟨A, n, c, A', m, d, xs, fs, by rw [e0, e1], ⟨a1, a2, a3, a4⟩, ⟨b1, b2, b3, b4⟩⟩
end
end Go.Proofs.YtgoegldffjfmdaaGreat
/- Lists of numbers, and a fiber, that came in. Conditions: none. -/
namespace Go.Proofs.YtgoegldffjfmdaaGreat
open Go.RowKit
section
variable {H : Type} {enc : TypeId × Value → H} {W : World} {spare : Nat → Bool} {held : Bool}
/-- A list of numbers that came in. -/
def IntsArg (W : World) (A : Option Addr) (n c : Nat) (xs : List Int) : Prop := SlArg elInt W A n c xs (fun a => -9223372036854775808 ≤ a ∧ a ≤ 9223372036854775807)
set_option maxRecDepth 100000 in
theorem open_ints {base : Nat} {v : Value} {d : DataW H} {p : List MemPlace} (hv : Value.okWide Tryz.prog W .any base 26 v) (h : DataW.Trod enc Tryz.prog W 0 spare held 26 v d p) :
    ∃ A n c xs, v = .slice A n c ∧ IntsArg W A n c xs :=
  open_sl_val elInt _ Tryz.underlying26 cellsI (el_int Tryz.underlying3) hv h
end
end Go.Proofs.YtgoegldffjfmdaaGreat
/- szRoute, toRoute, eqRoute; IsValidRoute and RouteNodes of both sides, walked. Conditions: at most 1048576 fibers. -/
namespace Go.Proofs.YtgoegldffjfmdaaGreat
open Go.RowKit
/-- The nodes of a route. -/
def routeL (xs : List ByteArray) (fs : List Fib) (s : Int) (ids : List Int) : List Int := if goodB xs fs then rtL xs.length fs s ids else []
section
variable {n c m d kr er : Nat} {A A' R : Option Addr} {xs : List ByteArray} {fs : List Fib} {ids : List Int}
set_option maxHeartbeats 1000000 in
set_option maxRecDepth 100000 in
theorem eqRoute_any {B B' e2 : Nat} {R2 : Option Addr} (s : Int) (w : World) (h1 : Sees elInt w B R kr ids) (h2 : Sees elInt w B' R2 kr ids) (hk : kr ≤ 1048576) :
    Calls Tryz.prog 10 #[.agg #[.int .i64 s, .slice R kr er], .agg #[.int .i64 s, .slice R2 kr e2]] w fun e w' => e = .returned (.bool true) ∧ Below w.heap.size w w' := by
  have hb0 : Below w.heap.size w ((w.alloc (.cells #[.int .i64 s, .slice R kr er] 29)).alloc (.cells #[.int .i64 s, .slice R2 kr e2] 29)) := bl_alloc (bl_alloc (Below.refl _ _) _) _
  have k1 := h1.grow hb0
  have k2 := h2.grow hb0
  go_enter Tryz.func10, Tryz.ntmps10
  go_wp2_with fail
  refine (eqIntS_any _ k1 k2 hk).mono ?_
  rintro e w1 ⟨rfl, q, rfl⟩
  go_wp2_with fail
  go_ret
  exact ⟨rfl, bl_drewN hb0 q⟩
set_option maxHeartbeats 1000000 in
set_option maxRecDepth 100000 in
theorem implRouteNodes (s : Int) (w : World) (h : NetIs w A n c A' m d xs fs) (hr : RtIs w R kr er ids) :
    Calls Tryz.prog 72 #[.agg #[.slice A n c, .slice A' m d], .agg #[.int .i64 s, .slice R kr er]] w fun e w' => ∃ v, e = .returned (.tuple #[v, .bool (routeB xs fs s ids)]) ∧ Owns elInt w' w.heap.size 3 v (routeL xs fs s ids) ∧ Below w.heap.size w w' := by
  have hb0 := bl_alloc (bl_alloc (Below.refl w.heap.size w) (.cells #[.slice A n c, .slice A' m d] 34)) (.cells #[.int .i64 s, .slice R kr er] 29)
  have hx0 : Blk ((w.alloc (.cells #[.slice A n c, .slice A' m d] 34)).alloc (.cells #[.int .i64 s, .slice R kr er] 29)) w.heap.size 34 #[.slice A n c, .slice A' m d] := (Blk.new _ _ _).alloc _
  have hy0 : Blk ((w.alloc (.cells #[.slice A n c, .slice A' m d] 34)).alloc (.cells #[.int .i64 s, .slice R kr er] 29)) (w.heap.size + 1) 29 #[.int .i64 s, .slice R kr er] := by
    have := Blk.new (w.alloc (.cells #[.slice A n c, .slice A' m d] 34)) 29 #[.int .i64 s, .slice R kr er]
    simpa using this
  have h0 := h.grow hb0
  have hr0 := hr.grow hb0
  cases g : goodB xs fs
  · have H : Hid (routeB xs fs s ids = false ∧ routeL xs fs s ids = []) := by unfold Hid routeB routeL; rw [g]; exact ⟨rfl, rfl⟩
    go_enter Tryz.func72, Tryz.ntmps72
    go_wp2_with fail
    refine (validN _ h0).mono ?_
    rintro e w1 ⟨rfl, hb1⟩
    rw [g]
    go_wp2_with fail
    go_ret2
    exact ⟨_, by rw [H.out.1]; rfl, by rw [H.out.2]; exact World.ownsRow_nil _ _ _ _, bl_then hb0 hb1⟩
  · have H : Hid (routeB xs fs s ids = rtB n fs s ids ∧ routeL xs fs s ids = rtL n fs s ids) := by unfold Hid routeB routeL; rw [g, h.xlen]; exact ⟨rfl, rfl⟩
    go_enter Tryz.func72, Tryz.ntmps72
    go_wp2_with fail
    refine (validN _ h0).mono ?_
    rintro e w1 ⟨rfl, hb1⟩
    rw [g]
    have p0 := (hx0.below hb1 hx0.lt).cell 0
    have p1 := (hx0.below hb1 hx0.lt).cell 1
    have p2 := (hy0.below hb1 hy0.lt).cell 0
    have p3 := (hy0.below hb1 hy0.lt).cell 1
    simp at p0 p1 p2 p3
    go_wp2_with fail
    refine (visited_any s w1 (h0.grow hb1) (hr0.grow hb1)).mono ?_
    rintro e w2 ⟨v2, rfl, ho2, hb2⟩
    have hbw := bl_then hb0 hb1
    have HO := hid ho2
    clear ho2
    go_wp2_with fail
    go_ret2
    exact ⟨_, by rw [H.out.1]; rfl, by rw [H.out.2]; exact HO.out.base hbw.size, bl_then hbw hb2⟩
set_option maxRecDepth 100000 in
theorem implIsValidRoute (s : Int) (w : World) (h : NetIs w A n c A' m d xs fs) (hr : RtIs w R kr er ids) :
    Calls Tryz.prog 44 #[.agg #[.slice A n c, .slice A' m d], .agg #[.int .i64 s, .slice R kr er]] w fun e w' => e = .returned (.bool (routeB xs fs s ids)) ∧ Below w.heap.size w w' := by
  have hb0 := bl_alloc (bl_alloc (Below.refl w.heap.size w) (.cells #[.slice A n c, .slice A' m d] 34)) (.cells #[.int .i64 s, .slice R kr er] 29)
  have hx0 : Blk ((w.alloc (.cells #[.slice A n c, .slice A' m d] 34)).alloc (.cells #[.int .i64 s, .slice R kr er] 29)) w.heap.size 34 #[.slice A n c, .slice A' m d] := (Blk.new _ _ _).alloc _
  have hy0 : Blk ((w.alloc (.cells #[.slice A n c, .slice A' m d] 34)).alloc (.cells #[.int .i64 s, .slice R kr er] 29)) (w.heap.size + 1) 29 #[.int .i64 s, .slice R kr er] := by
    have := Blk.new (w.alloc (.cells #[.slice A n c, .slice A' m d] 34)) 29 #[.int .i64 s, .slice R kr er]
    simpa using this
  have h0 := h.grow hb0
  have hr0 := hr.grow hb0
  go_enter Tryz.func44, Tryz.ntmps44
  go_wp2_with fail
  refine (implRouteNodes s _ h0 hr0).mono ?_
  rintro e w1 ⟨v1, rfl, _, hb1⟩
  go_wp2_with fail
  go_ret
  exact ⟨rfl, bl_then hb0 hb1⟩
end
end Go.Proofs.YtgoegldffjfmdaaGreat
/- Routes in plain Lean: how long they are at most; their lengths; their order. Conditions: none. -/
namespace Go.Proofs.YtgoegldffjfmdaaGreat
/-- Different numbers below n are n at most. -/
theorem nodup_bd : ∀ (n : Nat) (l : List Int), l.Nodup → (∀ x ∈ l, 0 ≤ x ∧ x < n) → l.length ≤ n := by
  intro n
  induction n with
  | zero =>
    intro l _ h
    cases l with
    | nil => exact Nat.le_refl _
    | cons x l => have := h x (by simp); omega
  | succ n ih =>
    intro l hd h
    have h1 := ih (l.erase (n : Int)) (hd.erase _) (fun x hx => by
      have := (List.Nodup.mem_erase_iff hd).1 hx
      have h2 := h x this.2
      have h3 := this.1
      omega)
    have h2 : l.length ≤ (l.erase (n : Int)).length + 1 := by rw [List.length_erase]; split <;> omega
    omega
section
variable {n : Nat} {fs : List Fib} {s : Int} {ids : List Int}
theorem rtB_parts (h : rtB n fs s ids = true) : inB 0 ((n : Int) - 1) s = true ∧ ids ≠ [] ∧ allTo (okW fs.length fs s ids) ids.length := by
  unfold rtB at h
  rw [Bool.and_eq_true, Bool.and_eq_true] at h
  refine ⟨h.1, fun e => ?_, allB_iff.1 h.2.2⟩
  rw [e] at h; simp at h
theorem okW_parts {m k : Nat} (h : okW m fs s ids k = true) : inB 0 ((m : Int) - 1) (ids.getD k 0) = true ∧ 0 ≤ atW fs s ids (k + 1) ∧ hasB (outW fs s ids k) (atW fs s ids (k + 1)) = false := by
  unfold okW at h
  rw [Bool.and_eq_true, Bool.and_eq_true] at h
  refine ⟨h.1, ?_, by simpa using h.2.2⟩
  have := h.2.1
  simp at this; exact this
theorem rtB_at (h : rtB n fs s ids = true) {k : Nat} {i : Int} (hi : ids[k]? = some i) : 0 ≤ i ∧ i < fs.length := by
  have hk : k < ids.length := (List.getElem?_eq_some_iff.1 hi).1
  have h1 := (okW_parts ((rtB_parts h).2.2 k hk)).1
  rw [getD_of hi] at h1
  exact inB_idx h1
theorem rtB_mem (h : rtB n fs s ids = true) : ∀ x ∈ ids, 0 ≤ x ∧ x < fs.length := by
  intro x hx
  obtain ⟨k, hk, e⟩ := List.mem_iff_getElem.1 hx
  exact rtB_at h (k := k) (by rw [List.getElem?_eq_getElem hk, e])
theorem outW_nodup (h : allTo (okW fs.length fs s ids) ids.length) : ∀ k, k ≤ ids.length → (outW fs s ids k).Nodup := by
  intro k
  induction k with
  | zero => intro _; rw [outW_zero]; simp
  | succ k ih =>
    intro hk
    rw [outW_succ, List.nodup_append]
    refine ⟨ih (by omega), by simp, fun a ha b hb => ?_⟩
    simp at hb; subst hb
    have h1 := (okW_parts (h k (by omega))).2.2
    intro e
    subst e
    rw [hasB_iff.2 ha] at h1; cases h1
theorem outW_range (hf : ∀ f ∈ fs, fibB n f = true) (h : rtB n fs s ids = true) : ∀ k, k ≤ ids.length → ∀ x ∈ outW fs s ids k, 0 ≤ x ∧ x < n := by
  obtain ⟨hs, _, hall⟩ := rtB_parts h
  intro k
  induction k with
  | zero => intro _ x hx; rw [outW_zero] at hx; simp at hx; subst hx; exact inB_idx hs
  | succ k ih =>
    intro hk x hx
    rw [outW_succ] at hx
    rcases List.mem_append.1 hx with hx | hx
    · exact ih (by omega) x hx
    · simp at hx; subst hx
      have hok := okW_parts (hall k (by omega))
      have hki : k < ids.length := by omega
      have hi := rtB_at h (List.getElem?_eq_getElem hki)
      have hfi : fs[(ids[k]).toNat]? = some (fs[(ids[k]).toNat]'(by omega)) := List.getElem?_eq_getElem _
      have e := atW_succ (s := s) (List.getElem?_eq_getElem hki) hfi
      have hb := otherF_bd (hf _ (List.mem_of_getElem? hfi)) (atW fs s ids k)
      rw [← e] at hb
      exact ⟨hok.2.1, hb.2⟩
theorem rtB_short (hf : ∀ f ∈ fs, fibB n f = true) (h : rtB n fs s ids = true) : ids.length + 1 ≤ n := by
  have h1 := nodup_bd n (outW fs s ids ids.length) (outW_nodup (rtB_parts h).2.2 _ (Nat.le_refl _)) (outW_range hf h _ (Nat.le_refl _))
  rw [outW_len] at h1
  exact h1
end
/-- The length of the first k fibers. -/
def rlTo (fs : List Fib) (ids : List Int) (k : Nat) : Int := ((ids.take k).map fun i => (fs.getD i.toNat ⟨0, 0, 0, 0⟩).len).sum
/-- The length of a route. -/
def lenR (fs : List Fib) (ids : List Int) : Int := rlTo fs ids ids.length
theorem rlTo_zero (fs : List Fib) (ids : List Int) : rlTo fs ids 0 = 0 := by simp [rlTo]
theorem rlTo_succ {fs : List Fib} {ids : List Int} {k : Nat} {i : Int} {f : Fib} (hi : ids[k]? = some i) (hf : fs[i.toNat]? = some f) : rlTo fs ids (k + 1) = rlTo fs ids k + f.len := by
  unfold rlTo
  rw [List.take_add_one, hi]
  simp [hf]
theorem rlTo_bd {fs : List Fib} {ids : List Int} (hl : ∀ f ∈ fs, 0 ≤ f.len ∧ f.len ≤ 5000) (hin : ∀ x ∈ ids, 0 ≤ x ∧ x < fs.length) : ∀ k, k ≤ ids.length → 0 ≤ rlTo fs ids k ∧ rlTo fs ids k ≤ 5000 * (k : Int) := by
  intro k
  induction k with
  | zero => intro _; rw [rlTo_zero]; omega
  | succ k ih =>
    intro hk
    have h1 := ih (by omega)
    have hki : k < ids.length := by omega
    have hi := hin _ (List.getElem_mem hki)
    have hfi : fs[(ids[k]).toNat]? = some (fs[(ids[k]).toNat]'(by omega)) := List.getElem?_eq_getElem _
    rw [rlTo_succ (List.getElem?_eq_getElem hki) hfi]
    have := hl _ (List.mem_of_getElem? hfi)
    omega
section
variable {xs : List ByteArray} {fs : List Fib} {s : Int} {ids : List Int}
theorem routeB_good (h : routeB xs fs s ids = true) : goodB xs fs = true ∧ rtB xs.length fs s ids = true := by unfold routeB at h; simpa using h
theorem goodB_lens (h : goodB xs fs = true) : ∀ f ∈ fs, 0 ≤ f.len ∧ f.len ≤ 5000 := fun f hf => by
  have := goodB_fibB h hf
  unfold fibB at this; simp at this; omega
theorem routeB_short (h : routeB xs fs s ids = true) : ids.length ≤ 7 ∧ 1 ≤ ids.length := by
  obtain ⟨hg, hr⟩ := routeB_good h
  have h1 := rtB_short (fun f hf => goodB_fibB hg hf) hr
  have h2 := (goodB_bd hg).2.1
  have h3 := (rtB_parts hr).2.1
  have : ids.length ≠ 0 := fun e => h3 (List.eq_nil_of_length_eq_zero e)
  omega
theorem routeL_yes (h : routeB xs fs s ids = true) : routeL xs fs s ids = outW fs s ids ids.length := by
  obtain ⟨hg, hr⟩ := routeB_good h
  unfold routeL; rw [hg]; simp [rtL_yes hr]
theorem routeL_no (h : routeB xs fs s ids = false) : routeL xs fs s ids = [] := by
  unfold routeB at h; unfold routeL
  cases g : goodB xs fs
  · rfl
  · rw [g] at h; simp at h; simp [rtL_no h]
theorem routeL_len : (routeL xs fs s ids).length ≤ 8 := by
  cases g : routeB xs fs s ids
  · rw [routeL_no g]; simp
  · rw [routeL_yes g, outW_len]; have := (routeB_short g).1; omega
/-- RouteLength. -/
def rlI (xs : List ByteArray) (fs : List Fib) (s : Int) (ids : List Int) : Int := if routeB xs fs s ids then lenR fs ids else 0
theorem rt_lens (h : routeB xs fs s ids = true) : 0 ≤ lenR fs ids ∧ lenR fs ids ≤ 35000 := by
  obtain ⟨hg, hr⟩ := routeB_good h
  have h1 := rlTo_bd (goodB_lens hg) (rtB_mem hr) ids.length (Nat.le_refl _)
  have h2 := (routeB_short h).1
  unfold lenR
  omega
end
/-- -1, 0 or 1. -/
def sgnI (x : Int) : Int := if x < 0 then -1 else if x > 0 then 1 else 0
/-- Two lists in their order, the shorter first where one begins with the other. -/
def cmpL : List Int → List Int → Int
  | [], [] => 0
  | [], _ :: _ => -1
  | _ :: _, [] => 1
  | x :: xs, y :: ys => if x < y then -1 else if y < x then 1 else cmpL xs ys
/-- Two routes in their order. -/
def cmpRt (fs : List Fib) (s : Int) (a : List Int) (t : Int) (b : List Int) : Int :=
  if lenR fs a ≠ lenR fs b then sgnI (lenR fs a - lenR fs b)
  else if a.length ≠ b.length then sgnI ((a.length : Int) - b.length)
  else if cmpL a b ≠ 0 then cmpL a b
  else sgnI (s - t)
theorem cmpL_at : ∀ {a b : List Int} {k : Nat} {x y : Int}, a.take k = b.take k → a[k]? = some x → b[k]? = some y → x ≠ y → cmpL a b = sgnI (x - y) := by
  intro a
  induction a with
  | nil => intro b k x y _ h; simp at h
  | cons u a ih =>
    intro b k x y ht ha hb hne
    cases b with
    | nil => simp at hb
    | cons v b =>
      cases k with
      | zero =>
        simp at ha hb; subst ha hb
        unfold cmpL sgnI
        by_cases h1 : u < v
        · rw [if_pos h1, if_pos (by omega)]
        · rw [if_neg h1, if_pos (by omega), if_neg (by omega), if_pos (by omega)]
      | succ k =>
        simp at ht ha hb
        unfold cmpL
        rw [ht.1, if_neg (by omega), if_neg (by omega)]
        exact ih ht.2 ha hb hne
theorem cmpL_same (a : List Int) : cmpL a a = 0 := by
  induction a with
  | nil => rfl
  | cons u a ih => unfold cmpL; rw [if_neg (by omega), if_neg (by omega)]; exact ih
theorem cmpL_short {a b : List Int} (ht : a = b.take a.length) (h : a.length < b.length) : cmpL a b = -1 := by
  induction a generalizing b with
  | nil => cases b with
    | nil => simp at h
    | cons v b => rfl
  | cons u a ih =>
    cases b with
    | nil => simp at h
    | cons v b =>
      simp at ht h
      unfold cmpL
      rw [ht.1, if_neg (by omega), if_neg (by omega)]
      exact ih ht.2 h
theorem cmpL_long {a b : List Int} (ht : a.take b.length = b) (h : b.length < a.length) : cmpL a b = 1 := by
  induction b generalizing a with
  | nil => cases a with
    | nil => simp at h
    | cons u a => rfl
  | cons v b ih =>
    cases a with
    | nil => simp at h
    | cons u a =>
      simp at ht h
      unfold cmpL
      rw [ht.1, if_neg (by omega), if_neg (by omega)]
      exact ih ht.2 h
end Go.Proofs.YtgoegldffjfmdaaGreat
/- Rows of rows of numbers. Conditions: none. -/
namespace Go.Proofs.YtgoegldffjfmdaaGreat
open Go.RowKit
/-- A slice, as a value. -/
structure Sl where
  A : Option Addr
  n : Nat
  c : Nat
def slV (s : Sl) : Value := .slice s.A s.n s.c
def elSl : El Sl := ⟨1, fun s => [slV s], fun _ => rfl, by decide, fun _ u h => by simp at h; subst h; rfl⟩
/-- The row v of slices is the call's own, and so is each of its slices; they hold rows; no two share memory. -/
def OwnsSS (w : World) (base : Nat) (v : Value) (ss : List Sl) (rows : List (List Int)) : Prop :=
  Owns elSl w base 26 v ss ∧ ss.length = rows.length ∧ (∀ (i : Nat) s r, ss[i]? = some s → rows[i]? = some r → Owns elInt w base 3 (slV s) r) ∧
    ∀ (i j : Nat) s t g, i < j → ss[i]? = some s → ss[j]? = some t → (slV s).ownBlock = some g → ¬ ((slV t).ownBlock = some g)
section
variable {w w' : World} {base : Nat} {v : Value} {ss : List Sl} {rows : List (List Int)}
theorem OwnsSS.below (h : OwnsSS w base v ss rows) (hb : Below w.heap.size w w') : OwnsSS w' base v ss rows :=
  ⟨h.1.below hb, h.2.1, fun i s r h1 h2 => (h.2.2.1 i s r h1 h2).below hb, h.2.2.2⟩
theorem OwnsSS.base_ {base' : Nat} (h : OwnsSS w base v ss rows) (hb : base' ≤ base) : OwnsSS w base' v ss rows :=
  ⟨h.1.base hb, h.2.1, fun i s r h1 h2 => (h.2.2.1 i s r h1 h2).base hb, h.2.2.2⟩
theorem OwnsSS.nil (w : World) (base : Nat) : OwnsSS w base (.slice none 0 0) [] [] :=
  ⟨World.ownsRow_nil _ _ _ _, rfl, fun i s r h1 => by simp at h1, fun i j s t g _ h1 => by simp at h1⟩
/-- One row more, made behind the others; the row of slices may have moved. -/
theorem OwnsSS.push {w2 w3 : World} {r0 : List Int} {s0 : Sl} {v' : Value} (h : OwnsSS w base v ss rows) (hb : Below w.heap.size w w2) (hbase : base ≤ w.heap.size) (hr : Owns elInt w2 w.heap.size 3 (slV s0) r0)
    (hown : Owns elSl w3 base 26 v' (ss ++ [s0])) (hg : w2.grownBy w3 v.ownBlock) : OwnsSS w3 base v' (ss ++ [s0]) (rows ++ [r0]) := by
  have h2 := h.below hb
  have ht : Touch (fun b => v.ownBlock = some b) w2 w3 := ⟨hg.os, hg.tape, hg.output, hg.size, fun k hk hn => hg.block k hk (fun e => hn e.symm)⟩
  refine ⟨hown, by simp [h.2.1], fun i s r h3 h4 => ?_, fun i j s t g hij h3 h4 h5 h6 => ?_⟩
  · rcases Nat.lt_or_ge i ss.length with hi | hi
    · rw [List.getElem?_append_left hi] at h3
      rw [List.getElem?_append_left (by rw [← h.2.1]; exact hi)] at h4
      have ho := h2.2.2.1 i s r h3 h4
      exact ho.touch ht (fun g hg' => owns_ne h2.1 ho (by decide) g hg')
    · rw [List.getElem?_append_right hi] at h3
      rw [List.getElem?_append_right (by rw [← h.2.1]; exact hi)] at h4
      have e1 : i - ss.length = 0 := by have := (List.getElem?_eq_some_iff.1 h3).1; simp at this; omega
      have e2 : i - rows.length = 0 := by rw [← h.2.1]; exact e1
      rw [e1] at h3; rw [e2] at h4
      simp at h3 h4; subst h3; subst h4
      exact (hr.touch ht (fun g hg' => owns_ne h2.1 hr (by decide) g hg')).base hbase
  · rcases Nat.lt_or_ge j ss.length with hj | hj
    · rw [List.getElem?_append_left hj] at h4
      rw [List.getElem?_append_left (by omega)] at h3
      exact h.2.2.2 i j s t g hij h3 h4 h5 h6
    · rw [List.getElem?_append_right hj] at h4
      have e1 : j - ss.length = 0 := by have := (List.getElem?_eq_some_iff.1 h4).1; simp at this; omega
      rw [e1] at h4; simp at h4; subst h4
      rw [List.getElem?_append_left (by omega)] at h3
      obtain ⟨r, hrr⟩ : ∃ r, rows[i]? = some r := ⟨rows[i]'(by rw [← h.2.1]; omega), List.getElem?_eq_getElem _⟩
      have a1 := ((h.2.2.1 i s r h3 hrr).lies g h5).2
      have a2 := (hr.lies g h6).1
      omega
end
theorem sl_info : (Tryz.prog.info? 26).map (fun i => (i.zero, i.size, i.bytes)) = some (some (.slice none 0 0), 1, 24) := by kernel_rfl
end Go.Proofs.YtgoegldffjfmdaaGreat
/- eqIntSS, walked. Conditions: at most 1048576 rows and numbers in a row. -/
namespace Go.Proofs.YtgoegldffjfmdaaGreat
open Go.RowKit
/-- Rows of numbers as they read. -/
def SeesSS (w : World) (A : Option Addr) (n : Nat) (ss : List Sl) (rows : List (List Int)) : Prop :=
  Sees elSl w w.heap.size A n ss ∧ ss.length = rows.length ∧ ∀ (i : Nat) s r, ss[i]? = some s → rows[i]? = some r → s.n = r.length ∧ Sees elInt w w.heap.size s.A s.n r
theorem OwnsSS.sees {w : World} {base n c : Nat} {A : Option Addr} {ss : List Sl} {rows : List (List Int)} (h : OwnsSS w base (.slice A n c) ss rows) : SeesSS w A ss.length ss rows := by
  refine ⟨h.1.sees, h.2.1, fun i s r h1 h2 => ?_⟩
  have ho := h.2.2.1 i s r h1 h2
  obtain ⟨A', c', hv, _, _, hs⟩ := ho.form
  unfold slV at hv
  injection hv with e1 e2 e3
  exact ⟨e2, by rw [e1, e2]; exact hs⟩
theorem SeesSS.grow {w w' : World} {A : Option Addr} {n : Nat} {ss : List Sl} {rows : List (List Int)} (h : SeesSS w A n ss rows) (hb : Below w.heap.size w w') : SeesSS w' A n ss rows :=
  ⟨(h.1.grow hb).more hb.size, h.2.1, fun i s r h1 h2 => ⟨(h.2.2 i s r h1 h2).1, ((h.2.2 i s r h1 h2).2.grow hb).more hb.size⟩⟩
end Go.Proofs.YtgoegldffjfmdaaGreat
/- markIntSS, walked. Conditions: at most 1048576 rows and numbers in a row; the last mark below 2^40. -/
namespace Go.Proofs.YtgoegldffjfmdaaGreat
open Go.RowKit
/-- The mark at which row j begins. -/
def offS (k : Int) (rows : List (List Int)) (j : Nat) : Int := k + ((((rows.take j).map List.length).sum : Nat) : Int)
theorem offS_zero (k : Int) (rows : List (List Int)) : offS k rows 0 = k := by simp [offS]
theorem offS_succ {k : Int} {rows : List (List Int)} {j : Nat} {r : List Int} (h : rows[j]? = some r) : offS k rows (j + 1) = offS k rows j + (r.length : Int) := by
  unfold offS
  rw [List.take_add_one, h]
  simp
  omega
theorem offS_ge (k : Int) (rows : List (List Int)) (j : Nat) : k ≤ offS k rows j := by unfold offS; omega
theorem offS_le {k : Int} {rows : List (List Int)} : ∀ {d j : Nat}, j + d = rows.length → offS k rows j ≤ offS k rows rows.length := by
  intro d
  induction d with
  | zero => intro j h; rw [show j = rows.length by omega]; exact Int.le_refl _
  | succ d ih =>
    intro j h
    have h1 := ih (j := j + 1) (by omega)
    obtain ⟨r, hr⟩ : ∃ r, rows[j]? = some r := ⟨rows[j]'(by omega), List.getElem?_eq_getElem _⟩
    rw [offS_succ hr] at h1
    omega
/-- Row i behind j rows' marking. -/
def rowM (k : Int) (rows : List (List Int)) (j i : Nat) (r : List Int) : List Int := if i < j then marks (offS k rows i) r.length else r
/-- All rows, marked. -/
def marksSS (k : Int) (rows : List (List Int)) : List (List Int) := (List.range rows.length).map fun i => marks (offS k rows i) (rows.getD i []).length
theorem marksSS_get {k : Int} {rows : List (List Int)} {i : Nat} {r q : List Int} (h : rows[i]? = some r) (hq : (marksSS k rows)[i]? = some q) : q = marks (offS k rows i) r.length := by
  have hi := (List.getElem?_eq_some_iff.1 h).1
  unfold marksSS at hq
  rw [List.getElem?_map, List.getElem?_range hi] at hq
  simp [h] at hq
  exact hq.symm
end Go.Proofs.YtgoegldffjfmdaaGreat
/- markText, walked: the letter m and the digits. Conditions: the number is at most 2^40 and a bit. -/
namespace Go.Proofs.YtgoegldffjfmdaaGreat
open Go.RowKit Go.WideShapes
/-- The digits of k ahead of out, with fuel. -/
def mtGo : Nat → Nat → List UInt8 → List UInt8
  | 0, _, out => out
  | f + 1, k, out => if k = 0 then out else mtGo f (k / 10) (UInt8.ofNat (48 + k % 10) :: out)
theorem mtGo_zero (f : Nat) (out : List UInt8) : mtGo f 0 out = out := by cases f <;> simp [mtGo]
theorem mtGo_succ {f k : Nat} {out : List UInt8} (hk : 0 < k) (hf : k ≤ f) : ∃ f', k / 10 ≤ f' ∧ mtGo f k out = mtGo f' (k / 10) (UInt8.ofNat (48 + k % 10) :: out) := by
  cases f with
  | zero => omega
  | succ f => exact ⟨f, by omega, by rw [mtGo, if_neg (by omega)]⟩
def mtx (k : Nat) : ByteArray := ⟨(109 :: (if k = 0 then [48] else mtGo k k [])).toArray⟩
theorem bytes_cons (c : UInt8) (out : List UInt8) : (⟨#[c]⟩ : ByteArray) ++ ⟨out.toArray⟩ = ⟨(c :: out).toArray⟩ := by
  apply bytes_inj
  simp [ByteArray.data_append]
set_option maxRecDepth 100000 in
theorem markText_any (k : Int) (w : World) (h0 : 0 ≤ k) (h1 : k ≤ 1099512676352) :
    Calls Tryz.prog 67 #[.int .i64 k] w fun e w' => e = .returned (.string (mtx k.toNat)) ∧ Below w.heap.size w w' := by
  by_cases hz : k = 0
  · subst hz
    go_enter Tryz.func67, Tryz.ntmps67
    go_wp2
    go_ret
    exact ⟨rfl, Below.refl _ _⟩
  · have hpos : 0 < k := by omega
    have HM : Hid (mtx k.toNat = ⟨(109 :: mtGo k.toNat k.toNat []).toArray⟩) := by unfold Hid mtx; rw [if_neg (by omega)]
    clear hz
    go_enter Tryz.func67, Tryz.ntmps67
    go_wp2
    go_loopw [0, 3] (fun t o wr => ∃ (r f : Nat) (out : List UInt8), t = .int .i64 r ∧ o = .string ⟨out.toArray⟩ ∧ r ≤ 1099512676352 ∧ out.length + r ≤ 1099512676352 ∧ r ≤ f ∧ Hid (mtGo k.toNat k.toNat [] = mtGo f r out) ∧ Below w.heap.size w wr) (fun t _ _ => (intOf t).toNat)
    case atStart => exact ⟨k.toNat, k.toNat, [], by rw [Int.toNat_of_nonneg h0], rfl, by omega, by simp; omega, Nat.le_refl _, rfl, Below.refl _ _⟩
    case round =>
      obtain ⟨r, f, out, rfl, rfl, hr1, hol, hrf, hgo, hb⟩ := hrel
      by_cases hlt : 0 < r
      · obtain ⟨f', hf', hs⟩ := mtGo_succ (out := out) hlt hrf
        have hdig : ((UInt8.ofNat (48 + r % 10)).toNat : Int) = 48 + (r : Int) % 10 := by
          have h9 : (UInt8.ofNat (48 + r % 10)).toNat = 48 + r % 10 := by simp; omega
          rw [h9]; omega
        have hcv := run_convert_bytes_back (P := Tryz.prog) (wr.alloc (.cells #[.int .u8 (48 + (r : Int) % 10)] 5)) 44 9 5 ⟨wr.heap.size, 0, none⟩ 1 [UInt8.ofNat (48 + r % 10)] Tryz.underlying44 Tryz.underlying5 Tryz.underlying9 (by
          intro j hj
          obtain rfl : j = 0 := by simpa using hj
          simp only [List.getElem_cons_zero, hdig]
          go_simp)
        simp only [List.length_cons, List.length_nil, Nat.zero_add] at hcv
        have HS := hid (hgo.out.trans hs)
        clear hdig hs hgo
        go_wp2
        go_roundw
        case rel => exact ⟨r / 10, f', UInt8.ofNat (48 + r % 10) :: out, by go_num, by rw [show UInt8.ofNat (48 + r % 10) = 48 + UInt8.ofNat (r % 10) by simp]; exact congrArg Value.string (bytes_cons _ _), by omega, by simp only [List.length_cons]; omega, hf', HS, bl_alloc hb _⟩
        case measure => simp [intOf]; omega
      · obtain rfl : r = 0 := by omega
        have HE : Hid (mtx k.toNat = ⟨(109 :: out).toArray⟩) := by have := hgo.out; rw [mtGo_zero] at this; rw [HM.out, this]; rfl
        clear hgo
        go_wp2
        go_ret
        exact ⟨by rw [HE.out, ← bytes_cons]; rfl, hb⟩
end Go.Proofs.YtgoegldffjfmdaaGreat
/- markStringS and heldStringS, walked. Conditions: at most 1048576 strings, marks below 2^40. -/
namespace Go.Proofs.YtgoegldffjfmdaaGreat
open Go.RowKit
/-- The texts of the numbers from k on. -/
def smarks (k : Int) (n : Nat) : List ByteArray := (List.range n).map fun (j : Nat) => mtx (k + (j : Int)).toNat
theorem smarks_len (k : Int) (n : Nat) : (smarks k n).length = n := by simp [smarks]
theorem smarks_get {k : Int} {n j : Nat} (h : j < n) : (smarks k n)[j]? = some (mtx (k + (j : Int)).toNat) := by simp [smarks, h]
set_option maxRecDepth 100000 in
theorem markStringS_any {base n : Nat} {v : Value} {xs : List ByteArray} (k : Int) (w : World) (h : Owns elStr w base 9 v xs) (hl : xs.length = n) (hn : n ≤ 1048576) (hk0 : 0 ≤ k) (hk : k ≤ 1099510579200) :
    Calls Tryz.prog 37 #[v, .int .i64 k] w fun e w' => e = .returned (.int .i64 (k + n)) ∧ Owns elStr w' base 9 v (smarks k n) ∧ Touch (fun b => v.ownBlock = some b) w w' := by
  rcases h.cases with ⟨rfl, rfl⟩ | ⟨g, cap, cur0, rfl, hg, hb0, hnc, hcm, hs0, _⟩
  · subst hl
    go_enter Tryz.func37, Tryz.ntmps37
    go_wp2
    refine wp_loop_rounds 1 ?_
    rw [rounds_succ]
    go_wp2
    go_ret
    exact ⟨by simp, h, Touch.refl _ _⟩
  · rw [hl] at hnc ⊢
    have hc' : Hid (cur0.size = cap) := by rw [hs0]; exact Nat.mul_one cap
    have hb0' := hid hb0
    clear hl hs0 h hb0
    go_enter Tryz.func37, Tryz.ntmps37
    go_wp2
    go_loopw [1, 5] (fun t i wr => ∃ (j : Nat) (r : Int) (cur : Array Value), j ≤ n ∧ i = .int .i64 j ∧ t = .int .i64 r ∧ r ≤ 1099510579200 + j ∧ 0 ≤ r ∧ Hid (r = k + j) ∧ Hid (Blk wr g 9 cur) ∧ Hid (cur.size = cap) ∧ Hid (Filled elStr cur (smarks k n) j) ∧ Touch (fun b => some g = some b) w wr) (fun _ i _ => n - (intOf i).toNat)
    case atStart => exact ⟨0, k, cur0, Nat.zero_le _, rfl, rfl, by omega, hk0, by unfold Hid; simp, hb0', hc', Filled.zero _ _ _, Touch.refl _ _⟩
    case round =>
      clear hb0' hc'
      obtain ⟨j, r, cur, hj, rfl, rfl, hr1, hr0, hr, hblk, hsz, hfill, ht⟩ := hrel
      by_cases hlt : j < n
      · go_wp2_with fail
        refine (markText_any r _ hr0 (by omega)).mono ?_
        rintro e w2 ⟨rfl, hb2⟩
        have hblk2 := hid (hblk.out.below hb2 hblk.out.lt)
        obtain ⟨u, hu⟩ := hblk2.out.cell_ (i := j) (by rw [hsz.out]; omega)
        have hfz := hblk2.out.frozen j
        have HB := hid (hblk2.out.set j (.string (mtx r.toNat)))
        have HS : Hid ((cur.setIfInBounds j (.string (mtx r.toNat))).size = cap) := by rw [Array.size_setIfInBounds]; exact hsz
        have HF : Hid (Filled elStr (cur.setIfInBounds j (.string (mtx r.toNat))) (smarks k n) (j + 1)) := filled_str hfill.out (by rw [hr.out]; exact smarks_get hlt) (by rw [hsz.out]; omega)
        have HR : Hid (r + 1 = k + ((j + 1 : Nat) : Int)) := by have := hr.out; unfold Hid; omega
        have HT := (ht.then_ hb2).trans (Touch.set (S := fun b => some g = some b) w2 (p := ⟨g, j, none⟩) rfl (.string (mtx r.toNat)))
        clear hblk hblk2 hsz hfill hr ht
        go_wp2
        go_roundw
        case rel => exact ⟨j + 1, _, _, by omega, by go_num, rfl, by omega, by omega, HR, HB, HS, HF, HT⟩
        case measure => simp [intOf]; omega
      · have hjn : j = n := by omega
        have HE : Hid (r = k + (n : Int)) := by rw [← hjn]; exact hr
        have HO := hid (Owns.of_blk (E := elStr) (base := base) hblk.out hg (smarks_len k n) hnc (by rw [hsz.out]; exact (Nat.mul_one _).symm) hcm (by have hq := hfill.out; rw [hjn] at hq; exact hq))
        clear hblk hsz hfill hr
        go_wp2
        go_ret
        exact ⟨by rw [HE.out]; rfl, HO.out, ht⟩
end Go.Proofs.YtgoegldffjfmdaaGreat
