/- Lemmas and walks that the claim rests on, laid together. Conditions: none. -/
import Derived.Test.YtfepilpllfiegaaRows
import Derived.Test.YtfepilpllfiegaaZ5f3a9e2c6d48
import Derived.Test.YtfepilpllfiegaaZc731a5b1582e
import Derived.Test.YtfepilpllfiegaaZ76d3d4a5ee99
import Derived.Test.YtfepilpllfiegaaZc3e33f13110d
import Derived.Test.YtfepilpllfiegaaZ1096401160fd
import Derived.BigQuiet
import Derived.Deep.RegionWith
import Derived.Deep.LoopGhost
import Derived.Deep.RegionHeld3
/- szRoute, toRoute, eqRoute; IsValidRoute and RouteNodes of both sides, walked. Conditions: at most 1048576 fibers. -/
namespace Go.Proofs.Ytfepilpllfiegaa
open Go.RowKit
/-- The nodes of a route. -/
def routeL (xs : List ByteArray) (fs : List Fib) (s : Int) (ids : List Int) : List Int := if goodB xs fs then rtL xs.length fs s ids else []
section
variable {n c m d kr er : Nat} {A A' R : Option Addr} {xs : List ByteArray} {fs : List Fib} {ids : List Int}
set_option maxHeartbeats 1000000 in
set_option maxRecDepth 100000 in
theorem l4Good_any (s : Int) (w : World) (h : NetIs w A n c A' m d xs fs) (hr : RtIs w R kr er ids) :
    Calls Try.prog 95 #[.agg #[.slice A n c, .slice A' m d], .agg #[.int .i64 s, .slice R kr er]] w fun e w' => e = .returned (.bool (routeB xs fs s ids)) ∧ Below w.heap.size w w' := by
  have hb0 := bl_alloc (bl_alloc (Below.refl w.heap.size w) (.cells #[.slice A n c, .slice A' m d] 27)) (.cells #[.int .i64 s, .slice R kr er] 35)
  have hx0 : Blk ((w.alloc (.cells #[.slice A n c, .slice A' m d] 27)).alloc (.cells #[.int .i64 s, .slice R kr er] 35)) w.heap.size 27 #[.slice A n c, .slice A' m d] := (Blk.new _ _ _).alloc _
  have hy0 : Blk ((w.alloc (.cells #[.slice A n c, .slice A' m d] 27)).alloc (.cells #[.int .i64 s, .slice R kr er] 35)) (w.heap.size + 1) 35 #[.int .i64 s, .slice R kr er] := by
    have := Blk.new (w.alloc (.cells #[.slice A n c, .slice A' m d] 27)) 35 #[.int .i64 s, .slice R kr er]
    simpa using this
  have h0 := h.grow hb0
  have hr0 := hr.grow hb0
  cases g : goodB xs fs
  · have H : Hid (routeB xs fs s ids = false) := by unfold Hid routeB; rw [g]; rfl
    go_enter Try.func95, Try.ntmps95
    go_wp2_with fail
    refine (goodN _ h0).mono ?_
    rintro e w1 ⟨rfl, hb1⟩
    rw [g]
    go_wp2_with fail
    go_ret
    exact ⟨by rw [H.out]; rfl, bl_then hb0 hb1⟩
  · have H : Hid (routeB xs fs s ids = rtB n fs s ids) := by unfold Hid routeB; rw [g, h.xlen]; rfl
    go_enter Try.func95, Try.ntmps95
    go_wp2_with fail
    refine (goodN _ h0).mono ?_
    rintro e w1 ⟨rfl, hb1⟩
    rw [g]
    have p0 := (hx0.below hb1 hx0.lt).cell 0
    have p1 := (hx0.below hb1 hx0.lt).cell 1
    have p2 := (hy0.below hb1 hy0.lt).cell 0
    have p3 := (hy0.below hb1 hy0.lt).cell 1
    simp at p0 p1 p2 p3
    go_wp2_with fail
    refine (l4Walk_any s w1 (h0.grow hb1) (hr0.grow hb1)).mono ?_
    rintro e w2 ⟨v2, rfl, _, hb2⟩
    go_wp2_with fail
    go_ret
    exact ⟨by rw [H.out]; rfl, bl_then (bl_then hb0 hb1) hb2⟩
set_option maxRecDepth 100000 in
theorem specIsValidRoute (s : Int) (w : World) (h : NetIs w A n c A' m d xs fs) (hr : RtIs w R kr er ids) :
    Calls Try.prog 40 #[.agg #[.slice A n c, .slice A' m d], .agg #[.int .i64 s, .slice R kr er]] w fun e w' => e = .returned (.bool (routeB xs fs s ids)) ∧ Below w.heap.size w w' := by
  have hb0 := bl_alloc (bl_alloc (Below.refl w.heap.size w) (.cells #[.slice A n c, .slice A' m d] 27)) (.cells #[.int .i64 s, .slice R kr er] 35)
  have hx0 : Blk ((w.alloc (.cells #[.slice A n c, .slice A' m d] 27)).alloc (.cells #[.int .i64 s, .slice R kr er] 35)) w.heap.size 27 #[.slice A n c, .slice A' m d] := (Blk.new _ _ _).alloc _
  have hy0 : Blk ((w.alloc (.cells #[.slice A n c, .slice A' m d] 27)).alloc (.cells #[.int .i64 s, .slice R kr er] 35)) (w.heap.size + 1) 35 #[.int .i64 s, .slice R kr er] := by
    have := Blk.new (w.alloc (.cells #[.slice A n c, .slice A' m d] 27)) 35 #[.int .i64 s, .slice R kr er]
    simpa using this
  have h0 := h.grow hb0
  have hr0 := hr.grow hb0
  go_enter Try.func40, Try.ntmps40
  go_wp2_with fail
  refine (l4Good_any s _ h0 hr0).mono ?_
  rintro e w1 ⟨rfl, hb1⟩
  go_wp2_with fail
  go_ret
  exact ⟨rfl, bl_then hb0 hb1⟩
set_option maxHeartbeats 1000000 in
set_option maxRecDepth 100000 in
theorem implRouteNodes (s : Int) (w : World) (h : NetIs w A n c A' m d xs fs) (hr : RtIs w R kr er ids) :
    Calls Try.prog 15 #[.agg #[.slice A n c, .slice A' m d], .agg #[.int .i64 s, .slice R kr er]] w fun e w' => ∃ v, e = .returned (.tuple #[v, .bool (routeB xs fs s ids)]) ∧ Owns elInt w' w.heap.size 3 v (routeL xs fs s ids) ∧ Below w.heap.size w w' := by
  have hb0 := bl_alloc (bl_alloc (Below.refl w.heap.size w) (.cells #[.slice A n c, .slice A' m d] 27)) (.cells #[.int .i64 s, .slice R kr er] 35)
  have hx0 : Blk ((w.alloc (.cells #[.slice A n c, .slice A' m d] 27)).alloc (.cells #[.int .i64 s, .slice R kr er] 35)) w.heap.size 27 #[.slice A n c, .slice A' m d] := (Blk.new _ _ _).alloc _
  have hy0 : Blk ((w.alloc (.cells #[.slice A n c, .slice A' m d] 27)).alloc (.cells #[.int .i64 s, .slice R kr er] 35)) (w.heap.size + 1) 35 #[.int .i64 s, .slice R kr er] := by
    have := Blk.new (w.alloc (.cells #[.slice A n c, .slice A' m d] 27)) 35 #[.int .i64 s, .slice R kr er]
    simpa using this
  have h0 := h.grow hb0
  have hr0 := hr.grow hb0
  cases g : goodB xs fs
  · have H : Hid (routeB xs fs s ids = false ∧ routeL xs fs s ids = []) := by unfold Hid routeB routeL; rw [g]; exact ⟨rfl, rfl⟩
    go_enter Try.func15, Try.ntmps15
    go_wp2_with fail
    refine (validN _ h0).mono ?_
    rintro e w1 ⟨rfl, hb1⟩
    rw [g]
    go_wp2_with fail
    go_ret2
    exact ⟨_, by rw [H.out.1]; rfl, by rw [H.out.2]; exact World.ownsRow_nil _ _ _ _, bl_then hb0 hb1⟩
  · have H : Hid (routeB xs fs s ids = rtB n fs s ids ∧ routeL xs fs s ids = rtL n fs s ids) := by unfold Hid routeB routeL; rw [g, h.xlen]; exact ⟨rfl, rfl⟩
    go_enter Try.func15, Try.ntmps15
    go_wp2_with fail
    refine (validN _ h0).mono ?_
    rintro e w1 ⟨rfl, hb1⟩
    rw [g]
    have p0 := (hx0.below hb1 hx0.lt).cell 0
    have p1 := (hx0.below hb1 hx0.lt).cell 1
    have p2 := (hy0.below hb1 hy0.lt).cell 0
    have p3 := (hy0.below hb1 hy0.lt).cell 1
    simp at p0 p1 p2 p3
    go_wp2_with fail
    refine (visited_any s w1 (h0.grow hb1) (hr0.grow hb1)).mono ?_
    rintro e w2 ⟨v2, rfl, ho2, hb2⟩
    have hbw := bl_then hb0 hb1
    have HO := hid ho2
    clear ho2
    go_wp2_with fail
    go_ret2
    exact ⟨_, by rw [H.out.1]; rfl, by rw [H.out.2]; exact HO.out.base hbw.size, bl_then hbw hb2⟩
set_option maxRecDepth 100000 in
theorem implIsValidRoute (s : Int) (w : World) (h : NetIs w A n c A' m d xs fs) (hr : RtIs w R kr er ids) :
    Calls Try.prog 92 #[.agg #[.slice A n c, .slice A' m d], .agg #[.int .i64 s, .slice R kr er]] w fun e w' => e = .returned (.bool (routeB xs fs s ids)) ∧ Below w.heap.size w w' := by
  have hb0 := bl_alloc (bl_alloc (Below.refl w.heap.size w) (.cells #[.slice A n c, .slice A' m d] 27)) (.cells #[.int .i64 s, .slice R kr er] 35)
  have hx0 : Blk ((w.alloc (.cells #[.slice A n c, .slice A' m d] 27)).alloc (.cells #[.int .i64 s, .slice R kr er] 35)) w.heap.size 27 #[.slice A n c, .slice A' m d] := (Blk.new _ _ _).alloc _
  have hy0 : Blk ((w.alloc (.cells #[.slice A n c, .slice A' m d] 27)).alloc (.cells #[.int .i64 s, .slice R kr er] 35)) (w.heap.size + 1) 35 #[.int .i64 s, .slice R kr er] := by
    have := Blk.new (w.alloc (.cells #[.slice A n c, .slice A' m d] 27)) 35 #[.int .i64 s, .slice R kr er]
    simpa using this
  have h0 := h.grow hb0
  have hr0 := hr.grow hb0
  go_enter Try.func92, Try.ntmps92
  go_wp2_with fail
  refine (implRouteNodes s _ h0 hr0).mono ?_
  rintro e w1 ⟨v1, rfl, _, hb1⟩
  go_wp2_with fail
  go_ret
  exact ⟨rfl, bl_then hb0 hb1⟩
end
end Go.Proofs.Ytfepilpllfiegaa
/- Routes in plain Lean: how long they are at most; their lengths; their order. Conditions: none. -/
namespace Go.Proofs.Ytfepilpllfiegaa
/-- Different numbers below n are n at most. -/
theorem nodup_bd : ∀ (n : Nat) (l : List Int), l.Nodup → (∀ x ∈ l, 0 ≤ x ∧ x < n) → l.length ≤ n := by
  intro n
  induction n with
  | zero =>
    intro l _ h
    cases l with
    | nil => exact Nat.le_refl _
    | cons x l => have := h x (by simp); omega
  | succ n ih =>
    intro l hd h
    have h1 := ih (l.erase (n : Int)) (hd.erase _) (fun x hx => by
      have := (List.Nodup.mem_erase_iff hd).1 hx
      have h2 := h x this.2
      have h3 := this.1
      omega)
    have h2 : l.length ≤ (l.erase (n : Int)).length + 1 := by rw [List.length_erase]; split <;> omega
    omega
section
variable {n : Nat} {fs : List Fib} {s : Int} {ids : List Int}
theorem rtB_parts (h : rtB n fs s ids = true) : inB 0 ((n : Int) - 1) s = true ∧ ids ≠ [] ∧ allTo (okW fs.length fs s ids) ids.length := by
  unfold rtB at h
  rw [Bool.and_eq_true, Bool.and_eq_true] at h
  refine ⟨h.1, fun e => ?_, allB_iff.1 h.2.2⟩
  rw [e] at h; simp at h
theorem okW_parts {m k : Nat} (h : okW m fs s ids k = true) : inB 0 ((m : Int) - 1) (ids.getD k 0) = true ∧ 0 ≤ atW fs s ids (k + 1) ∧ hasB (outW fs s ids k) (atW fs s ids (k + 1)) = false := by
  unfold okW at h
  rw [Bool.and_eq_true, Bool.and_eq_true] at h
  refine ⟨h.1, ?_, by simpa using h.2.2⟩
  have := h.2.1
  simp at this; exact this
theorem rtB_at (h : rtB n fs s ids = true) {k : Nat} {i : Int} (hi : ids[k]? = some i) : 0 ≤ i ∧ i < fs.length := by
  have hk : k < ids.length := (List.getElem?_eq_some_iff.1 hi).1
  have h1 := (okW_parts ((rtB_parts h).2.2 k hk)).1
  rw [getD_of hi] at h1
  exact inB_idx h1
theorem rtB_mem (h : rtB n fs s ids = true) : ∀ x ∈ ids, 0 ≤ x ∧ x < fs.length := by
  intro x hx
  obtain ⟨k, hk, e⟩ := List.mem_iff_getElem.1 hx
  exact rtB_at h (k := k) (by rw [List.getElem?_eq_getElem hk, e])
theorem outW_nodup (h : allTo (okW fs.length fs s ids) ids.length) : ∀ k, k ≤ ids.length → (outW fs s ids k).Nodup := by
  intro k
  induction k with
  | zero => intro _; rw [outW_zero]; simp
  | succ k ih =>
    intro hk
    rw [outW_succ, List.nodup_append]
    refine ⟨ih (by omega), by simp, fun a ha b hb => ?_⟩
    simp at hb; subst hb
    have h1 := (okW_parts (h k (by omega))).2.2
    intro e
    subst e
    rw [hasB_iff.2 ha] at h1; cases h1
theorem outW_range (hf : ∀ f ∈ fs, fibB n f = true) (h : rtB n fs s ids = true) : ∀ k, k ≤ ids.length → ∀ x ∈ outW fs s ids k, 0 ≤ x ∧ x < n := by
  obtain ⟨hs, _, hall⟩ := rtB_parts h
  intro k
  induction k with
  | zero => intro _ x hx; rw [outW_zero] at hx; simp at hx; subst hx; exact inB_idx hs
  | succ k ih =>
    intro hk x hx
    rw [outW_succ] at hx
    rcases List.mem_append.1 hx with hx | hx
    · exact ih (by omega) x hx
    · simp at hx; subst hx
      have hok := okW_parts (hall k (by omega))
      have hki : k < ids.length := by omega
      have hi := rtB_at h (List.getElem?_eq_getElem hki)
      have hfi : fs[(ids[k]).toNat]? = some (fs[(ids[k]).toNat]'(by omega)) := List.getElem?_eq_getElem _
      have e := atW_succ (s := s) (List.getElem?_eq_getElem hki) hfi
      have hb := otherF_bd (hf _ (List.mem_of_getElem? hfi)) (atW fs s ids k)
      rw [← e] at hb
      exact ⟨hok.2.1, hb.2⟩
theorem rtB_short (hf : ∀ f ∈ fs, fibB n f = true) (h : rtB n fs s ids = true) : ids.length + 1 ≤ n := by
  have h1 := nodup_bd n (outW fs s ids ids.length) (outW_nodup (rtB_parts h).2.2 _ (Nat.le_refl _)) (outW_range hf h _ (Nat.le_refl _))
  rw [outW_len] at h1
  exact h1
end
/-- The length of the first k fibers. -/
def rlTo (fs : List Fib) (ids : List Int) (k : Nat) : Int := ((ids.take k).map fun i => (fs.getD i.toNat ⟨0, 0, 0, 0⟩).len).sum
/-- The length of a route. -/
def lenR (fs : List Fib) (ids : List Int) : Int := rlTo fs ids ids.length
theorem rlTo_zero (fs : List Fib) (ids : List Int) : rlTo fs ids 0 = 0 := by simp [rlTo]
theorem rlTo_succ {fs : List Fib} {ids : List Int} {k : Nat} {i : Int} {f : Fib} (hi : ids[k]? = some i) (hf : fs[i.toNat]? = some f) : rlTo fs ids (k + 1) = rlTo fs ids k + f.len := by
  unfold rlTo
  rw [List.take_add_one, hi]
  simp [hf]
theorem rlTo_bd {fs : List Fib} {ids : List Int} (hl : ∀ f ∈ fs, 0 ≤ f.len ∧ f.len ≤ 5000) (hin : ∀ x ∈ ids, 0 ≤ x ∧ x < fs.length) : ∀ k, k ≤ ids.length → 0 ≤ rlTo fs ids k ∧ rlTo fs ids k ≤ 5000 * (k : Int) := by
  intro k
  induction k with
  | zero => intro _; rw [rlTo_zero]; omega
  | succ k ih =>
    intro hk
    have h1 := ih (by omega)
    have hki : k < ids.length := by omega
    have hi := hin _ (List.getElem_mem hki)
    have hfi : fs[(ids[k]).toNat]? = some (fs[(ids[k]).toNat]'(by omega)) := List.getElem?_eq_getElem _
    rw [rlTo_succ (List.getElem?_eq_getElem hki) hfi]
    have := hl _ (List.mem_of_getElem? hfi)
    omega
section
variable {xs : List ByteArray} {fs : List Fib} {s : Int} {ids : List Int}
theorem routeB_good (h : routeB xs fs s ids = true) : goodB xs fs = true ∧ rtB xs.length fs s ids = true := by unfold routeB at h; simpa using h
theorem goodB_lens (h : goodB xs fs = true) : ∀ f ∈ fs, 0 ≤ f.len ∧ f.len ≤ 5000 := fun f hf => by
  have := goodB_fibB h hf
  unfold fibB at this; simp at this; omega
theorem routeB_short (h : routeB xs fs s ids = true) : ids.length ≤ 7 ∧ 1 ≤ ids.length := by
  obtain ⟨hg, hr⟩ := routeB_good h
  have h1 := rtB_short (fun f hf => goodB_fibB hg hf) hr
  have h2 := (goodB_bd hg).2.1
  have h3 := (rtB_parts hr).2.1
  have : ids.length ≠ 0 := fun e => h3 (List.eq_nil_of_length_eq_zero e)
  omega
theorem routeL_yes (h : routeB xs fs s ids = true) : routeL xs fs s ids = outW fs s ids ids.length := by
  obtain ⟨hg, hr⟩ := routeB_good h
  unfold routeL; rw [hg]; simp [rtL_yes hr]
theorem routeL_no (h : routeB xs fs s ids = false) : routeL xs fs s ids = [] := by
  unfold routeB at h; unfold routeL
  cases g : goodB xs fs
  · rfl
  · rw [g] at h; simp at h; simp [rtL_no h]
theorem routeL_len : (routeL xs fs s ids).length ≤ 8 := by
  cases g : routeB xs fs s ids
  · rw [routeL_no g]; simp
  · rw [routeL_yes g, outW_len]; have := (routeB_short g).1; omega
/-- RouteLength. -/
def rlI (xs : List ByteArray) (fs : List Fib) (s : Int) (ids : List Int) : Int := if routeB xs fs s ids then lenR fs ids else 0
theorem rt_lens (h : routeB xs fs s ids = true) : 0 ≤ lenR fs ids ∧ lenR fs ids ≤ 35000 := by
  obtain ⟨hg, hr⟩ := routeB_good h
  have h1 := rlTo_bd (goodB_lens hg) (rtB_mem hr) ids.length (Nat.le_refl _)
  have h2 := (routeB_short h).1
  unfold lenR
  omega
end
/-- -1, 0 or 1. -/
def sgnI (x : Int) : Int := if x < 0 then -1 else if x > 0 then 1 else 0
/-- Two lists in their order, the shorter first where one begins with the other. -/
def cmpL : List Int → List Int → Int
  | [], [] => 0
  | [], _ :: _ => -1
  | _ :: _, [] => 1
  | x :: xs, y :: ys => if x < y then -1 else if y < x then 1 else cmpL xs ys
/-- Two routes in their order. -/
def cmpRt (fs : List Fib) (s : Int) (a : List Int) (t : Int) (b : List Int) : Int :=
  if lenR fs a ≠ lenR fs b then sgnI (lenR fs a - lenR fs b)
  else if a.length ≠ b.length then sgnI ((a.length : Int) - b.length)
  else if cmpL a b ≠ 0 then cmpL a b
  else sgnI (s - t)
theorem cmpL_at : ∀ {a b : List Int} {k : Nat} {x y : Int}, a.take k = b.take k → a[k]? = some x → b[k]? = some y → x ≠ y → cmpL a b = sgnI (x - y) := by
  intro a
  induction a with
  | nil => intro b k x y _ h; simp at h
  | cons u a ih =>
    intro b k x y ht ha hb hne
    cases b with
    | nil => simp at hb
    | cons v b =>
      cases k with
      | zero =>
        simp at ha hb; subst ha hb
        unfold cmpL sgnI
        by_cases h1 : u < v
        · rw [if_pos h1, if_pos (by omega)]
        · rw [if_neg h1, if_pos (by omega), if_neg (by omega), if_pos (by omega)]
      | succ k =>
        simp at ht ha hb
        unfold cmpL
        rw [ht.1, if_neg (by omega), if_neg (by omega)]
        exact ih ht.2 ha hb hne
theorem cmpL_same (a : List Int) : cmpL a a = 0 := by
  induction a with
  | nil => rfl
  | cons u a ih => unfold cmpL; rw [if_neg (by omega), if_neg (by omega)]; exact ih
theorem cmpL_short {a b : List Int} (ht : a = b.take a.length) (h : a.length < b.length) : cmpL a b = -1 := by
  induction a generalizing b with
  | nil => cases b with
    | nil => simp at h
    | cons v b => rfl
  | cons u a ih =>
    cases b with
    | nil => simp at h
    | cons v b =>
      simp at ht h
      unfold cmpL
      rw [ht.1, if_neg (by omega), if_neg (by omega)]
      exact ih ht.2 h
theorem cmpL_long {a b : List Int} (ht : a.take b.length = b) (h : b.length < a.length) : cmpL a b = 1 := by
  induction b generalizing a with
  | nil => cases a with
    | nil => simp at h
    | cons u a => rfl
  | cons v b ih =>
    cases a with
    | nil => simp at h
    | cons u a =>
      simp at ht h
      unfold cmpL
      rw [ht.1, if_neg (by omega), if_neg (by omega)]
      exact ih ht.2 h
end Go.Proofs.Ytfepilpllfiegaa
/- Lengths of routes, their nodes and their ends; RouteNodes, RouteLength; walked. Conditions: as each states. -/
namespace Go.Proofs.Ytfepilpllfiegaa
open Go.RowKit
section
variable {n c m d er : Nat} {A A' R : Option Addr} {xs : List ByteArray} {fs : List Fib} {s : Int} {ids : List Int}
set_option maxHeartbeats 1000000 in
set_option maxRecDepth 100000 in
theorem lengthOf_any (w : World) (h : NetIs w A n c A' m d xs fs) (hr : RtIs w R ids.length er ids) (hin : ∀ x ∈ ids, 0 ≤ x ∧ x < fs.length) (hl : ∀ f ∈ fs, 0 ≤ f.len ∧ f.len ≤ 5000) :
    Calls Try.prog 93 #[.agg #[.slice A n c, .slice A' m d], .agg #[.int .i64 s, .slice R ids.length er]] w fun e w' => e = .returned (.int .i64 (lenR fs ids)) ∧ Below w.heap.size w w' := by
  have hS := ((Led.nil w).blk_ w.heap.size rfl 27 #[.slice A n c, .slice A' m d]).blk_ (w.heap.size + 1) (by simp) 35 #[.int .i64 s, .slice R ids.length er]
  have hbd := hid (rlTo_bd hl hin)
  have HIN := hid hin
  have hkr := hr.le
  have hm := h.mle
  have hlf := hid h.flen
  have HS := hid hS
  have HF := hid h
  have HR := hid hr
  clear hin hl hS h hr
  go_enter Try.func93, Try.ntmps93
  go_wp2_with fail
  go_loopw [5, 11] (fun t i wr => ∃ (k : Nat) (r : Int), k ≤ ids.length ∧ i = .int .i64 k ∧ t = .int .i64 r ∧ Hid (r = rlTo fs ids k) ∧ Hid (Led w wr [tBlk (w.heap.size + 1) 35 #[.int .i64 s, .slice R ids.length er], tBlk w.heap.size 27 #[.slice A n c, .slice A' m d]])) (fun _ i _ => ids.length - (intOf i).toNat)
  case atStart => exact ⟨0, 0, Nat.zero_le _, rfl, rfl, (rlTo_zero fs ids).symm, HS⟩
  case round =>
    clear HS
    obtain ⟨k, r, hk, rfl, rfl, hre, HS⟩ := hrel
    have p1 := HS.out.cell 1 1 rfl rfl
    have p3 := HS.out.cell 0 1 rfl rfl
    by_cases hlt : k < ids.length
    · obtain ⟨ib, io, rfl, _, hc⟩ := HR.out.2.at_ hlt
      obtain ⟨x, hxk⟩ := get_of (k := k) rfl hlt
      have hx := HIN.out x (List.mem_of_getElem? hxk)
      rw [hlf.out] at hx
      obtain ⟨j, rfl⟩ : ∃ j : Nat, x = (j : Int) := ⟨x.toNat, by omega⟩
      obtain ⟨b, o, rfl, _, hd⟩ := HF.out.fibs.at_ (k := j) (by omega)
      obtain ⟨f, hfj⟩ := get_of (k := j) hlf.out (by omega)
      have e0 := bl_cell HS.out.bl (hc k _ hxk 0 _ rfl)
      have f2 := bl_cell HS.out.bl (hd j f hfj 2 _ rfl)
      simp only [elFib, elInt, Nat.mul_one, Nat.add_zero] at e0 f2
      have b1 := hbd.out k (by omega)
      have b2 := hbd.out (k + 1) (by omega)
      have HN : Hid (rlTo fs ids (k + 1) = r + f.len) := by unfold Hid; rw [rlTo_succ hxk (by simpa using hfj), ← hre.out]
      rw [← hre.out] at b1
      rw [HN.out] at b2
      have iw : IntKind.i64.wrap (r + f.len) = r + f.len := IntWalk.i64_in _ (by omega)
      have ik : (k : Int) < (ids.length : Int) := by omega
      clear hc hd hxk hfj
      go_wp2
      go_roundw
      case rel => exact ⟨k + 1, _, by omega, by go_num, rfl, HN.out.symm, HS⟩
      case measure => simp [intOf]; omega
    · have hkm : k = ids.length := by omega
      have HE : Hid (r = lenR fs ids) := by rw [hkm] at hre; exact hre
      clear hlt hre
      go_wp2
      go_ret
      exact ⟨by rw [HE.out]; rfl, HS.out.bl⟩
set_option maxHeartbeats 1000000 in
set_option maxRecDepth 100000 in
theorem l4Length_any (w : World) (h : NetIs w A n c A' m d xs fs) (hr : RtIs w R ids.length er ids) (hin : ∀ x ∈ ids, 0 ≤ x ∧ x < fs.length) (hl : ∀ f ∈ fs, 0 ≤ f.len ∧ f.len ≤ 5000) :
    Calls Try.prog 190 #[.agg #[.slice A n c, .slice A' m d], .agg #[.int .i64 s, .slice R ids.length er]] w fun e w' => e = .returned (.int .i64 (lenR fs ids)) ∧ Below w.heap.size w w' := by
  have hS := ((Led.nil w).blk_ w.heap.size rfl 27 #[.slice A n c, .slice A' m d]).blk_ (w.heap.size + 1) (by simp) 35 #[.int .i64 s, .slice R ids.length er]
  have hbd := hid (rlTo_bd hl hin)
  have HIN := hid hin
  have hkr := hr.le
  have hm := h.mle
  have hlf := hid h.flen
  have HS := hid hS
  have HF := hid h
  have HR := hid hr
  clear hin hl hS h hr
  go_enter Try.func190, Try.ntmps190
  go_wp2_with fail
  go_loopw [5, 6] (fun t i wr => ∃ (k : Nat) (r : Int), k ≤ ids.length ∧ i = .int .i64 k ∧ t = .int .i64 r ∧ Hid (r = rlTo fs ids k) ∧ Hid (Led w wr [tBlk (w.heap.size + 1) 35 #[.int .i64 s, .slice R ids.length er], tBlk w.heap.size 27 #[.slice A n c, .slice A' m d]])) (fun _ i _ => ids.length - (intOf i).toNat)
  case atStart => exact ⟨0, 0, Nat.zero_le _, rfl, rfl, (rlTo_zero fs ids).symm, HS⟩
  case round =>
    clear HS
    obtain ⟨k, r, hk, rfl, rfl, hre, HS⟩ := hrel
    have p1 := HS.out.cell 1 1 rfl rfl
    have p3 := HS.out.cell 0 1 rfl rfl
    by_cases hlt : k < ids.length
    · obtain ⟨ib, io, rfl, _, hc⟩ := HR.out.2.at_ hlt
      obtain ⟨x, hxk⟩ := get_of (k := k) rfl hlt
      have hx := HIN.out x (List.mem_of_getElem? hxk)
      rw [hlf.out] at hx
      obtain ⟨j, rfl⟩ : ∃ j : Nat, x = (j : Int) := ⟨x.toNat, by omega⟩
      obtain ⟨b, o, rfl, _, hd⟩ := HF.out.fibs.at_ (k := j) (by omega)
      obtain ⟨f, hfj⟩ := get_of (k := j) hlf.out (by omega)
      have e0 := bl_cell HS.out.bl (hc k _ hxk 0 _ rfl)
      have f2 := bl_cell HS.out.bl (hd j f hfj 2 _ rfl)
      simp only [elFib, elInt, Nat.mul_one, Nat.add_zero] at e0 f2
      have b1 := hbd.out k (by omega)
      have b2 := hbd.out (k + 1) (by omega)
      have HN : Hid (rlTo fs ids (k + 1) = r + f.len) := by unfold Hid; rw [rlTo_succ hxk (by simpa using hfj), ← hre.out]
      rw [← hre.out] at b1
      rw [HN.out] at b2
      have iw : IntKind.i64.wrap (r + f.len) = r + f.len := IntWalk.i64_in _ (by omega)
      have ik : (k : Int) < (ids.length : Int) := by omega
      clear hc hd hxk hfj
      have P1 : ∀ w', Cls wr w' → w'.cell? ⟨w.heap.size, 1, none⟩ = some (.slice (some ⟨b, o, none⟩) m d) := fun _ h => h.cell p1
      have P3 : ∀ w', Cls wr w' → w'.cell? ⟨w.heap.size + 1, 1, none⟩ = some (.slice (some ⟨ib, io, none⟩) ids.length er) := fun _ h => h.cell p3
      have E0 : ∀ w', Cls wr w' → w'.cell? ⟨ib, io + k, none⟩ = some (.int .i64 (j : Int)) := fun _ h => h.cell e0
      have F2 : ∀ w', Cls wr w' → w'.cell? ⟨b, o + j * 4 + 2, none⟩ = some (.int .i64 f.len) := fun _ h => h.cell f2
      go_wp2
      refine region_cls (by kernel_rfl) (by kernel_rfl) ?_
      repeat (first
        | ((with_reducible refine quiet_pos ?_ (fun K hK => ?_))
           · rfl
           apply Exists.intro
           refine ⟨fun w' hw' => ?_, ?_⟩
           · go_simp
             with_reducible rfl
           simp only [Act.put, List.setIfInBounds_toArray, List.set_cons_zero, List.set_cons_succ]
           refine hK _ ?_; clear hK K)
        | ((with_reducible refine quiet_neg ?_ (fun K hK => ?_))
           · rfl
           simp only [Act.put, List.setIfInBounds_toArray, List.set_cons_zero, List.set_cons_succ]
           refine hK _ ?_; clear hK K))
      with_reducible refine wpQuiet_nil ?_
      intro wz hwz'
      have HS2 := hid (HS.out.step hwz')
      clear P1 P3 E0 F2 HS
      go_wp2
      go_roundw
      case rel => exact ⟨k + 1, _, by omega, by go_num, rfl, HN.out.symm, HS2⟩
      case measure => simp [intOf]; omega
    · have hkm : k = ids.length := by omega
      have HE : Hid (r = lenR fs ids) := by rw [hkm] at hre; exact hre
      clear hlt hre
      go_wp2
      go_ret
      exact ⟨by rw [HE.out]; rfl, HS.out.bl⟩
set_option maxHeartbeats 1000000 in
set_option maxRecDepth 100000 in
theorem l4Nodes_any (w : World) (h : NetIs w A n c A' m d xs fs) (hr : RtIs w R ids.length er ids) (g : rtB n fs s ids = true) :
    Calls Try.prog 97 #[.agg #[.slice A n c, .slice A' m d], .agg #[.int .i64 s, .slice R ids.length er]] w fun e w' => ∃ v, e = .returned v ∧ Owns elInt w' w.heap.size 3 v (outW fs s ids ids.length) ∧ Below w.heap.size w w' := by
  have hS := ((Led.nil w).blk_ w.heap.size rfl 27 #[.slice A n c, .slice A' m d]).blk_ (w.heap.size + 1) (by simp) 35 #[.int .i64 s, .slice R ids.length er]
  go_enter Try.func97, Try.ntmps97
  go_wp2_with fail
  refine (l4Walk_any s _ (h.grow hS.bl) (hr.grow hS.bl)).mono ?_
  rintro e w1 ⟨v, rfl, ho, hb⟩
  have HO := hid (ho g)
  clear ho
  go_wp2_with fail
  go_ret
  exact ⟨_, rfl, HO.out.base hS.bl.size, bl_then hS.bl hb⟩
set_option maxHeartbeats 1000000 in
set_option maxRecDepth 100000 in
theorem l4End_any (w : World) (h : NetIs w A n c A' m d xs fs) (hr : RtIs w R ids.length er ids) (g : rtB n fs s ids = true) :
    Calls Try.prog 102 #[.agg #[.slice A n c, .slice A' m d], .agg #[.int .i64 s, .slice R ids.length er]] w fun e w' => e = .returned (.int .i64 (atW fs s ids ids.length)) ∧ Below w.heap.size w w' := by
  have hS := ((Led.nil w).blk_ w.heap.size rfl 27 #[.slice A n c, .slice A' m d]).blk_ (w.heap.size + 1) (by simp) 35 #[.int .i64 s, .slice R ids.length er]
  have hkr := hr.le
  have hol := outW_len fs s ids ids.length
  have hog := outW_get fs s ids ids.length
  have HL := hid hol
  have HG := hid hog
  clear hol hog
  go_enter Try.func102, Try.ntmps102
  go_wp2_with fail
  refine (l4Nodes_any _ (h.grow hS.bl) (hr.grow hS.bl) g).mono ?_
  rintro e w1 ⟨v, rfl, ho, hb⟩
  obtain ⟨A1, c1, rfl, _, _, hs⟩ := ho.form
  rw [HL.out] at hs ⊢
  obtain ⟨b, o, rfl, _, hc⟩ := hs.at_ (k := ids.length) (by omega)
  have e0 := hc _ _ HG.out 0 _ rfl
  simp only [elInt, Nat.mul_one, Nat.add_zero] at e0
  have iw : IntKind.i64.wrap (((ids.length + 1 : Nat) : Int) - 1) = (ids.length : Int) := by rw [show (((ids.length + 1 : Nat) : Int) - 1) = (ids.length : Int) by omega]; exact IntWalk.i64_in _ (by omega)
  have ik : (ids.length : Int) < ((ids.length + 1 : Nat) : Int) := by omega
  have hbz := bl_then hS.bl hb
  clear ho hs hc
  go_wp2_with fail
  go_ret
  exact ⟨rfl, hbz⟩
set_option maxHeartbeats 1000000 in
set_option maxRecDepth 100000 in
theorem endOf_any (w : World) (h : NetIs w A n c A' m d xs fs) (hr : RtIs w R ids.length er ids) (g : rtB n fs s ids = true) :
    Calls Try.prog 98 #[.agg #[.slice A n c, .slice A' m d], .agg #[.int .i64 s, .slice R ids.length er]] w fun e w' => e = .returned (.int .i64 (atW fs s ids ids.length)) ∧ Below w.heap.size w w' := by
  have hS := ((Led.nil w).blk_ w.heap.size rfl 27 #[.slice A n c, .slice A' m d]).blk_ (w.heap.size + 1) (by simp) 35 #[.int .i64 s, .slice R ids.length er]
  have hkr := hr.le
  have hol := outW_len fs s ids ids.length
  have hog := outW_get fs s ids ids.length
  have HL := hid hol
  have HG := hid hog
  clear hol hog
  go_enter Try.func98, Try.ntmps98
  go_wp2_with fail
  refine (visited_any s _ (h.grow hS.bl) (hr.grow hS.bl)).mono ?_
  rintro e w1 ⟨v, rfl, ho, hb⟩
  rw [rtL_yes g] at ho
  obtain ⟨A1, c1, rfl, _, _, hs⟩ := ho.form
  rw [HL.out] at hs ⊢
  obtain ⟨b, o, rfl, _, hc⟩ := hs.at_ (k := ids.length) (by omega)
  have e0 := hc _ _ HG.out 0 _ rfl
  simp only [elInt, Nat.mul_one, Nat.add_zero] at e0
  have iw : IntKind.i64.wrap (((ids.length + 1 : Nat) : Int) - 1) = (ids.length : Int) := by rw [show (((ids.length + 1 : Nat) : Int) - 1) = (ids.length : Int) by omega]; exact IntWalk.i64_in _ (by omega)
  have ik : (ids.length : Int) < ((ids.length + 1 : Nat) : Int) := by omega
  have hbz := bl_then hS.bl hb
  clear ho hs hc
  go_wp2_with fail
  go_ret
  exact ⟨rfl, hbz⟩
set_option maxHeartbeats 1000000 in
set_option maxRecDepth 100000 in
theorem implRouteLength (w : World) (h : NetIs w A n c A' m d xs fs) (hr : RtIs w R ids.length er ids) :
    Calls Try.prog 37 #[.agg #[.slice A n c, .slice A' m d], .agg #[.int .i64 s, .slice R ids.length er]] w fun e w' => e = .returned (.tuple #[.int .i64 (rlI xs fs s ids), .bool (routeB xs fs s ids)]) ∧ Below w.heap.size w w' := by
  have hS := ((Led.nil w).blk_ w.heap.size rfl 27 #[.slice A n c, .slice A' m d]).blk_ (w.heap.size + 1) (by simp) 35 #[.int .i64 s, .slice R ids.length er]
  cases g : routeB xs fs s ids
  · have H : Hid (rlI xs fs s ids = 0) := by unfold Hid rlI; rw [g]; rfl
    go_enter Try.func37, Try.ntmps37
    go_wp2_with fail
    refine (implIsValidRoute s _ (h.grow hS.bl) (hr.grow hS.bl)).mono ?_
    rintro e w1 ⟨rfl, hb⟩
    rw [g]
    go_wp2_with fail
    go_ret2
    exact ⟨by rw [H.out]; rfl, bl_then hS.bl hb⟩
  · have H : Hid (rlI xs fs s ids = lenR fs ids) := by unfold Hid rlI; rw [g]; rfl
    obtain ⟨hg, hrt⟩ := routeB_good g
    have HL := hid (goodB_lens hg)
    have HM := hid (rtB_mem hrt)
    go_enter Try.func37, Try.ntmps37
    go_wp2_with fail
    refine (implIsValidRoute s _ (h.grow hS.bl) (hr.grow hS.bl)).mono ?_
    rintro e w1 ⟨rfl, hb⟩
    replace hS := hS.step hb
    rw [g]
    have p0 := hS.cell 1 0 rfl rfl
    have p1 := hS.cell 1 1 rfl rfl
    have p2 := hS.cell 0 0 rfl rfl
    have p3 := hS.cell 0 1 rfl rfl
    go_wp2_with fail
    refine (lengthOf_any w1 (h.grow hS.bl) (hr.grow hS.bl) HM.out HL.out).mono ?_
    rintro e w2 ⟨rfl, hb2⟩
    go_wp2_with fail
    go_ret2
    exact ⟨by rw [H.out]; rfl, bl_then hS.bl hb2⟩
end
end Go.Proofs.Ytfepilpllfiegaa
/- l1Own of the reference, walked. Conditions: none. -/
namespace Go.Proofs.Ytfepilpllfiegaa
open Go.RowKit
theorem l1Own_any {B n c : Nat} {A : Option Addr} {xs : List Int} (w : World) (hA : Sees elInt w B A n xs) (hn : n ≤ 1048576) :
    Calls Try.prog 96 #[.slice A n c] w fun e w' => ∃ v, e = .returned v ∧ Owns elInt w' w.heap.size 3 v xs ∧ Below w.heap.size w w' := by
  obtain ⟨i0, hi, hz0, hz1, hz2⟩ := info_parts int_info
  have hS := (Led.nil w).empty elInt 3 w.heap.size rfl w.heap.size (Nat.le_refl _)
  go_enter Try.func96, Try.ntmps96
  go_wp2_with (first
    | (at_builtin; refine wpList_append_led rfl _ _ 33 rfl hS 0 rfl Try.underlying33 hi hz0 hz1 (by rw [hz2]; decide) rfl rfl rfl (hA.grow hS.bl) (by simp; omega) (by simp) ?_)
    | go_in)
  intro A' c' w1 hS1
  go_wp2
  go_ret
  exact ⟨_, rfl, hS1.own 0 rfl, hS1.bl⟩
end Go.Proofs.Ytfepilpllfiegaa
/- impl.components: the components without some fibers, walked. Conditions: the fibers' ends are nodes; 2 nodes at least. -/
namespace Go.Proofs.Ytfepilpllfiegaa
open Go.RowKit
section
variable {n c m d : Nat} {A A' : Option Addr} {xs : List ByteArray} {fs : List Fib}
/-- Fiber j is gone. -/
def goneF (l : List Int) (j : Nat) : Bool := hasB l (j : Int)
theorem goodB_ends (h : goodB xs fs = true) : endsB xs.length fs := fun i hi => by
  have h1 := goodB_fibB h (List.getElem_mem hi)
  have e : fibD fs i = fs[i] := getD_of (List.getElem?_eq_getElem hi)
  rw [e]
  unfold fibB at h1; simp at h1; omega
set_option maxHeartbeats 2000000 in
set_option maxRecDepth 100000 in
theorem components_any {B k c' : Nat} {G : Option Addr} {l : List Int} (w : World) (h : NetIs w A n c A' m d xs fs) (hv : Sees elInt w B G k l) (hkb : k ≤ 1048576) (he : endsB n fs) (hn0 : 0 < n) :
    Calls Try.prog 77 #[.agg #[.slice A n c, .slice A' m d], .slice G k c'] w fun e w' => ∃ v, e = .returned v ∧ Owns elInt w' w.heap.size 3 v (compL (goneF l) fs n) ∧ Below w.heap.size w w' := by
  obtain ⟨i0, hi, hz0, hz1, hz2⟩ := info_parts int_info
  have hlf := hid h.flen
  have hm := h.mle
  have hn := h.nle
  have HE := hid he
  have HV := hid hv
  have HF := hid h
  have hS := ((Led.nil w).blk_ w.heap.size rfl 27 #[.slice A n c, .slice A' m d]).empty elInt 3 (w.heap.size + 1) (by simp) w.heap.size (by omega)
  have HS : Hid (Led w ((w.alloc (.cells #[.slice A n c, .slice A' m d] 27)).alloc (.cells #[] 3)) [tOwns elInt w.heap.size 3 (.slice (some ⟨w.heap.size + 1, 0, none⟩) 0 0) (marks 0 0), tBlk w.heap.size 27 #[.slice A n c, .slice A' m d]]) := hS
  clear hS he hv h
  go_enter Try.func77, Try.ntmps77
  go_wp2_with fail
  go_loopw [5, 14] (fun V i wr => ∃ k : Nat, k ≤ n ∧ i = .int .i64 k ∧ Hid (Led w wr [tOwns elInt w.heap.size 3 V (marks 0 k), tBlk w.heap.size 27 #[.slice A n c, .slice A' m d]])) (fun _ i _ => n - (intOf i).toNat)
  case atStart => exact ⟨0, Nat.zero_le _, rfl, HS⟩
  case round =>
    clear HS
    obtain ⟨k, hk, rfl, HS⟩ := hrel
    by_cases hlt : k < n
    · have hml := hid (marks_len 0 k)
      obtain ⟨A1, c1, rfl, _⟩ := HS.out.form 0 rfl
      have HS2 := hid (HS.out.blk_ wr.heap.size rfl 3 #[.int .i64 k])
      have HM : Hid (marks 0 (k + 1) = marks 0 k ++ [(k : Int)]) := by unfold Hid; rw [marks_succ]; simp
      clear HS
      go_wp2_with (first
        | (at_builtin; refine wpList_append_led rfl _ _ 33 rfl HS2.out 1 rfl Try.underlying33 hi hz0 hz1 (by rw [hz2]; decide) rfl rfl rfl (show Sees elInt _ _ _ 1 [(k : Int)] from sees_new elInt _ _ _ _ rfl) (by rw [hml.out]; omega) HS2.out.bl.size ?_)
        | go_in)
      intro A2 c2 w2 hS3
      have HS3 := hid (hS3.drop 1)
      clear hS3 HS2
      go_wp2
      go_roundw
      case rel => exact ⟨k + 1, by omega, by go_num, by rw [HM.out]; exact HS3⟩
      case measure => simp [intOf]; omega
    · have hkn : k = n := by omega
      subst hkn
      obtain ⟨g, cV, rfl⟩ := HS.out.row_ 0 rfl (marks_len 0 k) hn0
      have p0 := HS.out.cell 1 0 rfl rfl
      have HS1 : Hid (Led w wr [tOwns elInt w.heap.size 3 (.slice (some ⟨g, 0, none⟩) k cV) (rndL (goneF l) fs k 0), tBlk w.heap.size 27 #[.slice A k c, .slice A' m d]]) := HS
      clear hlt HS
      go_wp2_with fail
      clear p0
      go_loopw [25] (fun i wr => ∃ r : Nat, r ≤ k ∧ i = .int .i64 r ∧ Hid (Led w wr [tOwns elInt w.heap.size 3 (.slice (some ⟨g, 0, none⟩) k cV) (rndL (goneF l) fs k r), tBlk w.heap.size 27 #[.slice A k c, .slice A' m d]])) (fun i _ => k - (intOf i).toNat)
      case atStart => exact ⟨0, Nat.zero_le _, rfl, HS1⟩
      case round =>
        clear HS1
        obtain ⟨r, hr, rfl, HS⟩ := hrel
        by_cases hlt : r < k
        · have p1 := HS.out.cell 1 1 rfl rfl
          obtain ⟨X, hX⟩ : ∃ X, X = rndL (goneF l) fs k r := ⟨_, rfl⟩
          have hXl : Hid (X.length = k) := by rw [hX]; exact rndL_len r
          have HN : Hid (rndL (goneF l) fs k (r + 1) = passL (goneF l) fs X) := by rw [hX]; rfl
          rw [← hX] at HS
          clear hX
          have HS1 : Hid (Led w wr [tOwns elInt w.heap.size 3 (.slice (some ⟨g, 0, none⟩) k cV) (passTo (goneF l) fs X 0), tBlk w.heap.size 27 #[.slice A k c, .slice A' m d]]) := HS
          clear HS
          go_wp2_with fail
          clear p1
          go_loopw [30] (fun i wr => ∃ j : Nat, j ≤ m ∧ i = .int .i64 j ∧ Hid (Led w wr [tOwns elInt w.heap.size 3 (.slice (some ⟨g, 0, none⟩) k cV) (passTo (goneF l) fs X j), tBlk w.heap.size 27 #[.slice A k c, .slice A' m d]])) (fun i _ => m - (intOf i).toNat)
          case atStart => exact ⟨0, Nat.zero_le _, rfl, HS1⟩
          case round =>
            clear HS1
            obtain ⟨j, hj, rfl, HS⟩ := hrel
            by_cases hlt2 : j < m
            · obtain ⟨b, o, rfl, _, hc⟩ := HF.out.fibs.at_ hlt2
              obtain ⟨f, hfj⟩ := get_of (k := j) hlf.out hlt2
              have f0 := bl_cell HS.out.bl (hc j f hfj 0 _ rfl)
              have f1 := bl_cell HS.out.bl (hc j f hfj 1 _ rfl)
              have f2 := bl_cell HS.out.bl (hc j f hfj 2 _ rfl)
              have f3 := bl_cell HS.out.bl (hc j f hfj 3 _ rfl)
              simp only [elFib, Nat.add_zero] at f0 f1 f2 f3
              have hfd : fibD fs j = f := getD_of hfj
              have hends := HE.out j (by rw [hlf.out]; exact hlt2)
              rw [hfd] at hends
              obtain ⟨a, ha⟩ : ∃ a : Nat, f.a = (a : Int) := ⟨f.a.toNat, by omega⟩
              obtain ⟨e, hb⟩ : ∃ e : Nat, f.b = (e : Int) := ⟨f.b.toNat, by omega⟩
              rw [ha, hb] at hends
              rw [ha] at f0
              rw [hb] at f1
              have HQ : Hid (goneF l j = hasB l (j : Int)) := rfl
              have HP : Hid (goneF l j = false → passTo (goneF l) fs X (j + 1) = ((passTo (goneF l) fs X j).set a (min (valL (passTo (goneF l) fs X j) a) (valL (passTo (goneF l) fs X j) e))).set e (min (valL (passTo (goneF l) fs X j) a) (valL (passTo (goneF l) fs X j) e))) := fun hq => by
                rw [passTo_no hq, hfd]; unfold joinF; rw [ha, hb]; simp
              have HP2 : Hid (goneF l j = true → passTo (goneF l) fs X (j + 1) = passTo (goneF l) fs X j) := fun hq => by rw [passTo_succ, hq]; rfl
              have hpl : Hid ((passTo (goneF l) fs X j).length = k) := (passTo_len X j).trans hXl.out
              generalize passTo (goneF l) fs X j = Y at *
              have hS1 := HS.out.blk_ wr.heap.size rfl 62 #[.int .i64 (a : Int), .int .i64 (e : Int), .int .i64 f.len, .int .i64 f.risk]
              have ia : (a : Int) < (k : Int) := by omega
              have ie : (e : Int) < (k : Int) := by omega
              have iae : a ≠ e := by omega
              clear hc hfj hfd ha hb hends
              go_wp2_with fail
              refine (containsI_any (j : Int) _ (HV.out.grow hS1.bl) (by unfold maxLen; omega)).mono ?_
              rintro e5 w5 ⟨rfl, rfl⟩
              cases gk : hasB l (j : Int)
              · have HR := hid (HP.out (by rw [HQ.out]; exact gk))
                have v0 := hS1.int_at 1 rfl (j := a) (by rw [hpl.out]; omega)
                have v1 := hS1.int_at 1 rfl (j := e) (by rw [hpl.out]; omega)
                have y0 := hS1.int_free 1 rfl a
                have y1 := hS1.int_free 1 rfl e
                clear HP HP2 HS
                go_wp2_with fail
                generalize wr.alloc (.cells #[.int .i64 (a : Int), .int .i64 (e : Int), .int .i64 f.len, .int .i64 f.risk] 62) = W0 at *
                have C0 : ∀ w', Cls W0 w' → w'.cell? ⟨wr.heap.size, 0, none⟩ = some (.int .i64 (a : Int)) := fun _ h => h.cell (hS1.cell 0 0 rfl rfl)
                have C1 : ∀ w', Cls W0 w' → w'.cell? ⟨wr.heap.size, 1, none⟩ = some (.int .i64 (e : Int)) := fun _ h => h.cell (hS1.cell 0 1 rfl rfl)
                have V0 : ∀ w', Cls W0 w' → w'.cell? ⟨g, a, none⟩ = some (.int .i64 (valL Y a)) := fun _ h => h.cell v0
                have V1 : ∀ w', Cls W0 w' → w'.cell? ⟨g, e, none⟩ = some (.int .i64 (valL Y e)) := fun _ h => h.cell v1
                clear v0 v1 y0 y1
                rcases Int.lt_or_le (valL Y e) (valL Y a) with hle | hle
                · have hx : min (valL Y a) (valL Y e) = valL Y e := by omega
                  rw [hx] at HR
                  clear hx
                  refine region_cls (by kernel_rfl) (by kernel_rfl) ?_
                  repeat (first
                    | ((with_reducible refine quiet_pos ?_ (fun K hK => ?_))
                       · rfl
                       apply Exists.intro
                       refine ⟨fun w' hw' => ?_, ?_⟩
                       · go_simp
                         with_reducible rfl
                       simp only [Act.put, List.setIfInBounds_toArray, List.set_cons_zero, List.set_cons_succ]
                       refine hK _ ?_; clear hK K)
                    | ((with_reducible refine quiet_neg ?_ (fun K hK => ?_))
                       · rfl
                       simp only [Act.put, List.setIfInBounds_toArray, List.set_cons_zero, List.set_cons_succ]
                       refine hK _ ?_; clear hK K))
                  with_reducible refine wpQuiet_nil ?_
                  intro wz hwz'
                  have hS2 := hS1.step hwz'
                  clear C0 C1 V0 V1 hwz' hS1
                  have q0 := hS2.cell 0 0 rfl rfl
                  have q1 := hS2.cell 0 1 rfl rfl
                  have v0 := hS2.int_at 1 rfl (j := a) (by rw [hpl.out]; omega)
                  have v1 := hS2.int_at 1 rfl (j := e) (by rw [hpl.out]; omega)
                  have y0 := hS2.int_free 1 rfl a
                  have y1 := hS2.int_free 1 rfl e
                  have hS3 := hS2.int_set 1 rfl (j := a) (by rw [hpl.out]; omega) (valL Y e)
                  have q2 := hS3.cell 0 0 rfl rfl
                  have q3 := hS3.cell 0 1 rfl rfl
                  have v2 := hS3.int_at 1 rfl (j := e) (by simp; rw [hpl.out]; omega)
                  have y2 := hS3.int_free 1 rfl e
                  clear hS3
                  have HS2 : Hid (∀ u, Led w (((wz.setCell ⟨g, a, none⟩ (.int .i64 (valL Y e))).setCell ⟨g, e, none⟩ (.int .i64 (valL Y e))).drewN u) _) := fun u => (((hS2.int_set 1 rfl (j := a) (by rw [hpl.out]; omega) (valL Y e)).int_set 1 rfl (j := e) (by simp; rw [hpl.out]; omega) (valL Y e)).drop 1).step (bl_drewN (Below.refl _ _) u)
                  clear hS2
                  go_wp2_with fail
                  go_region
                  all_goals
                    go_wp2_with fail
                    refine ⟨?_, by simp [intOf]; omega⟩
                    first
                      | exact ⟨j + 1, by omega, by go_num, by rw [HR.out]; exact HS2.out 1⟩
                      | ((repeat apply Exists.intro); exact ⟨⟨j + 1, by omega, by go_num, by rw [HR.out]; exact HS2.out 1⟩, rfl⟩)
                · have hx : min (valL Y a) (valL Y e) = valL Y a := by omega
                  rw [hx] at HR
                  clear hx
                  refine region_cls (by kernel_rfl) (by kernel_rfl) ?_
                  repeat (first
                    | ((with_reducible refine quiet_pos ?_ (fun K hK => ?_))
                       · rfl
                       apply Exists.intro
                       refine ⟨fun w' hw' => ?_, ?_⟩
                       · go_simp
                         with_reducible rfl
                       simp only [Act.put, List.setIfInBounds_toArray, List.set_cons_zero, List.set_cons_succ]
                       refine hK _ ?_; clear hK K)
                    | ((with_reducible refine quiet_neg ?_ (fun K hK => ?_))
                       · rfl
                       simp only [Act.put, List.setIfInBounds_toArray, List.set_cons_zero, List.set_cons_succ]
                       refine hK _ ?_; clear hK K))
                  with_reducible refine wpQuiet_nil ?_
                  intro wz hwz'
                  have hS2 := hS1.step hwz'
                  clear C0 C1 V0 V1 hwz' hS1
                  have q0 := hS2.cell 0 0 rfl rfl
                  have q1 := hS2.cell 0 1 rfl rfl
                  have v0 := hS2.int_at 1 rfl (j := a) (by rw [hpl.out]; omega)
                  have v1 := hS2.int_at 1 rfl (j := e) (by rw [hpl.out]; omega)
                  have y0 := hS2.int_free 1 rfl a
                  have y1 := hS2.int_free 1 rfl e
                  have hS3 := hS2.int_set 1 rfl (j := a) (by rw [hpl.out]; omega) (valL Y a)
                  have q2 := hS3.cell 0 0 rfl rfl
                  have q3 := hS3.cell 0 1 rfl rfl
                  have v2 := hS3.int_at 1 rfl (j := e) (by simp; rw [hpl.out]; omega)
                  have y2 := hS3.int_free 1 rfl e
                  clear hS3
                  have HS2 : Hid (∀ u, Led w (((wz.setCell ⟨g, a, none⟩ (.int .i64 (valL Y a))).setCell ⟨g, e, none⟩ (.int .i64 (valL Y a))).drewN u) _) := fun u => (((hS2.int_set 1 rfl (j := a) (by rw [hpl.out]; omega) (valL Y a)).int_set 1 rfl (j := e) (by simp; rw [hpl.out]; omega) (valL Y a)).drop 1).step (bl_drewN (Below.refl _ _) u)
                  clear hS2
                  go_wp2_with fail
                  go_region
                  all_goals
                    go_wp2_with fail
                    refine ⟨?_, by simp [intOf]; omega⟩
                    first
                      | exact ⟨j + 1, by omega, by go_num, by rw [HR.out]; exact HS2.out 1⟩
                      | ((repeat apply Exists.intro); exact ⟨⟨j + 1, by omega, by go_num, by rw [HR.out]; exact HS2.out 1⟩, rfl⟩)
              · have HR := hid (HP2.out (by rw [HQ.out]; exact gk))
                have HS2 := hid (hS1.drop 1)
                clear hS1 HP HP2 HS
                go_wp2
                refine ⟨?_, by simp [intOf]; omega⟩
                first
                  | exact ⟨j + 1, by omega, by go_num, by rw [HR.out]; exact HS2⟩
                  | ((repeat apply Exists.intro); exact ⟨⟨j + 1, by omega, by go_num, by rw [HR.out]; exact HS2⟩, rfl⟩)
            · have hjm : j = m := by omega
              have HR : Hid (rndL (goneF l) fs k (r + 1) = passTo (goneF l) fs X j) := by unfold Hid; rw [HN.out, hjm, ← hlf.out]; rfl
              clear hjm
              go_wp2
              refine ⟨?_, by simp [intOf]; omega⟩
              first
                | exact ⟨r + 1, by omega, by go_num, by rw [HR.out]; exact HS⟩
                | ((repeat apply Exists.intro); exact ⟨⟨r + 1, by omega, by go_num, by rw [HR.out]; exact HS⟩, rfl⟩)
        · have hrk : r = k := by omega
          have HR : Hid (compL (goneF l) fs k = rndL (goneF l) fs k r) := by rw [hrk]; rfl
          clear hrk
          go_wp2
          go_ret
          exact ⟨_, rfl, by rw [HR.out]; exact HS.out.own 0 rfl, HS.out.bl⟩
end
end Go.Proofs.Ytfepilpllfiegaa
/- Sets of fibers as numbers: the reference's l6Mask, walked. Conditions: the numbers are below 20. -/
namespace Go.Proofs.Ytfepilpllfiegaa
open Go.RowKit
/-- The set as a number. -/
def maskTo (l : List Int) : Nat → Nat
  | 0 => 0
  | k + 1 => maskTo l k ||| 2 ^ (l.getD k 0).toNat
def maskN (l : List Int) : Nat := maskTo l l.length
theorem maskTo_bit {l : List Int} (h : ∀ x ∈ l, 0 ≤ x) (i : Nat) : ∀ k, k ≤ l.length → (maskTo l k).testBit i = decide ((i : Int) ∈ l.take k) := by
  intro k
  induction k with
  | zero => intro _; simp [maskTo]
  | succ k ih =>
    intro hk
    have hkl : k < l.length := by omega
    have e : l.take (k + 1) = l.take k ++ [l[k]] := by rw [List.take_add_one, List.getElem?_eq_getElem hkl]; rfl
    have hx := h _ (List.getElem_mem hkl)
    show (maskTo l k ||| 2 ^ (l.getD k 0).toNat).testBit i = _
    rw [Nat.testBit_or, ih (by omega), Nat.testBit_two_pow, e, getD_of (List.getElem?_eq_getElem hkl)]
    rw [Bool.eq_iff_iff, Bool.or_eq_true, decide_eq_true_eq, decide_eq_true_eq, decide_eq_true_eq, List.mem_append, List.mem_singleton]
    constructor
    · intro h1
      rcases h1 with h1 | h1
      · exact Or.inl h1
      · exact Or.inr (by omega)
    · intro h1
      rcases h1 with h1 | h1
      · exact Or.inl h1
      · exact Or.inr (by omega)
theorem maskN_bit {l : List Int} (h : ∀ x ∈ l, 0 ≤ x) (i : Nat) : (maskN l).testBit i = hasB l (i : Int) := by
  unfold maskN
  rw [maskTo_bit h i _ (Nat.le_refl _), List.take_length, Bool.eq_iff_iff, hasB_iff]
  simp
theorem maskTo_lt {l : List Int} (h : ∀ x ∈ l, 0 ≤ x ∧ x < 20) : ∀ k, k ≤ l.length → maskTo l k < 2 ^ 20 := by
  intro k
  induction k with
  | zero => intro _; simp [maskTo]
  | succ k ih =>
    intro hk
    have hkl : k < l.length := by omega
    have hx := h _ (List.getElem_mem hkl)
    refine Nat.or_lt_two_pow (ih (by omega)) ?_
    rw [getD_of (List.getElem?_eq_getElem hkl)]
    exact Nat.pow_lt_pow_right (by decide) (by omega)
theorem ofInt_small {a : Nat} (h : a < 2 ^ 62) : (BitVec.ofInt 64 (a : Int)).toNat = a := by
  rw [BitVec.ofInt_natCast, BitVec.toNat_ofNat]; exact Nat.mod_eq_of_lt (by omega)
theorem wrap_small {a : Nat} (h : a < 2 ^ 62) : IntKind.i64.wrap (a : Int) = (a : Int) := IntWalk.i64_in _ (by omega)
/-- One bit more. -/
theorem bits_or_n {M N : Nat} (hM : M < 2 ^ 20) (hN : N < 2 ^ 20) : Go.bits .or .i64 (M : Int) (N : Int) = ((M ||| N : Nat) : Int) := by
  have h3 : M ||| N < 2 ^ 20 := Nat.or_lt_two_pow hM hN
  show IntKind.i64.wrap ((BitVec.ofInt 64 (M : Int) ||| BitVec.ofInt 64 (N : Int)).toNat : Int) = _
  rw [BitVec.toNat_or, ofInt_small (by omega), ofInt_small (by omega)]
  exact wrap_small (by omega)
/-- Is bit i set? -/
theorem bits_and_one {M : Nat} (hM : M < 2 ^ 20) (i : Nat) : Go.bits .and .i64 ((M / 2 ^ i : Nat) : Int) 1 = if M.testBit i then 1 else 0 := by
  have h2 : M / 2 ^ i ≤ M := Nat.div_le_self _ _
  have h3 : (M / 2 ^ i) &&& 1 = (M.testBit i).toNat := by
    rw [Nat.testBit_eq_decide_div_mod_eq, Nat.and_one_is_mod]
    have : M / 2 ^ i % 2 = 0 ∨ M / 2 ^ i % 2 = 1 := by omega
    rcases this with h | h <;> simp [h]
  show IntKind.i64.wrap ((BitVec.ofInt 64 ((M / 2 ^ i : Nat) : Int) &&& BitVec.ofInt 64 ((1 : Nat) : Int)).toNat : Int) = _
  rw [BitVec.toNat_and, ofInt_small (by omega), ofInt_small (by omega), h3]
  cases M.testBit i <;> rfl
set_option maxHeartbeats 1000000 in
set_option maxRecDepth 100000 in
theorem mask_any {B c : Nat} {A : Option Addr} {l : List Int} (w : World) (hA : Sees elInt w B A l.length l) (hl : ∀ x ∈ l, 0 ≤ x ∧ x < 20) (hn : l.length ≤ 1048576) :
    Calls Try.prog 74 #[.slice A l.length c] w fun e w' => e = .returned (.int .i64 ((maskN l : Nat) : Int)) ∧ w = w' := by
  have HL := hid hl
  have HB := hid (maskTo_lt hl)
  clear hl
  go_enter Try.func74, Try.ntmps74
  go_wp2
  go_loop [3, 4] (fun t i => ∃ (k M : Nat), k ≤ l.length ∧ i = .int .i64 k ∧ t = .int .i64 (M : Int) ∧ Hid (M = maskTo l k)) (fun _ i => l.length - (intOf i).toNat)
  case atStart => exact ⟨0, 0, Nat.zero_le _, rfl, rfl, rfl⟩
  case round =>
    obtain ⟨k, M, hk, rfl, rfl, hM⟩ := hrel
    by_cases hlt : k < l.length
    · obtain ⟨b, o, rfl, _, hc⟩ := hA.at_ hlt
      obtain ⟨x, hxk⟩ := get_of (k := k) rfl hlt
      have hx := HL.out x (List.mem_of_getElem? hxk)
      obtain ⟨j, rfl⟩ : ∃ j : Nat, x = (j : Int) := ⟨x.toNat, by omega⟩
      have e0 := hc k _ hxk 0 _ rfl
      simp only [elInt, Nat.mul_one, Nat.add_zero] at e0
      have hMb : M < 2 ^ 20 := by rw [hM.out]; exact HB.out k (by omega)
      have hj : (2 : Nat) ^ j < 2 ^ 20 := Nat.pow_lt_pow_right (by decide) (by omega)
      have HN : Hid (maskTo l (k + 1) = M ||| 2 ^ j) := by
        show maskTo l k ||| 2 ^ (l.getD k 0).toNat = _
        rw [getD_of hxk, ← hM.out]; simp
      have HO := hid (bits_or_n hMb hj)
      clear hc hxk hM
      have hw : wrap64 ((2 : Int) ^ j) = ((2 ^ j : Nat) : Int) := by
        have e : ((2 : Int) ^ j) = ((2 ^ j : Nat) : Int) := by simp
        rw [e]
        have h62 : 2 ^ j < 4611686018427387904 := Nat.lt_trans hj (by decide)
        generalize 2 ^ j = y at *
        exact IntWalk.wrap64_in _ (by omega)
      have HW := hid hw
      clear hw
      go_wp2
      exact ⟨⟨k + 1, M ||| 2 ^ j, by omega, by go_num, by rw [HW.out, HO.out], HN.out.symm⟩, by simp [intOf]; omega⟩
    · have hkl : k = l.length := by omega
      have HE : Hid (maskN l = M) := by rw [hM.out, hkl]; rfl
      clear hkl hM
      go_wp2
      go_ret
      exact ⟨by rw [HE.out]; rfl, rfl⟩
end Go.Proofs.Ytfepilpllfiegaa
/- spec.l6Labels: the reference's components, walked. Conditions: the fibers' ends are nodes; 2 nodes at least; at most 20 fibers. -/
namespace Go.Proofs.Ytfepilpllfiegaa
open Go.RowKit
set_option maxRecDepth 100000 in
theorem least_any (a b : Int) (w : World) : Calls Try.prog 152 #[.int .i64 a, .int .i64 b] w fun e w' => e = .returned (.int .i64 (min a b)) ∧ w = w' := by
  by_cases h : a < b
  · have H : Hid (min a b = a) := by unfold Hid; omega
    go_enter Try.func152, Try.ntmps152
    go_wp2
    go_ret
    exact ⟨by rw [H.out]; rfl, rfl⟩
  · have H : Hid (min a b = b) := by unfold Hid; omega
    go_enter Try.func152, Try.ntmps152
    go_wp2
    go_ret
    exact ⟨by rw [H.out]; rfl, rfl⟩
section
variable {n c m d : Nat} {A A' : Option Addr} {xs : List ByteArray} {fs : List Fib}
set_option maxHeartbeats 4000000 in
set_option maxRecDepth 100000 in
theorem labels_any (M : Nat) (w : World) (h : NetIs w A n c A' m d xs fs) (hM : M < 2 ^ 20) (he : endsB n fs) (hn0 : 0 < n) (hm20 : m ≤ 20) :
    Calls Try.prog 134 #[.agg #[.slice A n c, .slice A' m d], .int .i64 (M : Int)] w fun e w' => ∃ v, e = .returned v ∧ Owns elInt w' w.heap.size 3 v (compL (fun i => M.testBit i) fs n) ∧ Below w.heap.size w w' := by
  obtain ⟨i0, hi, hz0, hz1, hz2⟩ := info_parts int_info
  have hlf := hid h.flen
  have hn := h.nle
  have HE := hid he
  have HF := hid h
  have HMB := hid hM
  have hS := ((Led.nil w).blk_ w.heap.size rfl 27 #[.slice A n c, .slice A' m d]).empty elInt 3 (w.heap.size + 1) (by simp) w.heap.size (by omega)
  have HS : Hid (Led w ((w.alloc (.cells #[.slice A n c, .slice A' m d] 27)).alloc (.cells #[] 3)) [tOwns elInt w.heap.size 3 (.slice (some ⟨w.heap.size + 1, 0, none⟩) 0 0) (marks 0 0), tBlk w.heap.size 27 #[.slice A n c, .slice A' m d]]) := hS
  clear hS he h hM
  go_enter Try.func134, Try.ntmps134
  go_wp2_with fail
  go_loopw [5, 6] (fun V i wr => ∃ k : Nat, k ≤ n ∧ i = .int .i64 k ∧ Hid (Led w wr [tOwns elInt w.heap.size 3 (V) (marks 0 k), tBlk w.heap.size 27 #[.slice A n c, .slice A' m d]])) (fun _ i _ => n - (intOf i).toNat)
  case atStart => exact ⟨0, Nat.zero_le _, rfl, HS⟩
  case round =>
    clear HS
    obtain ⟨k, hk, rfl, HS⟩ := hrel
    have p0 := HS.out.cell 1 0 rfl rfl
    by_cases hlt : k < n
    · have hml := hid (marks_len 0 k)
      obtain ⟨A1, c1, rfl, _⟩ := HS.out.form 0 rfl
      have HS2 := hid (HS.out.blk_ wr.heap.size rfl 3 #[.int .i64 k])
      have HM : Hid (marks 0 (k + 1) = marks 0 k ++ [(k : Int)]) := by unfold Hid; rw [marks_succ]; simp
      clear HS
      go_wp2_with (first
        | (at_builtin; refine wpList_append_led rfl _ _ 33 rfl HS2.out 1 rfl Try.underlying33 hi hz0 hz1 (by rw [hz2]; decide) rfl rfl rfl (show Sees elInt _ _ _ 1 [(k : Int)] from sees_new elInt _ _ _ _ rfl) (by rw [hml.out]; omega) HS2.out.bl.size ?_)
        | go_in)
      intro A2 c2 w2 hS3
      have HS3 := hid (hS3.drop 1)
      clear hS3 HS2 p0
      go_wp2
      go_roundw
      case rel => exact ⟨k + 1, by omega, by go_num, by rw [HM.out]; exact HS3⟩
      case measure => simp [intOf]; omega
    · have hkn : n = k := by omega
      subst hkn
      obtain ⟨g, cV, rfl⟩ := HS.out.row_ 0 rfl (marks_len 0 n) hn0
      have HS1 : Hid (Led w wr [tOwns elInt w.heap.size 3 (.slice (some ⟨g, 0, none⟩) n cV) (rndL (fun i => M.testBit i) fs n 0), tBlk w.heap.size 27 #[.slice A n c, .slice A' m d]]) := HS
      clear hlt HS
      go_wp2_with fail
      clear p0
      go_loopg [7] (n + 2) (fun gk b wr => ∃ (r : Nat) (more : Bool), b = .bool more ∧ r + gk = n + 2 ∧ Hid (more = true → r ≤ n) ∧ Hid (more = false → rndL (fun i => M.testBit i) fs n r = compL (fun i => M.testBit i) fs n) ∧ Hid (Led w wr [tOwns elInt w.heap.size 3 (.slice (some ⟨g, 0, none⟩) n cV) (rndL (fun i => M.testBit i) fs n r), tBlk w.heap.size 27 #[.slice A n c, .slice A' m d]]))
      case atStart => exact ⟨0, true, rfl, by omega, (show true = true → 0 ≤ n from fun _ => Nat.zero_le _), (show true = false → _ from fun h => Bool.noConfusion h), HS1⟩
      case round =>
        clear HS1
        obtain ⟨r, more, rfl, hrg, hm1, hm2, HS⟩ := hrel
        cases more
        case false =>
          have HR := hid (hm2.out rfl)
          clear hm1 hm2
          go_wp2
          go_ret
          exact ⟨_, rfl, by rw [← HR.out]; exact HS.out.own 0 rfl, HS.out.bl⟩
        case true =>
          have hrn := hm1.out rfl
          clear hm1 hm2
          obtain ⟨X, hX⟩ : ∃ X, X = rndL (fun i => M.testBit i) fs n r := ⟨_, rfl⟩
          have hXl : Hid (X.length = n) := by rw [hX]; exact rndL_len r
          have HN : Hid (rndL (fun i => M.testBit i) fs n (r + 1) = passL (fun i => M.testBit i) fs X) := by rw [hX]; rfl
          rw [← hX] at HS
          have HX := hid hX
          clear hX
          have HS1 : Hid (Led w wr [tOwns elInt w.heap.size 3 (.slice (some ⟨g, 0, none⟩) n cV) (passTo (fun i => M.testBit i) fs X 0), tBlk w.heap.size 27 #[.slice A n c, .slice A' m d]]) := HS
          clear HS
          go_wp2_with fail
          go_loopw [7, 8] (fun b i wr => ∃ j : Nat, j ≤ m ∧ i = .int .i64 j ∧ b = .bool (chgB (fun i => M.testBit i) fs X j) ∧ Hid (Led w wr [tOwns elInt w.heap.size 3 (.slice (some ⟨g, 0, none⟩) n cV) (passTo (fun i => M.testBit i) fs X j), tBlk w.heap.size 27 #[.slice A n c, .slice A' m d]])) (fun _ i _ => m - (intOf i).toNat)
          case atStart => exact ⟨0, Nat.zero_le _, rfl, rfl, HS1⟩
          case round =>
            clear HS1
            obtain ⟨j, hj, rfl, rfl, HS⟩ := hrel
            have p1 := HS.out.cell 1 1 rfl rfl
            obtain ⟨ch, hch⟩ : ∃ ch, ch = chgB (fun i => M.testBit i) fs X j := ⟨_, rfl⟩
            rw [← hch]
            have HCH := hid hch
            clear hch
            by_cases hlt2 : j < m
            · obtain ⟨b, o, rfl, _, hc⟩ := HF.out.fibs.at_ hlt2
              obtain ⟨f, hfj⟩ := get_of (k := j) hlf.out hlt2
              have f0 := bl_cell HS.out.bl (hc j f hfj 0 _ rfl)
              have f1 := bl_cell HS.out.bl (hc j f hfj 1 _ rfl)
              simp only [elFib, Nat.add_zero] at f0 f1
              have hfd : fibD fs j = f := getD_of hfj
              have hends := HE.out j (by rw [hlf.out]; exact hlt2)
              rw [hfd] at hends
              obtain ⟨a, ha⟩ : ∃ a : Nat, f.a = (a : Int) := ⟨f.a.toNat, by omega⟩
              obtain ⟨e, hb⟩ : ∃ e : Nat, f.b = (e : Int) := ⟨f.b.toNat, by omega⟩
              rw [ha, hb] at hends
              rw [ha] at f0
              rw [hb] at f1
              have ia : (a : Int) < (n : Int) := by omega
              have ie : (e : Int) < (n : Int) := by omega
              have ij : (j : Int) < (m : Int) := by omega
              have P1 : ∀ w', Cls wr w' → w'.cell? ⟨w.heap.size, 1, none⟩ = some (.slice (some ⟨b, o, none⟩) m d) := fun _ h => h.cell p1
              have F0 : ∀ w', Cls wr w' → w'.cell? ⟨b, o + j * 4, none⟩ = some (.int .i64 (a : Int)) := fun _ h => h.cell f0
              have F1 : ∀ w', Cls wr w' → w'.cell? ⟨b, o + j * 4 + 1, none⟩ = some (.int .i64 (e : Int)) := fun _ h => h.cell f1
              clear hc hfj f0 f1
              go_wp2_with fail
              refine region_cls (by kernel_rfl) (by kernel_rfl) ?_
              repeat (first
                | ((with_reducible refine quiet_pos ?_ (fun K hK => ?_))
                   · rfl
                   apply Exists.intro
                   refine ⟨fun w' hw' => ?_, ?_⟩
                   · go_simp
                     with_reducible rfl
                   simp only [Act.put, List.setIfInBounds_toArray, List.set_cons_zero, List.set_cons_succ]
                   refine hK _ ?_; clear hK K)
                | ((with_reducible refine quiet_neg ?_ (fun K hK => ?_))
                   · rfl
                   simp only [Act.put, List.setIfInBounds_toArray, List.set_cons_zero, List.set_cons_succ]
                   refine hK _ ?_; clear hK K))
              with_reducible refine wpQuiet_nil ?_
              intro wz hwz'
              go_wp2_with fail
              have hS := HS.out.step hwz'
              clear HS P1 F0 F1 hwz' p1
              have hMB := HMB.out
              have iu : IntKind.u64.wrap (j : Int) = (j : Int) := by rw [IntKind.wrap_u64]; omega
              have imn : min j 64 = j := by omega
              have hdv : ((M : Int) / 2 ^ j) = ((M / 2 ^ j : Nat) : Int) := by simp
              have ib := bits_and_one hMB j
              rw [← hdv] at ib
              clear hdv
              cases gb : M.testBit j
              · rw [gb] at ib
                simp only [Bool.false_eq_true, if_false] at ib
                have hpl : Hid ((passTo (fun i => M.testBit i) fs X j).length = n) := (passTo_len X j).trans hXl.out
                have HP : Hid (passTo (fun i => M.testBit i) fs X (j + 1) = joinF f (passTo (fun i => M.testBit i) fs X j)) := by unfold Hid; rw [passTo_no gb, hfd]
                have HC2 : Hid (chgB (fun i => M.testBit i) fs X (j + 1) = (ch || !(valL (passTo (fun i => M.testBit i) fs X j) a == valL (passTo (fun i => M.testBit i) fs X j) e))) := by
                  show (chgB (fun i => M.testBit i) fs X j || (!(M.testBit j) && !(valL (passTo (fun i => M.testBit i) fs X j) (fibD fs j).a.toNat == valL (passTo (fun i => M.testBit i) fs X j) (fibD fs j).b.toNat))) = _
                  rw [← HCH.out, gb, hfd, ha, hb]; rfl
                generalize passTo (fun i => M.testBit i) fs X j = Y at *
                have v0 := hS.int_at 0 rfl (j := a) (by rw [hpl.out]; omega)
                have v1 := hS.int_at 0 rfl (j := e) (by rw [hpl.out]; omega)
                have V0 : ∀ w', Cls wz w' → w'.cell? ⟨g, a, none⟩ = some (.int .i64 (valL Y a)) := fun _ h => h.cell v0
                have V1 : ∀ w', Cls wz w' → w'.cell? ⟨g, e, none⟩ = some (.int .i64 (valL Y e)) := fun _ h => h.cell v1
                clear v0 v1
                cases gv : (valL Y a == valL Y e)
                · have HJ : Hid (joinF f Y = (Y.set a (min (valL Y a) (valL Y e))).set e (min (valL Y a) (valL Y e))) := by unfold Hid joinF; rw [ha, hb]; simp
                  have HQ : Hid (chgB (fun i => M.testBit i) fs X (j + 1) = true) := by unfold Hid; rw [HC2.out, gv]; simp
                  clear HC2 HCH hfd ha hb gb
                  refine region_cls (by kernel_rfl) (by kernel_rfl) ?_
                  repeat (first
                    | ((with_reducible refine quiet_pos ?_ (fun K hK => ?_))
                       · rfl
                       apply Exists.intro
                       refine ⟨fun w' hw' => ?_, ?_⟩
                       · go_simp
                         with_reducible rfl
                       simp only [Act.put, List.setIfInBounds_toArray, List.set_cons_zero, List.set_cons_succ]
                       refine hK _ ?_; clear hK K)
                    | ((with_reducible refine quiet_neg ?_ (fun K hK => ?_))
                       · rfl
                       simp only [Act.put, List.setIfInBounds_toArray, List.set_cons_zero, List.set_cons_succ]
                       refine hK _ ?_; clear hK K))
                  with_reducible refine wpQuiet_nil ?_
                  intro wz hwz'
                  have hS2 := hS.step hwz'
                  have V0' : ∀ w', Cls wz w' → w'.cell? ⟨g, a, none⟩ = some (.int .i64 (valL Y a)) := fun _ h => V0 _ (bl_then hwz' h)
                  have V1' : ∀ w', Cls wz w' → w'.cell? ⟨g, e, none⟩ = some (.int .i64 (valL Y e)) := fun _ h => V1 _ (bl_then hwz' h)
                  clear hS V0 V1 hwz'
                  go_wp2_with fail
                  refine region_cls (by kernel_rfl) (by kernel_rfl) ?_
                  repeat (first
                    | ((with_reducible refine quiet_pos ?_ (fun K hK => ?_))
                       · rfl
                       apply Exists.intro
                       refine ⟨fun w' hw' => ?_, ?_⟩
                       · go_simp
                         first
                           | with_reducible rfl
                           | (go_at_call 152; with_reducible exact hw'.same (least_any _ _ _))
                       simp only [Act.put, List.setIfInBounds_toArray, List.set_cons_zero, List.set_cons_succ]
                       refine hK _ ?_; clear hK K)
                    | ((with_reducible refine quiet_neg ?_ (fun K hK => ?_))
                       · rfl
                       simp only [Act.put, List.setIfInBounds_toArray, List.set_cons_zero, List.set_cons_succ]
                       refine hK _ ?_; clear hK K))
                  with_reducible refine wpQuiet_nil ?_
                  intro wz hwz'
                  have hS := hS2.step hwz'
                  clear hS2 V0' V1' hwz'
                  have v0 := hS.int_at 0 rfl (j := a) (by rw [hpl.out]; omega)
                  have v1 := hS.int_at 0 rfl (j := e) (by rw [hpl.out]; omega)
                  have y0 := hS.int_free 0 rfl a
                  have y1 := hS.int_free 0 rfl e
                  have hS3 := hS.int_set 0 rfl (j := a) (by rw [hpl.out]; omega) (min (valL Y a) (valL Y e))
                  have v2 := hS3.int_at 0 rfl (j := e) (by simp; rw [hpl.out]; omega)
                  have y2 := hS3.int_free 0 rfl e
                  have HS4 := hid (hS3.int_set 0 rfl (j := e) (by simp; rw [hpl.out]; omega) (min (valL Y a) (valL Y e)))
                  clear hS hS3
                  go_wp2_with fail
                  refine ⟨?_, by simp [intOf]; omega⟩
                  first
                    | exact ⟨j + 1, by omega, by go_num, by rw [HQ.out], by rw [HP.out, HJ.out]; exact HS4⟩
                    | ((repeat apply Exists.intro); exact ⟨⟨j + 1, by omega, by go_num, by rw [HQ.out], by rw [HP.out, HJ.out]; exact HS4⟩, rfl⟩)
                · have he2 : valL Y a = valL Y e := by simpa using gv
                  have HJ : Hid (joinF f Y = Y) := by
                    refine joinF_same (n := n) hpl.out (by omega) (by omega) (by omega) ?_
                    rw [ha, hb]; simpa using he2
                  have HQ : Hid (chgB (fun i => M.testBit i) fs X (j + 1) = ch) := by unfold Hid; rw [HC2.out, gv]; simp
                  clear HC2 HCH hfd ha hb he2 gb
                  refine region_cls (by kernel_rfl) (by kernel_rfl) ?_
                  repeat (first
                    | ((with_reducible refine quiet_pos ?_ (fun K hK => ?_))
                       · rfl
                       apply Exists.intro
                       refine ⟨fun w' hw' => ?_, ?_⟩
                       · go_simp
                         with_reducible rfl
                       simp only [Act.put, List.setIfInBounds_toArray, List.set_cons_zero, List.set_cons_succ]
                       refine hK _ ?_; clear hK K)
                    | ((with_reducible refine quiet_neg ?_ (fun K hK => ?_))
                       · rfl
                       simp only [Act.put, List.setIfInBounds_toArray, List.set_cons_zero, List.set_cons_succ]
                       refine hK _ ?_; clear hK K))
                  with_reducible refine wpQuiet_nil ?_
                  intro wz hwz'
                  have HS3 := hid (hS.step hwz')
                  clear hS
                  go_wp2_with fail
                  refine ⟨?_, by simp [intOf]; omega⟩
                  first
                    | exact ⟨j + 1, by omega, by go_num, by rw [HQ.out], by rw [HP.out, HJ.out]; exact HS3⟩
                    | ((repeat apply Exists.intro); exact ⟨⟨j + 1, by omega, by go_num, by rw [HQ.out], by rw [HP.out, HJ.out]; exact HS3⟩, rfl⟩)
              · rw [gb] at ib
                simp only [if_true] at ib
                have HP : Hid (passTo (fun i => M.testBit i) fs X (j + 1) = passTo (fun i => M.testBit i) fs X j) := by unfold Hid; rw [passTo_succ, gb]; rfl
                have HQ : Hid (chgB (fun i => M.testBit i) fs X (j + 1) = ch) := by
                  show (chgB (fun i => M.testBit i) fs X j || (!(M.testBit j) && _)) = _
                  rw [← HCH.out, gb]; simp
                clear HCH hfd ha hb gb
                refine region_cls (by kernel_rfl) (by kernel_rfl) ?_
                repeat (first
                  | ((with_reducible refine quiet_pos ?_ (fun K hK => ?_))
                     · rfl
                     apply Exists.intro
                     refine ⟨fun w' hw' => ?_, ?_⟩
                     · go_simp
                       with_reducible rfl
                     simp only [Act.put, List.setIfInBounds_toArray, List.set_cons_zero, List.set_cons_succ]
                     refine hK _ ?_; clear hK K)
                  | ((with_reducible refine quiet_neg ?_ (fun K hK => ?_))
                     · rfl
                     simp only [Act.put, List.setIfInBounds_toArray, List.set_cons_zero, List.set_cons_succ]
                     refine hK _ ?_; clear hK K))
                with_reducible refine wpQuiet_nil ?_
                intro wz hwz'
                have HS3 := hid (hS.step hwz')
                clear hS
                go_wp2_with fail
                refine ⟨?_, by simp [intOf]; omega⟩
                first
                  | exact ⟨j + 1, by omega, by go_num, by rw [HQ.out], by rw [HP.out]; exact HS3⟩
                  | ((repeat apply Exists.intro); exact ⟨⟨j + 1, by omega, by go_num, by rw [HQ.out], by rw [HP.out]; exact HS3⟩, rfl⟩)
            · have hjm : j = fs.length := by have := hlf.out; omega
              have HR : Hid (rndL (fun i => M.testBit i) fs n (r + 1) = passTo (fun i => M.testBit i) fs X j) := by unfold Hid; rw [HN.out, hjm]; rfl
              have HG1 : Hid (ch = true → r + 1 ≤ n) := fun hc => by
                apply Classical.byContradiction
                intro hlt
                have h1 := rndL_late (q := fun i => M.testBit i) HE.out (show n ≤ r by omega)
                rw [HN.out, ← HX.out] at h1
                exact chgB_yes hXl.out HE.out (Nat.le_of_eq hjm) (by rw [← HCH.out]; exact hc) h1
              have HG2 : Hid (ch = false → rndL (fun i => M.testBit i) fs n (r + 1) = compL (fun i => M.testBit i) fs n) := fun hc => by
                have h1 := chgB_no (q := fun i => M.testBit i) hXl.out HE.out (Nat.le_of_eq hjm) (by rw [← HCH.out]; exact hc)
                have h2 : rndL (fun i => M.testBit i) fs n (r + 1) = rndL (fun i => M.testBit i) fs n r := by rw [HR.out, h1, HX.out]
                rw [h2]
                exact rndL_done HE.out h2
              clear hjm
              go_wp2_with fail
              go_roundg (gk - 1)
              case measure => omega
              case rel => exact ⟨r + 1, ch, rfl, by omega, HG1, HG2, by rw [HR.out]; exact HS⟩
end
end Go.Proofs.Ytfepilpllfiegaa
/- ComponentsOf of both sides, walked. Conditions: none. -/
namespace Go.Proofs.Ytfepilpllfiegaa
open Go.RowKit
section
variable {n c m d c' : Nat} {A A' V : Option Addr} {xs : List ByteArray} {fs : List Fib} {l : List Int}
/-- The list is a set of fibers of a valid network. -/
def coB (xs : List ByteArray) (fs : List Fib) (l : List Int) : Bool := goodB xs fs && risB 0 ((fs.length : Int) - 1) l
def coL (xs : List ByteArray) (fs : List Fib) (l : List Int) : List Int := if coB xs fs l then compL (goneF l) fs xs.length else []
theorem coB_mem (h : coB xs fs l = true) : ∀ x ∈ l, 0 ≤ x ∧ x < fs.length := by
  intro x hx
  unfold coB risB at h
  rw [Bool.and_eq_true] at h
  obtain ⟨k, hk, e⟩ := List.mem_iff_getElem.1 hx
  have h1 := allB_iff.1 h.2 k hk
  unfold riseAt at h1
  rw [Bool.and_eq_true, getD_of (by rw [List.getElem?_eq_getElem hk, e])] at h1
  exact inB_idx h1.1
theorem coL_len : (coL xs fs l).length ≤ 8 := by
  unfold coL
  cases g : coB xs fs l
  · simp
  · unfold coB at g
    rw [Bool.and_eq_true] at g
    have := (goodB_bd g.1).2.1
    simp [compL_len]; omega
theorem passTo_congr {q q' : Nat → Bool} {X : List Int} : ∀ j, (∀ i, i < j → q i = q' i) → passTo q fs X j = passTo q' fs X j := by
  intro j
  induction j with
  | zero => intro _; rfl
  | succ j ih => intro h; rw [passTo_succ, passTo_succ, h j (by omega), ih (fun i hi => h i (by omega))]
theorem compL_congr {q q' : Nat → Bool} (h : ∀ i, i < fs.length → q i = q' i) : compL q fs n = compL q' fs n := by
  suffices hh : ∀ k, rndL q fs n k = rndL q' fs n k from hh n
  intro k
  induction k with
  | zero => rfl
  | succ k ih => rw [rndL_succ, rndL_succ, ih]; exact passTo_congr _ h
set_option maxRecDepth 100000 in
theorem isFiberSet_any (w : World) (h : NetIs w A n c A' m d xs fs) (hv : Sees elInt w w.heap.size V l.length l) (hl : l.length ≤ 1048576) :
    Calls Try.prog 75 #[.agg #[.slice A n c, .slice A' m d], .slice V l.length c'] w fun e w' => e = .returned (.bool (coB xs fs l)) ∧ Below w.heap.size w w' := by
  have hS := (Led.nil w).blk_ w.heap.size rfl 27 #[.slice A n c, .slice A' m d]
  have hm := h.mle
  have HB : Hid (coB xs fs l = (goodB xs fs && risB 0 ((m : Int) - 1) l)) := by unfold Hid coB; rw [h.flen]
  cases g : goodB xs fs
  · go_enter Try.func75, Try.ntmps75
    go_wp2_with fail
    refine (validN _ (h.grow hS.bl)).mono ?_
    rintro e w1 ⟨rfl, hb⟩
    rw [g]
    go_wp2_with fail
    go_ret
    exact ⟨by rw [HB.out, g]; rfl, bl_then hS.bl hb⟩
  · go_enter Try.func75, Try.ntmps75
    go_wp2_with fail
    refine (validN _ (h.grow hS.bl)).mono ?_
    rintro e w1 ⟨rfl, hb⟩
    rw [g]
    replace hS := hS.step hb
    have q1 := hS.cell 0 1 rfl rfl
    go_wp2_with fail
    refine (isSet_any m _ (hv.grow hS.bl) hl hm).mono ?_
    rintro e w2 ⟨rfl, rfl⟩
    go_wp2_with fail
    go_ret
    exact ⟨by rw [HB.out, g]; rfl, hS.bl⟩
set_option maxHeartbeats 1000000 in
set_option maxRecDepth 100000 in
theorem implComponentsOf (w : World) (h : NetIs w A n c A' m d xs fs) (hv : Sees elInt w w.heap.size V l.length l) (hl : l.length ≤ 1048576) :
    Calls Try.prog 70 #[.agg #[.slice A n c, .slice A' m d], .slice V l.length c'] w fun e w' => ∃ v, e = .returned (.tuple #[v, .bool (coB xs fs l)]) ∧ Owns elInt w' w.heap.size 3 v (coL xs fs l) ∧ Below w.heap.size w w' := by
  have hS := (Led.nil w).blk_ w.heap.size rfl 27 #[.slice A n c, .slice A' m d]
  cases g : coB xs fs l
  · have H : Hid (coL xs fs l = []) := by unfold Hid coL; rw [g]; rfl
    go_enter Try.func70, Try.ntmps70
    go_wp2_with fail
    refine (isFiberSet_any _ (h.grow hS.bl) ((hv.grow hS.bl).more hS.bl.size) hl).mono ?_
    rintro e w1 ⟨rfl, hb⟩
    rw [g]
    go_wp2_with fail
    go_ret2
    exact ⟨_, rfl, by rw [H.out]; exact World.ownsRow_nil _ _ _ _, bl_then hS.bl hb⟩
  · have H : Hid (coL xs fs l = compL (goneF l) fs n) := by unfold Hid coL; rw [g, h.xlen]; rfl
    have hg : goodB xs fs = true := by unfold coB at g; rw [Bool.and_eq_true] at g; exact g.1
    have he := goodB_ends hg
    rw [h.xlen] at he
    have hn0 : 0 < n := by have := (goodB_bd hg).1; have := h.xlen; omega
    go_enter Try.func70, Try.ntmps70
    go_wp2_with fail
    refine (isFiberSet_any _ (h.grow hS.bl) ((hv.grow hS.bl).more hS.bl.size) hl).mono ?_
    rintro e w1 ⟨rfl, hb⟩
    rw [g]
    replace hS := hS.step hb
    have q0 := hS.cell 0 0 rfl rfl
    have q1 := hS.cell 0 1 rfl rfl
    go_wp2_with fail
    refine (components_any _ (h.grow hS.bl) (hv.grow hS.bl) hl he hn0).mono ?_
    rintro e w2 ⟨v, rfl, ho, hb2⟩
    have HO := hid (ho.base hS.bl.size)
    clear ho
    go_wp2_with fail
    go_ret2
    exact ⟨_, rfl, by rw [H.out]; exact HO.out, bl_then hS.bl hb2⟩
/-- The labels by a set's number. -/
theorem compL_mask (h : coB xs fs l = true) : compL (fun i => (maskN l).testBit i) fs n = compL (goneF l) fs n :=
  compL_congr fun i _ => maskN_bit (fun x hx => (coB_mem h x hx).1) i
theorem mask_small (h : coB xs fs l = true) : maskN l < 2 ^ 20 ∧ ∀ x ∈ l, 0 ≤ x ∧ x < 20 := by
  have hg : goodB xs fs = true := by unfold coB at h; rw [Bool.and_eq_true] at h; exact h.1
  have h14 := (goodB_bd hg).2.2
  have hx : ∀ x ∈ l, 0 ≤ x ∧ x < 20 := fun x hx => by have := coB_mem h x hx; omega
  exact ⟨maskTo_lt hx _ (Nat.le_refl _), hx⟩
end
end Go.Proofs.Ytfepilpllfiegaa
