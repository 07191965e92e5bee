/- Lemmas and walks that the claim rests on, laid together. Conditions: none. -/
import Derived.Test.YtjfafhehpfjofaaGreatZ366dab748d14
import Derived.Test.YtjfafhehpfjofaaGreatRows
import Derived.Test.YtjfafhehpfjofaaGreatZ0a7cb1c9072e
import Derived.Test.YtjfafhehpfjofaaGreatZed1f78547694
import Derived.Deep.RegionHeld3
import Derived.Test.YtjfafhehpfjofaaGreatZ6bf9e9b909bb
import Derived.BigQuiet
import Derived.Deep.RegionWith
import Derived.Deep.LoopGhost
/- Lists of numbers, and a fiber, that came in. Conditions: none. -/
namespace Go.Proofs.YtjfafhehpfjofaaGreat
open Go.RowKit
section
variable {H : Type} {enc : TypeId × Value → H} {W : World} {spare : Nat → Bool} {held : Bool}
/-- A list of numbers that came in. -/
def IntsArg (W : World) (A : Option Addr) (n c : Nat) (xs : List Int) : Prop := SlArg elInt W A n c xs (fun a => -9223372036854775808 ≤ a ∧ a ≤ 9223372036854775807)
set_option maxRecDepth 100000 in
theorem open_ints {base : Nat} {v : Value} {d : DataW H} {p : List MemPlace} (hv : Value.okWide Tryz.prog W .any base 28 v) (h : DataW.Trod enc Tryz.prog W 0 spare held 28 v d p) :
    ∃ A n c xs, v = .slice A n c ∧ IntsArg W A n c xs :=
  open_sl_val elInt _ Tryz.underlying28 cellsI (el_int Tryz.underlying3) hv h
end
end Go.Proofs.YtjfafhehpfjofaaGreat
/- szRoute, toRoute, eqRoute; IsValidRoute and RouteNodes of both sides, walked. Conditions: at most 1048576 fibers. -/
namespace Go.Proofs.YtjfafhehpfjofaaGreat
open Go.RowKit
/-- The nodes of a route. -/
def routeL (xs : List ByteArray) (fs : List Fib) (s : Int) (ids : List Int) : List Int := if goodB xs fs then rtL xs.length fs s ids else []
section
variable {n c m d kr er : Nat} {A A' R : Option Addr} {xs : List ByteArray} {fs : List Fib} {ids : List Int}
set_option maxHeartbeats 1000000 in
set_option maxRecDepth 100000 in
theorem implRouteNodes (s : Int) (w : World) (h : NetIs w A n c A' m d xs fs) (hr : RtIs w R kr er ids) :
    Calls Tryz.prog 49 #[.agg #[.slice A n c, .slice A' m d], .agg #[.int .i64 s, .slice R kr er]] w fun e w' => ∃ v, e = .returned (.tuple #[v, .bool (routeB xs fs s ids)]) ∧ Owns elInt w' w.heap.size 3 v (routeL xs fs s ids) ∧ Below w.heap.size w w' := by
  have hb0 := bl_alloc (bl_alloc (Below.refl w.heap.size w) (.cells #[.slice A n c, .slice A' m d] 27)) (.cells #[.int .i64 s, .slice R kr er] 32)
  have hx0 : Blk ((w.alloc (.cells #[.slice A n c, .slice A' m d] 27)).alloc (.cells #[.int .i64 s, .slice R kr er] 32)) w.heap.size 27 #[.slice A n c, .slice A' m d] := (Blk.new _ _ _).alloc _
  have hy0 : Blk ((w.alloc (.cells #[.slice A n c, .slice A' m d] 27)).alloc (.cells #[.int .i64 s, .slice R kr er] 32)) (w.heap.size + 1) 32 #[.int .i64 s, .slice R kr er] := by
    have := Blk.new (w.alloc (.cells #[.slice A n c, .slice A' m d] 27)) 32 #[.int .i64 s, .slice R kr er]
    simpa using this
  have h0 := h.grow hb0
  have hr0 := hr.grow hb0
  cases g : goodB xs fs
  · have H : Hid (routeB xs fs s ids = false ∧ routeL xs fs s ids = []) := by unfold Hid routeB routeL; rw [g]; exact ⟨rfl, rfl⟩
    go_enter Tryz.func49, Tryz.ntmps49
    go_wp2_with fail
    refine (validN _ h0).mono ?_
    rintro e w1 ⟨rfl, hb1⟩
    rw [g]
    go_wp2_with fail
    go_ret2
    exact ⟨_, by rw [H.out.1]; rfl, by rw [H.out.2]; exact World.ownsRow_nil _ _ _ _, bl_then hb0 hb1⟩
  · have H : Hid (routeB xs fs s ids = rtB n fs s ids ∧ routeL xs fs s ids = rtL n fs s ids) := by unfold Hid routeB routeL; rw [g, h.xlen]; exact ⟨rfl, rfl⟩
    go_enter Tryz.func49, Tryz.ntmps49
    go_wp2_with fail
    refine (validN _ h0).mono ?_
    rintro e w1 ⟨rfl, hb1⟩
    rw [g]
    have p0 := (hx0.below hb1 hx0.lt).cell 0
    have p1 := (hx0.below hb1 hx0.lt).cell 1
    have p2 := (hy0.below hb1 hy0.lt).cell 0
    have p3 := (hy0.below hb1 hy0.lt).cell 1
    simp at p0 p1 p2 p3
    go_wp2_with fail
    refine (visited_any s w1 (h0.grow hb1) (hr0.grow hb1)).mono ?_
    rintro e w2 ⟨v2, rfl, ho2, hb2⟩
    have hbw := bl_then hb0 hb1
    have HO := hid ho2
    clear ho2
    go_wp2_with fail
    go_ret2
    exact ⟨_, by rw [H.out.1]; rfl, by rw [H.out.2]; exact HO.out.base hbw.size, bl_then hbw hb2⟩
set_option maxRecDepth 100000 in
theorem implIsValidRoute (s : Int) (w : World) (h : NetIs w A n c A' m d xs fs) (hr : RtIs w R kr er ids) :
    Calls Tryz.prog 24 #[.agg #[.slice A n c, .slice A' m d], .agg #[.int .i64 s, .slice R kr er]] w fun e w' => e = .returned (.bool (routeB xs fs s ids)) ∧ Below w.heap.size w w' := by
  have hb0 := bl_alloc (bl_alloc (Below.refl w.heap.size w) (.cells #[.slice A n c, .slice A' m d] 27)) (.cells #[.int .i64 s, .slice R kr er] 32)
  have hx0 : Blk ((w.alloc (.cells #[.slice A n c, .slice A' m d] 27)).alloc (.cells #[.int .i64 s, .slice R kr er] 32)) w.heap.size 27 #[.slice A n c, .slice A' m d] := (Blk.new _ _ _).alloc _
  have hy0 : Blk ((w.alloc (.cells #[.slice A n c, .slice A' m d] 27)).alloc (.cells #[.int .i64 s, .slice R kr er] 32)) (w.heap.size + 1) 32 #[.int .i64 s, .slice R kr er] := by
    have := Blk.new (w.alloc (.cells #[.slice A n c, .slice A' m d] 27)) 32 #[.int .i64 s, .slice R kr er]
    simpa using this
  have h0 := h.grow hb0
  have hr0 := hr.grow hb0
  go_enter Tryz.func24, Tryz.ntmps24
  go_wp2_with fail
  refine (implRouteNodes s _ h0 hr0).mono ?_
  rintro e w1 ⟨v1, rfl, _, hb1⟩
  go_wp2_with fail
  go_ret
  exact ⟨rfl, bl_then hb0 hb1⟩
end
end Go.Proofs.YtjfafhehpfjofaaGreat
/- Routes in plain Lean: how long they are at most; their lengths; their order. Conditions: none. -/
namespace Go.Proofs.YtjfafhehpfjofaaGreat
/-- Different numbers below n are n at most. -/
theorem nodup_bd : ∀ (n : Nat) (l : List Int), l.Nodup → (∀ x ∈ l, 0 ≤ x ∧ x < n) → l.length ≤ n := by
  intro n
  induction n with
  | zero =>
    intro l _ h
    cases l with
    | nil => exact Nat.le_refl _
    | cons x l => have := h x (by simp); omega
  | succ n ih =>
    intro l hd h
    have h1 := ih (l.erase (n : Int)) (hd.erase _) (fun x hx => by
      have := (List.Nodup.mem_erase_iff hd).1 hx
      have h2 := h x this.2
      have h3 := this.1
      omega)
    have h2 : l.length ≤ (l.erase (n : Int)).length + 1 := by rw [List.length_erase]; split <;> omega
    omega
section
variable {n : Nat} {fs : List Fib} {s : Int} {ids : List Int}
theorem rtB_parts (h : rtB n fs s ids = true) : inB 0 ((n : Int) - 1) s = true ∧ ids ≠ [] ∧ allTo (okW fs.length fs s ids) ids.length := by
  unfold rtB at h
  rw [Bool.and_eq_true, Bool.and_eq_true] at h
  refine ⟨h.1, fun e => ?_, allB_iff.1 h.2.2⟩
  rw [e] at h; simp at h
theorem okW_parts {m k : Nat} (h : okW m fs s ids k = true) : inB 0 ((m : Int) - 1) (ids.getD k 0) = true ∧ 0 ≤ atW fs s ids (k + 1) ∧ hasB (outW fs s ids k) (atW fs s ids (k + 1)) = false := by
  unfold okW at h
  rw [Bool.and_eq_true, Bool.and_eq_true] at h
  refine ⟨h.1, ?_, by simpa using h.2.2⟩
  have := h.2.1
  simp at this; exact this
theorem rtB_at (h : rtB n fs s ids = true) {k : Nat} {i : Int} (hi : ids[k]? = some i) : 0 ≤ i ∧ i < fs.length := by
  have hk : k < ids.length := (List.getElem?_eq_some_iff.1 hi).1
  have h1 := (okW_parts ((rtB_parts h).2.2 k hk)).1
  rw [getD_of hi] at h1
  exact inB_idx h1
theorem rtB_mem (h : rtB n fs s ids = true) : ∀ x ∈ ids, 0 ≤ x ∧ x < fs.length := by
  intro x hx
  obtain ⟨k, hk, e⟩ := List.mem_iff_getElem.1 hx
  exact rtB_at h (k := k) (by rw [List.getElem?_eq_getElem hk, e])
theorem outW_nodup (h : allTo (okW fs.length fs s ids) ids.length) : ∀ k, k ≤ ids.length → (outW fs s ids k).Nodup := by
  intro k
  induction k with
  | zero => intro _; rw [outW_zero]; simp
  | succ k ih =>
    intro hk
    rw [outW_succ, List.nodup_append]
    refine ⟨ih (by omega), by simp, fun a ha b hb => ?_⟩
    simp at hb; subst hb
    have h1 := (okW_parts (h k (by omega))).2.2
    intro e
    subst e
    rw [hasB_iff.2 ha] at h1; cases h1
theorem outW_range (hf : ∀ f ∈ fs, fibB n f = true) (h : rtB n fs s ids = true) : ∀ k, k ≤ ids.length → ∀ x ∈ outW fs s ids k, 0 ≤ x ∧ x < n := by
  obtain ⟨hs, _, hall⟩ := rtB_parts h
  intro k
  induction k with
  | zero => intro _ x hx; rw [outW_zero] at hx; simp at hx; subst hx; exact inB_idx hs
  | succ k ih =>
    intro hk x hx
    rw [outW_succ] at hx
    rcases List.mem_append.1 hx with hx | hx
    · exact ih (by omega) x hx
    · simp at hx; subst hx
      have hok := okW_parts (hall k (by omega))
      have hki : k < ids.length := by omega
      have hi := rtB_at h (List.getElem?_eq_getElem hki)
      have hfi : fs[(ids[k]).toNat]? = some (fs[(ids[k]).toNat]'(by omega)) := List.getElem?_eq_getElem _
      have e := atW_succ (s := s) (List.getElem?_eq_getElem hki) hfi
      have hb := otherF_bd (hf _ (List.mem_of_getElem? hfi)) (atW fs s ids k)
      rw [← e] at hb
      exact ⟨hok.2.1, hb.2⟩
theorem rtB_short (hf : ∀ f ∈ fs, fibB n f = true) (h : rtB n fs s ids = true) : ids.length + 1 ≤ n := by
  have h1 := nodup_bd n (outW fs s ids ids.length) (outW_nodup (rtB_parts h).2.2 _ (Nat.le_refl _)) (outW_range hf h _ (Nat.le_refl _))
  rw [outW_len] at h1
  exact h1
end
/-- The length of the first k fibers. -/
def rlTo (fs : List Fib) (ids : List Int) (k : Nat) : Int := ((ids.take k).map fun i => (fs.getD i.toNat ⟨0, 0, 0, 0⟩).len).sum
/-- The length of a route. -/
def lenR (fs : List Fib) (ids : List Int) : Int := rlTo fs ids ids.length
theorem rlTo_zero (fs : List Fib) (ids : List Int) : rlTo fs ids 0 = 0 := by simp [rlTo]
theorem rlTo_succ {fs : List Fib} {ids : List Int} {k : Nat} {i : Int} {f : Fib} (hi : ids[k]? = some i) (hf : fs[i.toNat]? = some f) : rlTo fs ids (k + 1) = rlTo fs ids k + f.len := by
  unfold rlTo
  rw [List.take_add_one, hi]
  simp [hf]
theorem rlTo_bd {fs : List Fib} {ids : List Int} (hl : ∀ f ∈ fs, 0 ≤ f.len ∧ f.len ≤ 5000) (hin : ∀ x ∈ ids, 0 ≤ x ∧ x < fs.length) : ∀ k, k ≤ ids.length → 0 ≤ rlTo fs ids k ∧ rlTo fs ids k ≤ 5000 * (k : Int) := by
  intro k
  induction k with
  | zero => intro _; rw [rlTo_zero]; omega
  | succ k ih =>
    intro hk
    have h1 := ih (by omega)
    have hki : k < ids.length := by omega
    have hi := hin _ (List.getElem_mem hki)
    have hfi : fs[(ids[k]).toNat]? = some (fs[(ids[k]).toNat]'(by omega)) := List.getElem?_eq_getElem _
    rw [rlTo_succ (List.getElem?_eq_getElem hki) hfi]
    have := hl _ (List.mem_of_getElem? hfi)
    omega
section
variable {xs : List ByteArray} {fs : List Fib} {s : Int} {ids : List Int}
theorem routeB_good (h : routeB xs fs s ids = true) : goodB xs fs = true ∧ rtB xs.length fs s ids = true := by unfold routeB at h; simpa using h
theorem goodB_lens (h : goodB xs fs = true) : ∀ f ∈ fs, 0 ≤ f.len ∧ f.len ≤ 5000 := fun f hf => by
  have := goodB_fibB h hf
  unfold fibB at this; simp at this; omega
theorem routeB_short (h : routeB xs fs s ids = true) : ids.length ≤ 7 ∧ 1 ≤ ids.length := by
  obtain ⟨hg, hr⟩ := routeB_good h
  have h1 := rtB_short (fun f hf => goodB_fibB hg hf) hr
  have h2 := (goodB_bd hg).2.1
  have h3 := (rtB_parts hr).2.1
  have : ids.length ≠ 0 := fun e => h3 (List.eq_nil_of_length_eq_zero e)
  omega
theorem routeL_yes (h : routeB xs fs s ids = true) : routeL xs fs s ids = outW fs s ids ids.length := by
  obtain ⟨hg, hr⟩ := routeB_good h
  unfold routeL; rw [hg]; simp [rtL_yes hr]
theorem routeL_no (h : routeB xs fs s ids = false) : routeL xs fs s ids = [] := by
  unfold routeB at h; unfold routeL
  cases g : goodB xs fs
  · rfl
  · rw [g] at h; simp at h; simp [rtL_no h]
theorem routeL_len : (routeL xs fs s ids).length ≤ 8 := by
  cases g : routeB xs fs s ids
  · rw [routeL_no g]; simp
  · rw [routeL_yes g, outW_len]; have := (routeB_short g).1; omega
/-- RouteLength. -/
def rlI (xs : List ByteArray) (fs : List Fib) (s : Int) (ids : List Int) : Int := if routeB xs fs s ids then lenR fs ids else 0
theorem rt_lens (h : routeB xs fs s ids = true) : 0 ≤ lenR fs ids ∧ lenR fs ids ≤ 35000 := by
  obtain ⟨hg, hr⟩ := routeB_good h
  have h1 := rlTo_bd (goodB_lens hg) (rtB_mem hr) ids.length (Nat.le_refl _)
  have h2 := (routeB_short h).1
  unfold lenR
  omega
end
/-- -1, 0 or 1. -/
def sgnI (x : Int) : Int := if x < 0 then -1 else if x > 0 then 1 else 0
/-- Two lists in their order, the shorter first where one begins with the other. -/
def cmpL : List Int → List Int → Int
  | [], [] => 0
  | [], _ :: _ => -1
  | _ :: _, [] => 1
  | x :: xs, y :: ys => if x < y then -1 else if y < x then 1 else cmpL xs ys
/-- Two routes in their order. -/
def cmpRt (fs : List Fib) (s : Int) (a : List Int) (t : Int) (b : List Int) : Int :=
  if lenR fs a ≠ lenR fs b then sgnI (lenR fs a - lenR fs b)
  else if a.length ≠ b.length then sgnI ((a.length : Int) - b.length)
  else if cmpL a b ≠ 0 then cmpL a b
  else sgnI (s - t)
theorem cmpL_at : ∀ {a b : List Int} {k : Nat} {x y : Int}, a.take k = b.take k → a[k]? = some x → b[k]? = some y → x ≠ y → cmpL a b = sgnI (x - y) := by
  intro a
  induction a with
  | nil => intro b k x y _ h; simp at h
  | cons u a ih =>
    intro b k x y ht ha hb hne
    cases b with
    | nil => simp at hb
    | cons v b =>
      cases k with
      | zero =>
        simp at ha hb; subst ha hb
        unfold cmpL sgnI
        by_cases h1 : u < v
        · rw [if_pos h1, if_pos (by omega)]
        · rw [if_neg h1, if_pos (by omega), if_neg (by omega), if_pos (by omega)]
      | succ k =>
        simp at ht ha hb
        unfold cmpL
        rw [ht.1, if_neg (by omega), if_neg (by omega)]
        exact ih ht.2 ha hb hne
theorem cmpL_same (a : List Int) : cmpL a a = 0 := by
  induction a with
  | nil => rfl
  | cons u a ih => unfold cmpL; rw [if_neg (by omega), if_neg (by omega)]; exact ih
theorem cmpL_short {a b : List Int} (ht : a = b.take a.length) (h : a.length < b.length) : cmpL a b = -1 := by
  induction a generalizing b with
  | nil => cases b with
    | nil => simp at h
    | cons v b => rfl
  | cons u a ih =>
    cases b with
    | nil => simp at h
    | cons v b =>
      simp at ht h
      unfold cmpL
      rw [ht.1, if_neg (by omega), if_neg (by omega)]
      exact ih ht.2 h
theorem cmpL_long {a b : List Int} (ht : a.take b.length = b) (h : b.length < a.length) : cmpL a b = 1 := by
  induction b generalizing a with
  | nil => cases a with
    | nil => simp at h
    | cons u a => rfl
  | cons v b ih =>
    cases a with
    | nil => simp at h
    | cons u a =>
      simp at ht h
      unfold cmpL
      rw [ht.1, if_neg (by omega), if_neg (by omega)]
      exact ih ht.2 h
end Go.Proofs.YtjfafhehpfjofaaGreat
/- Lengths of routes, their nodes and their ends; RouteNodes, RouteLength; walked. Conditions: as each states. -/
namespace Go.Proofs.YtjfafhehpfjofaaGreat
open Go.RowKit
section
variable {n c m d er : Nat} {A A' R : Option Addr} {xs : List ByteArray} {fs : List Fib} {s : Int} {ids : List Int}
set_option maxHeartbeats 1000000 in
set_option maxRecDepth 100000 in
theorem lengthOf_any (w : World) (h : NetIs w A n c A' m d xs fs) (hr : RtIs w R ids.length er ids) (hin : ∀ x ∈ ids, 0 ≤ x ∧ x < fs.length) (hl : ∀ f ∈ fs, 0 ≤ f.len ∧ f.len ≤ 5000) :
    Calls Tryz.prog 25 #[.agg #[.slice A n c, .slice A' m d], .agg #[.int .i64 s, .slice R ids.length er]] w fun e w' => e = .returned (.int .i64 (lenR fs ids)) ∧ Below w.heap.size w w' := by
  have hS := ((Led.nil w).blk_ w.heap.size rfl 27 #[.slice A n c, .slice A' m d]).blk_ (w.heap.size + 1) (by simp) 32 #[.int .i64 s, .slice R ids.length er]
  have hbd := hid (rlTo_bd hl hin)
  have HIN := hid hin
  have hkr := hr.le
  have hm := h.mle
  have hlf := hid h.flen
  have HS := hid hS
  have HF := hid h
  have HR := hid hr
  clear hin hl hS h hr
  go_enter Tryz.func25, Tryz.ntmps25
  go_wp2_with fail
  go_loopw [5, 11] (fun t i wr => ∃ (k : Nat) (r : Int), k ≤ ids.length ∧ i = .int .i64 k ∧ t = .int .i64 r ∧ Hid (r = rlTo fs ids k) ∧ Hid (Led w wr [tBlk (w.heap.size + 1) 32 #[.int .i64 s, .slice R ids.length er], tBlk w.heap.size 27 #[.slice A n c, .slice A' m d]])) (fun _ i _ => ids.length - (intOf i).toNat)
  case atStart => exact ⟨0, 0, Nat.zero_le _, rfl, rfl, (rlTo_zero fs ids).symm, HS⟩
  case round =>
    clear HS
    obtain ⟨k, r, hk, rfl, rfl, hre, HS⟩ := hrel
    have p1 := HS.out.cell 1 1 rfl rfl
    have p3 := HS.out.cell 0 1 rfl rfl
    by_cases hlt : k < ids.length
    · obtain ⟨ib, io, rfl, _, hc⟩ := HR.out.2.at_ hlt
      obtain ⟨x, hxk⟩ := get_of (k := k) rfl hlt
      have hx := HIN.out x (List.mem_of_getElem? hxk)
      rw [hlf.out] at hx
      obtain ⟨j, rfl⟩ : ∃ j : Nat, x = (j : Int) := ⟨x.toNat, by omega⟩
      obtain ⟨b, o, rfl, _, hd⟩ := HF.out.fibs.at_ (k := j) (by omega)
      obtain ⟨f, hfj⟩ := get_of (k := j) hlf.out (by omega)
      have e0 := bl_cell HS.out.bl (hc k _ hxk 0 _ rfl)
      have f2 := bl_cell HS.out.bl (hd j f hfj 2 _ rfl)
      simp only [elFib, elInt, Nat.mul_one, Nat.add_zero] at e0 f2
      have b1 := hbd.out k (by omega)
      have b2 := hbd.out (k + 1) (by omega)
      have HN : Hid (rlTo fs ids (k + 1) = r + f.len) := by unfold Hid; rw [rlTo_succ hxk (by simpa using hfj), ← hre.out]
      rw [← hre.out] at b1
      rw [HN.out] at b2
      have iw : IntKind.i64.wrap (r + f.len) = r + f.len := IntWalk.i64_in _ (by omega)
      have ik : (k : Int) < (ids.length : Int) := by omega
      clear hc hd hxk hfj
      go_wp2
      go_roundw
      case rel => exact ⟨k + 1, _, by omega, by go_num, rfl, HN.out.symm, HS⟩
      case measure => simp [intOf]; omega
    · have hkm : k = ids.length := by omega
      have HE : Hid (r = lenR fs ids) := by rw [hkm] at hre; exact hre
      clear hlt hre
      go_wp2
      go_ret
      exact ⟨by rw [HE.out]; rfl, HS.out.bl⟩
set_option maxHeartbeats 1000000 in
set_option maxRecDepth 100000 in
theorem l4Length_any (w : World) (h : NetIs w A n c A' m d xs fs) (hr : RtIs w R ids.length er ids) (hin : ∀ x ∈ ids, 0 ≤ x ∧ x < fs.length) (hl : ∀ f ∈ fs, 0 ≤ f.len ∧ f.len ≤ 5000) :
    Calls Tryz.prog 75 #[.agg #[.slice A n c, .slice A' m d], .agg #[.int .i64 s, .slice R ids.length er]] w fun e w' => e = .returned (.int .i64 (lenR fs ids)) ∧ Below w.heap.size w w' := by
  have hS := ((Led.nil w).blk_ w.heap.size rfl 27 #[.slice A n c, .slice A' m d]).blk_ (w.heap.size + 1) (by simp) 32 #[.int .i64 s, .slice R ids.length er]
  have hbd := hid (rlTo_bd hl hin)
  have HIN := hid hin
  have hkr := hr.le
  have hm := h.mle
  have hlf := hid h.flen
  have HS := hid hS
  have HF := hid h
  have HR := hid hr
  clear hin hl hS h hr
  go_enter Tryz.func75, Tryz.ntmps75
  go_wp2_with fail
  go_loopw [5, 6] (fun t i wr => ∃ (k : Nat) (r : Int), k ≤ ids.length ∧ i = .int .i64 k ∧ t = .int .i64 r ∧ Hid (r = rlTo fs ids k) ∧ Hid (Led w wr [tBlk (w.heap.size + 1) 32 #[.int .i64 s, .slice R ids.length er], tBlk w.heap.size 27 #[.slice A n c, .slice A' m d]])) (fun _ i _ => ids.length - (intOf i).toNat)
  case atStart => exact ⟨0, 0, Nat.zero_le _, rfl, rfl, (rlTo_zero fs ids).symm, HS⟩
  case round =>
    clear HS
    obtain ⟨k, r, hk, rfl, rfl, hre, HS⟩ := hrel
    have p1 := HS.out.cell 1 1 rfl rfl
    have p3 := HS.out.cell 0 1 rfl rfl
    by_cases hlt : k < ids.length
    · obtain ⟨ib, io, rfl, _, hc⟩ := HR.out.2.at_ hlt
      obtain ⟨x, hxk⟩ := get_of (k := k) rfl hlt
      have hx := HIN.out x (List.mem_of_getElem? hxk)
      rw [hlf.out] at hx
      obtain ⟨j, rfl⟩ : ∃ j : Nat, x = (j : Int) := ⟨x.toNat, by omega⟩
      obtain ⟨b, o, rfl, _, hd⟩ := HF.out.fibs.at_ (k := j) (by omega)
      obtain ⟨f, hfj⟩ := get_of (k := j) hlf.out (by omega)
      have e0 := bl_cell HS.out.bl (hc k _ hxk 0 _ rfl)
      have f2 := bl_cell HS.out.bl (hd j f hfj 2 _ rfl)
      simp only [elFib, elInt, Nat.mul_one, Nat.add_zero] at e0 f2
      have b1 := hbd.out k (by omega)
      have b2 := hbd.out (k + 1) (by omega)
      have HN : Hid (rlTo fs ids (k + 1) = r + f.len) := by unfold Hid; rw [rlTo_succ hxk (by simpa using hfj), ← hre.out]
      rw [← hre.out] at b1
      rw [HN.out] at b2
      have iw : IntKind.i64.wrap (r + f.len) = r + f.len := IntWalk.i64_in _ (by omega)
      have ik : (k : Int) < (ids.length : Int) := by omega
      clear hc hd hxk hfj
      have P1 : ∀ w', Cls wr w' → w'.cell? ⟨w.heap.size, 1, none⟩ = some (.slice (some ⟨b, o, none⟩) m d) := fun _ h => h.cell p1
      have P3 : ∀ w', Cls wr w' → w'.cell? ⟨w.heap.size + 1, 1, none⟩ = some (.slice (some ⟨ib, io, none⟩) ids.length er) := fun _ h => h.cell p3
      have E0 : ∀ w', Cls wr w' → w'.cell? ⟨ib, io + k, none⟩ = some (.int .i64 (j : Int)) := fun _ h => h.cell e0
      have F2 : ∀ w', Cls wr w' → w'.cell? ⟨b, o + j * 4 + 2, none⟩ = some (.int .i64 f.len) := fun _ h => h.cell f2
      go_wp2
      refine region_cls (by kernel_rfl) (by kernel_rfl) ?_
      repeat (first
        | ((with_reducible refine quiet_pos ?_ (fun K hK => ?_))
           · rfl
           apply Exists.intro
           refine ⟨fun w' hw' => ?_, ?_⟩
           · go_simp
             with_reducible rfl
           simp only [Act.put, List.setIfInBounds_toArray, List.set_cons_zero, List.set_cons_succ]
           refine hK _ ?_; clear hK K)
        | ((with_reducible refine quiet_neg ?_ (fun K hK => ?_))
           · rfl
           simp only [Act.put, List.setIfInBounds_toArray, List.set_cons_zero, List.set_cons_succ]
           refine hK _ ?_; clear hK K))
      with_reducible refine wpQuiet_nil ?_
      intro wz hwz'
      have HS2 := hid (HS.out.step hwz')
      clear P1 P3 E0 F2 HS
      go_wp2
      go_roundw
      case rel => exact ⟨k + 1, _, by omega, by go_num, rfl, HN.out.symm, HS2⟩
      case measure => simp [intOf]; omega
    · have hkm : k = ids.length := by omega
      have HE : Hid (r = lenR fs ids) := by rw [hkm] at hre; exact hre
      clear hlt hre
      go_wp2
      go_ret
      exact ⟨by rw [HE.out]; rfl, HS.out.bl⟩
set_option maxHeartbeats 1000000 in
set_option maxRecDepth 100000 in
theorem endOf_any (w : World) (h : NetIs w A n c A' m d xs fs) (hr : RtIs w R ids.length er ids) (g : rtB n fs s ids = true) :
    Calls Tryz.prog 27 #[.agg #[.slice A n c, .slice A' m d], .agg #[.int .i64 s, .slice R ids.length er]] w fun e w' => e = .returned (.int .i64 (atW fs s ids ids.length)) ∧ Below w.heap.size w w' := by
  have hS := ((Led.nil w).blk_ w.heap.size rfl 27 #[.slice A n c, .slice A' m d]).blk_ (w.heap.size + 1) (by simp) 32 #[.int .i64 s, .slice R ids.length er]
  have hkr := hr.le
  have hol := outW_len fs s ids ids.length
  have hog := outW_get fs s ids ids.length
  have HL := hid hol
  have HG := hid hog
  clear hol hog
  go_enter Tryz.func27, Tryz.ntmps27
  go_wp2_with fail
  refine (visited_any s _ (h.grow hS.bl) (hr.grow hS.bl)).mono ?_
  rintro e w1 ⟨v, rfl, ho, hb⟩
  rw [rtL_yes g] at ho
  obtain ⟨A1, c1, rfl, _, _, hs⟩ := ho.form
  rw [HL.out] at hs ⊢
  obtain ⟨b, o, rfl, _, hc⟩ := hs.at_ (k := ids.length) (by omega)
  have e0 := hc _ _ HG.out 0 _ rfl
  simp only [elInt, Nat.mul_one, Nat.add_zero] at e0
  have iw : IntKind.i64.wrap (((ids.length + 1 : Nat) : Int) - 1) = (ids.length : Int) := by rw [show (((ids.length + 1 : Nat) : Int) - 1) = (ids.length : Int) by omega]; exact IntWalk.i64_in _ (by omega)
  have ik : (ids.length : Int) < ((ids.length + 1 : Nat) : Int) := by omega
  have hbz := bl_then hS.bl hb
  clear ho hs hc
  go_wp2_with fail
  go_ret
  exact ⟨rfl, hbz⟩
end
end Go.Proofs.YtjfafhehpfjofaaGreat
/- The order of routes, walked: slices.Compare, compareRoutes, l4Compare, CompareRoutes of both sides. Conditions: as each states. -/
namespace Go.Proofs.YtjfafhehpfjofaaGreat
open Go.RowKit
theorem Cls.onto {w w1 w2 : World} (h : Cls w w1) (k : Cls w1 w2) : Cls w w2 := bl_then h k
theorem sgn_cmp (x y : Int) : sgnI (x - y) = cmpB x y := by
  unfold sgnI cmpB
  split
  · rw [if_pos (by omega)]
  · split
    · rw [if_neg (by omega), if_pos (by omega)]
    · rw [if_neg (by omega), if_neg (by omega)]
/-- Two routes in their order. -/
def ordR (fs : List Fib) (s : Int) (a : List Int) (t : Int) (b : List Int) : Int := orI [cmpB (lenR fs a) (lenR fs b), cmpB (a.length : Int) (b.length : Int), cmpL a b, cmpB s t]
theorem ordR_len {fs : List Fib} {s t : Int} {a b : List Int} (h : lenR fs a ≠ lenR fs b) : ordR fs s a t b = sgnI (lenR fs a - lenR fs b) := by
  unfold ordR orI; rw [sgn_cmp, if_neg (by rw [cmpB_zero]; exact h)]
theorem ordR_num {fs : List Fib} {s t : Int} {a b : List Int} (h : lenR fs a = lenR fs b) (h2 : (a.length : Int) ≠ b.length) : ordR fs s a t b = sgnI ((a.length : Int) - b.length) := by
  unfold ordR orI orI; rw [sgn_cmp, if_pos (by rw [cmpB_zero]; exact h), if_neg (by rw [cmpB_zero]; exact h2)]
theorem ordR_list {fs : List Fib} {s t : Int} {a b : List Int} (h : lenR fs a = lenR fs b) (h2 : a.length = b.length) (h3 : cmpL a b ≠ 0) : ordR fs s a t b = cmpL a b := by
  unfold ordR orI orI orI; rw [if_pos (by rw [cmpB_zero]; exact h), if_pos (by rw [cmpB_zero]; omega), if_neg h3]
theorem ordR_start {fs : List Fib} {s t : Int} {a : List Int} : ordR fs s a t a = sgnI (s - t) := by
  unfold ordR orI orI orI orI orI; rw [if_pos (by rw [cmpB_zero]), if_pos (by rw [cmpB_zero]), if_pos (cmpL_same a), sgn_cmp]
  split
  · rename_i h; exact h.symm
  · rfl
set_option maxRecDepth 100000 in
theorem sign_any (x : Int) (w : World) : Calls Tryz.prog 111 #[.int .i64 x] w fun e w' => e = .returned (.int .i64 (sgnI x)) ∧ w = w' := by
  by_cases h1 : x < 0
  · have H : Hid (sgnI x = -1) := by unfold Hid sgnI; rw [if_pos h1]
    go_enter Tryz.func111, Tryz.ntmps111
    go_wp2
    go_ret
    exact ⟨by rw [H.out]; rfl, rfl⟩
  · by_cases h2 : x > 0
    · have H : Hid (sgnI x = 1) := by unfold Hid sgnI; rw [if_neg h1, if_pos h2]
      go_enter Tryz.func111, Tryz.ntmps111
      go_wp2
      go_ret
      exact ⟨by rw [H.out]; rfl, rfl⟩
    · have H : Hid (sgnI x = 0) := by unfold Hid sgnI; rw [if_neg h1, if_neg h2]
      go_enter Tryz.func111, Tryz.ntmps111
      go_wp2
      go_ret
      exact ⟨by rw [H.out]; rfl, rfl⟩
set_option maxHeartbeats 1000000 in
set_option maxRecDepth 100000 in
theorem compareL_any {B B' c c' : Nat} {A A' : Option Addr} {xs ys : List Int} (w : World) (hA : Sees elInt w B A xs.length xs) (hB : Sees elInt w B' A' ys.length ys) (hx : xs.length ≤ 1048576) :
    Calls Tryz.prog 81 #[.slice A xs.length c, .slice A' ys.length c'] w fun e w' => e = .returned (.int .i64 (cmpL xs ys)) ∧ w = w' := by
  go_enter Tryz.func81, Tryz.ntmps81
  go_wp2
  go_loop [11] (fun i => ∃ k : Nat, k ≤ xs.length ∧ k ≤ ys.length ∧ i = .int .i64 k ∧ Hid (xs.take k = ys.take k)) (fun i => xs.length - (intOf i).toNat)
  case atStart => exact ⟨0, Nat.zero_le _, Nat.zero_le _, rfl, rfl⟩
  case round =>
    obtain ⟨k, hk, hk2, rfl, hsame⟩ := hrel
    by_cases hlt : k < xs.length
    · obtain ⟨b, o, rfl, _, hc⟩ := hA.at_ hlt
      obtain ⟨x, hxk⟩ := get_of (k := k) rfl hlt
      have e0 := hc k x hxk 0 _ rfl
      simp only [elInt, Nat.mul_one, Nat.add_zero] at e0
      by_cases hlt2 : k < ys.length
      · obtain ⟨b2, o2, rfl, _, hd⟩ := hB.at_ hlt2
        obtain ⟨y, hyk⟩ := get_of (k := k) rfl hlt2
        have e1 := hd k y hyk 0 _ rfl
        simp only [elInt, Nat.mul_one, Nat.add_zero] at e1
        have HX := hid hxk
        have HY := hid hyk
        clear hc hd hxk hyk
        by_cases hxy : x = y
        · subst hxy
          have HN : Hid (xs.take (k + 1) = ys.take (k + 1)) := by unfold Hid; rw [List.take_add_one, List.take_add_one, HX.out, HY.out, hsame.out]
          have hz : cmpB x x = 0 := cmpB_zero.2 rfl
          clear hsame
          go_wp2_with fail
          refine (compare_any x x _).mono ?_
          rintro e w2 ⟨rfl, rfl⟩
          rw [hz]
          go_wp2_with fail
          go_round
          case rel => exact ⟨k + 1, by omega, by omega, by go_num, HN⟩
          case measure => simp [intOf]; omega
        · have HN : Hid (cmpL xs ys = cmpB x y) := by unfold Hid; rw [cmpL_at hsame.out HX.out HY.out hxy, sgn_cmp]
          obtain ⟨z, hz⟩ : ∃ z, z = cmpB x y := ⟨_, rfl⟩
          have hz0 : z ≠ 0 := by rw [hz]; intro h; exact hxy (cmpB_zero.1 h)
          have hz1 : (z == 0) = false := by simp [hz0]
          have hz2 : (z != 0) = true := by simp [hz0]
          have HZ := hid hz
          clear hsame hz
          go_wp2_with fail
          refine (compare_any x y _).mono ?_
          rintro e w2 ⟨rfl, rfl⟩
          rw [← HZ.out]
          go_wp2_with fail
          go_ret
          exact ⟨by rw [HN.out, ← HZ.out]; rfl, rfl⟩
      · have hky : k = ys.length := by omega
        have HN : Hid (cmpL xs ys = 1) := cmpL_long (by have := hsame.out; rw [hky] at this; simpa using this) (by omega)
        clear hc hsame hxk hky
        go_wp2
        go_ret
        exact ⟨by rw [HN.out]; rfl, rfl⟩
    · have hkx : k = xs.length := by omega
      by_cases hlt2 : xs.length < ys.length
      · have HN : Hid (cmpL xs ys = -1) := cmpL_short (by have := hsame.out; rw [hkx] at this; simpa using this) hlt2
        clear hsame
        go_wp2
        go_ret
        exact ⟨by rw [HN.out]; rfl, rfl⟩
      · have HN : Hid (cmpL xs ys = 0) := by
          have h1 := hsame.out
          rw [hkx] at h1
          have h2 : xs = ys := by
            rw [List.take_length] at h1
            rw [h1]
            exact List.take_of_length_le (by omega)
          rw [h2]; exact cmpL_same ys
        clear hsame
        go_wp2
        go_ret
        exact ⟨by rw [HN.out]; rfl, rfl⟩
section
variable {n c m d er eq : Nat} {A A' R Q : Option Addr} {xs : List ByteArray} {fs : List Fib} {s t : Int} {ids jds : List Int}
set_option maxHeartbeats 2000000 in
set_option maxRecDepth 100000 in
theorem compareRoutes_any (w : World) (h : NetIs w A n c A' m d xs fs) (hr : RtIs w R ids.length er ids) (hq : RtIs w Q jds.length eq jds) (hl : ∀ f ∈ fs, 0 ≤ f.len ∧ f.len ≤ 5000) (hi : ∀ x ∈ ids, 0 ≤ x ∧ x < fs.length) (hj : ∀ x ∈ jds, 0 ≤ x ∧ x < fs.length) :
    Calls Tryz.prog 57 #[.agg #[.slice A n c, .slice A' m d], .agg #[.int .i64 s, .slice R ids.length er], .agg #[.int .i64 t, .slice Q jds.length eq]] w fun e w' => e = .returned (.int .i64 (ordR fs s ids t jds)) ∧ Below w.heap.size w w' := by
  have hS := (((Led.nil w).blk_ w.heap.size rfl 27 #[.slice A n c, .slice A' m d]).blk_ (w.heap.size + 1) (by simp) 32 #[.int .i64 s, .slice R ids.length er]).blk_ (w.heap.size + 1 + 1) (by simp) 32 #[.int .i64 t, .slice Q jds.length eq]
  have hri := hr.le
  have hqi := hq.le
  have H : Hid (ordR fs s ids t jds = orI [cmpB (lenR fs ids) (lenR fs jds), cmpB (ids.length : Int) (jds.length : Int), cmpL ids jds, cmpB s t]) := rfl
  have HL : Hid (∀ w', Cls w w' → Calls Tryz.prog 25 #[.agg #[.slice A n c, .slice A' m d], .agg #[.int .i64 s, .slice R ids.length er]] w' fun e w2 => e = .returned (.int .i64 (lenR fs ids)) ∧ Below w'.heap.size w' w2) := fun w' hw => lengthOf_any w' (h.grow hw) (hr.grow hw) hi hl
  have HM : Hid (∀ w', Cls w w' → Calls Tryz.prog 25 #[.agg #[.slice A n c, .slice A' m d], .agg #[.int .i64 t, .slice Q jds.length eq]] w' fun e w2 => e = .returned (.int .i64 (lenR fs jds)) ∧ Below w'.heap.size w' w2) := fun w' hw => lengthOf_any w' (h.grow hw) (hq.grow hw) hj hl
  have HC : Hid (∀ w', Cls w w' → Calls Tryz.prog 81 #[.slice R ids.length er, .slice Q jds.length eq] w' fun e w2 => e = .returned (.int .i64 (cmpL ids jds)) ∧ w' = w2) := fun w' hw => compareL_any w' (hr.grow hw).2 (hq.grow hw).2 hri
  clear hi hj hl h hr hq
  go_enter Tryz.func57, Tryz.ntmps57
  go_wp2_with fail
  generalize (((w.alloc (.cells #[.slice A n c, .slice A' m d] 27)).alloc (.cells #[.int .i64 s, .slice R ids.length er] 32)).alloc (.cells #[.int .i64 t, .slice Q jds.length eq] 32)) = W0 at *
  have C0 : ∀ w', Cls W0 w' → w'.cell? ⟨w.heap.size, 0, none⟩ = some (.slice A n c) := fun _ h => h.cell (hS.cell 2 0 rfl rfl)
  have C1 : ∀ w', Cls W0 w' → w'.cell? ⟨w.heap.size, 1, none⟩ = some (.slice A' m d) := fun _ h => h.cell (hS.cell 2 1 rfl rfl)
  have C2 : ∀ w', Cls W0 w' → w'.cell? ⟨w.heap.size + 1, 0, none⟩ = some (.int .i64 s) := fun _ h => h.cell (hS.cell 1 0 rfl rfl)
  have C3 : ∀ w', Cls W0 w' → w'.cell? ⟨w.heap.size + 1, 1, none⟩ = some (.slice R ids.length er) := fun _ h => h.cell (hS.cell 1 1 rfl rfl)
  have C4 : ∀ w', Cls W0 w' → w'.cell? ⟨w.heap.size + 1 + 1, 0, none⟩ = some (.int .i64 t) := fun _ h => h.cell (hS.cell 0 0 rfl rfl)
  have C5 : ∀ w', Cls W0 w' → w'.cell? ⟨w.heap.size + 1 + 1, 1, none⟩ = some (.slice Q jds.length eq) := fun _ h => h.cell (hS.cell 0 1 rfl rfl)
  have HB : Hid (Cls w W0) := hS.bl
  clear hS
  go_region_held3 (fun w' => Cls W0 w') (first | assumption | exact Cls.drew _ | exact Cls.next (by assumption) (by assumption) | exact bl_alloc (by assumption) _)
    (first
      | (go_at_call 25; with_reducible refine (HL.out _ (HB.out.onto (by assumption))).mono ?_; rintro e w' ⟨rfl, hb1⟩)
      | (go_at_call 25; with_reducible refine (HM.out _ (HB.out.onto (by assumption))).mono ?_; rintro e w' ⟨rfl, hb2⟩)
      | (go_at_call 81; refine (HC.out _ (HB.out.onto (by assumption))).mono ?_; rintro e w' ⟨rfl, rfl⟩)
      | (go_at_call 31; refine (compare_any _ _ _).mono ?_; rintro e w' ⟨rfl, rfl⟩)
      | (go_at_call 80; refine (or_any (x0 := cmpB (lenR fs ids) (lenR fs jds)) (x1 := cmpB (ids.length : Int) (jds.length : Int)) (x2 := cmpL ids jds) (x3 := cmpB s t) _ (by go_simp) (by go_simp) (by go_simp) (by go_simp)).mono ?_; rintro e w' ⟨rfl, rfl⟩))
  have hz := HB.out.onto (by assumption)
  go_wp2
  go_ret
  exact ⟨by rw [H.out]; rfl, hz⟩
set_option maxHeartbeats 2000000 in
set_option maxRecDepth 100000 in
theorem l4Compare_any (w : World) (h : NetIs w A n c A' m d xs fs) (hr : RtIs w R ids.length er ids) (hq : RtIs w Q jds.length eq jds) (hl : ∀ f ∈ fs, 0 ≤ f.len ∧ f.len ≤ 5000) (hi : ∀ x ∈ ids, 0 ≤ x ∧ x < fs.length) (hj : ∀ x ∈ jds, 0 ≤ x ∧ x < fs.length) (hs : 0 ≤ s ∧ s ≤ 1048576) (ht : 0 ≤ t ∧ t ≤ 1048576) :
    Calls Tryz.prog 95 #[.agg #[.slice A n c, .slice A' m d], .agg #[.int .i64 s, .slice R ids.length er], .agg #[.int .i64 t, .slice Q jds.length eq]] w fun e w' => e = .returned (.int .i64 (ordR fs s ids t jds)) ∧ Below w.heap.size w w' := by
  have hS := (((Led.nil w).blk_ w.heap.size rfl 27 #[.slice A n c, .slice A' m d]).blk_ (w.heap.size + 1) (by simp) 32 #[.int .i64 s, .slice R ids.length er]).blk_ (w.heap.size + 1 + 1) (by simp) 32 #[.int .i64 t, .slice Q jds.length eq]
  have hri := hr.le
  have hqi := hq.le
  have hm := h.mle
  have hlf := hid h.flen
  have hbi := rlTo_bd hl hi ids.length (Nat.le_refl _)
  have hbj := rlTo_bd hl hj jds.length (Nat.le_refl _)
  change 0 ≤ lenR fs ids ∧ lenR fs ids ≤ _ at hbi
  change 0 ≤ lenR fs jds ∧ lenR fs jds ≤ _ at hbj
  have HL : Hid (∀ w', Cls w w' → Calls Tryz.prog 75 #[.agg #[.slice A n c, .slice A' m d], .agg #[.int .i64 s, .slice R ids.length er]] w' fun e w2 => e = .returned (.int .i64 (lenR fs ids)) ∧ Below w'.heap.size w' w2) := fun w' hw => l4Length_any w' (h.grow hw) (hr.grow hw) hi hl
  have HM : Hid (∀ w', Cls w w' → Calls Tryz.prog 75 #[.agg #[.slice A n c, .slice A' m d], .agg #[.int .i64 t, .slice Q jds.length eq]] w' fun e w2 => e = .returned (.int .i64 (lenR fs jds)) ∧ Below w'.heap.size w' w2) := fun w' hw => l4Length_any w' (h.grow hw) (hq.grow hw) hj hl
  have HI := hid hi
  have HJ := hid hj
  have HR := hid hr
  have HQ := hid hq
  have HZ := hid (show lenR fs ids - lenR fs jds = lenR fs ids - lenR fs jds from rfl)
  obtain ⟨z, hz⟩ : ∃ z, z = lenR fs ids - lenR fs jds := ⟨_, rfl⟩
  have iw : IntKind.i64.wrap (lenR fs ids - lenR fs jds) = z := by rw [hz]; exact IntWalk.i64_in _ (by omega)
  have HZ := hid hz
  clear hi hj hl h hr hq hbi hbj hz
  by_cases hz0 : z = 0
  case neg =>
    have H : Hid (ordR fs s ids t jds = sgnI z) := by unfold Hid; rw [ordR_len (by have := HZ.out; omega), ← HZ.out]
    have hz1 : (z == 0) = false := by simp [hz0]
    have hz2 : (z != 0) = true := by simp [hz0]
    go_enter Tryz.func95, Tryz.ntmps95
    go_wp2_with fail
    generalize (((w.alloc (.cells #[.slice A n c, .slice A' m d] 27)).alloc (.cells #[.int .i64 s, .slice R ids.length er] 32)).alloc (.cells #[.int .i64 t, .slice Q jds.length eq] 32)) = W0 at *
    have C0 : ∀ w', Cls W0 w' → w'.cell? ⟨w.heap.size, 0, none⟩ = some (.slice A n c) := fun _ h => h.cell (hS.cell 2 0 rfl rfl)
    have C1 : ∀ w', Cls W0 w' → w'.cell? ⟨w.heap.size, 1, none⟩ = some (.slice A' m d) := fun _ h => h.cell (hS.cell 2 1 rfl rfl)
    have C2 : ∀ w', Cls W0 w' → w'.cell? ⟨w.heap.size + 1, 0, none⟩ = some (.int .i64 s) := fun _ h => h.cell (hS.cell 1 0 rfl rfl)
    have C3 : ∀ w', Cls W0 w' → w'.cell? ⟨w.heap.size + 1, 1, none⟩ = some (.slice R ids.length er) := fun _ h => h.cell (hS.cell 1 1 rfl rfl)
    have C4 : ∀ w', Cls W0 w' → w'.cell? ⟨w.heap.size + 1 + 1, 0, none⟩ = some (.int .i64 t) := fun _ h => h.cell (hS.cell 0 0 rfl rfl)
    have C5 : ∀ w', Cls W0 w' → w'.cell? ⟨w.heap.size + 1 + 1, 1, none⟩ = some (.slice Q jds.length eq) := fun _ h => h.cell (hS.cell 0 1 rfl rfl)
    have HB : Hid (Cls w W0) := hS.bl
    refine region_cls (by kernel_rfl) (by kernel_rfl) ?_
    repeat (first
      | ((with_reducible refine quiet_pos ?_ (fun K hK => ?_))
         · rfl
         apply Exists.intro
         refine ⟨fun w' hw' => ?_, ?_⟩
         · go_simp
           first
             | with_reducible rfl
             | (go_at_call 75; with_reducible exact hw'.call (HL.out _ (HB.out.onto hw')))
             | (go_at_call 75; with_reducible exact hw'.call (HM.out _ (HB.out.onto hw')))
         simp only [Act.put, List.setIfInBounds_toArray, List.set_cons_zero, List.set_cons_succ]
         refine hK _ ?_; clear hK K)
      | ((with_reducible refine quiet_neg ?_ (fun K hK => ?_))
         · rfl
         simp only [Act.put, List.setIfInBounds_toArray, List.set_cons_zero, List.set_cons_succ]
         refine hK _ ?_; clear hK K))
    with_reducible refine wpQuiet_nil ?_
    intro wz hwz'
    replace hS := hS.step hwz'
    clear C0 C1 C2 C3 C4 C5 hwz' HB HL HM
    go_wp2_with fail
    refine (sign_any z _).mono ?_
    rintro e w2 ⟨rfl, rfl⟩
    go_wp2_with fail
    go_ret
    exact ⟨by rw [H.out]; rfl, hS.bl⟩
  case pos =>
    subst hz0
    have HLN : Hid (lenR fs ids = lenR fs jds) := by have := HZ.out; unfold Hid; omega
    obtain ⟨y, hy⟩ : ∃ y, y = (ids.length : Int) - (jds.length : Int) := ⟨_, rfl⟩
    have iy : IntKind.i64.wrap ((ids.length : Int) - (jds.length : Int)) = y := by rw [hy]; exact IntWalk.i64_in _ (by omega)
    have HY := hid hy
    clear hy
    go_enter Tryz.func95, Tryz.ntmps95
    go_wp2_with fail
    generalize (((w.alloc (.cells #[.slice A n c, .slice A' m d] 27)).alloc (.cells #[.int .i64 s, .slice R ids.length er] 32)).alloc (.cells #[.int .i64 t, .slice Q jds.length eq] 32)) = W0 at *
    have C0 : ∀ w', Cls W0 w' → w'.cell? ⟨w.heap.size, 0, none⟩ = some (.slice A n c) := fun _ h => h.cell (hS.cell 2 0 rfl rfl)
    have C1 : ∀ w', Cls W0 w' → w'.cell? ⟨w.heap.size, 1, none⟩ = some (.slice A' m d) := fun _ h => h.cell (hS.cell 2 1 rfl rfl)
    have C2 : ∀ w', Cls W0 w' → w'.cell? ⟨w.heap.size + 1, 0, none⟩ = some (.int .i64 s) := fun _ h => h.cell (hS.cell 1 0 rfl rfl)
    have C3 : ∀ w', Cls W0 w' → w'.cell? ⟨w.heap.size + 1, 1, none⟩ = some (.slice R ids.length er) := fun _ h => h.cell (hS.cell 1 1 rfl rfl)
    have C4 : ∀ w', Cls W0 w' → w'.cell? ⟨w.heap.size + 1 + 1, 0, none⟩ = some (.int .i64 t) := fun _ h => h.cell (hS.cell 0 0 rfl rfl)
    have C5 : ∀ w', Cls W0 w' → w'.cell? ⟨w.heap.size + 1 + 1, 1, none⟩ = some (.slice Q jds.length eq) := fun _ h => h.cell (hS.cell 0 1 rfl rfl)
    have HB : Hid (Cls w W0) := hS.bl
    refine region_cls (by kernel_rfl) (by kernel_rfl) ?_
    repeat (first
      | ((with_reducible refine quiet_pos ?_ (fun K hK => ?_))
         · rfl
         apply Exists.intro
         refine ⟨fun w' hw' => ?_, ?_⟩
         · go_simp
           first
             | with_reducible rfl
             | (go_at_call 75; with_reducible exact hw'.call (HL.out _ (HB.out.onto hw')))
             | (go_at_call 75; with_reducible exact hw'.call (HM.out _ (HB.out.onto hw')))
         simp only [Act.put, List.setIfInBounds_toArray, List.set_cons_zero, List.set_cons_succ]
         refine hK _ ?_; clear hK K)
      | ((with_reducible refine quiet_neg ?_ (fun K hK => ?_))
         · rfl
         simp only [Act.put, List.setIfInBounds_toArray, List.set_cons_zero, List.set_cons_succ]
         refine hK _ ?_; clear hK K))
    with_reducible refine wpQuiet_nil ?_
    intro wz hwz'
    replace hS := hS.step hwz'
    clear C0 C1 C2 C3 C4 C5 hwz' HB HL HM
    have q0 := hS.cell 2 0 rfl rfl
    have q1 := hS.cell 2 1 rfl rfl
    have q2 := hS.cell 1 0 rfl rfl
    have q3 := hS.cell 1 1 rfl rfl
    have q4 := hS.cell 0 0 rfl rfl
    have q5 := hS.cell 0 1 rfl rfl
    by_cases hy0 : y = 0
    case neg =>
      have H : Hid (ordR fs s ids t jds = sgnI y) := by unfold Hid; rw [ordR_num HLN.out (by have := HY.out; omega), ← HY.out]
      have hy1 : (y == 0) = false := by simp [hy0]
      have hy2 : (y != 0) = true := by simp [hy0]
      go_wp2_with fail
      refine (sign_any y _).mono ?_
      rintro e w2 ⟨rfl, rfl⟩
      go_wp2_with fail
      go_ret
      exact ⟨by rw [H.out]; rfl, hS.bl⟩
    case pos =>
      subst hy0
      have HN : Hid (ids.length = jds.length) := by have := HY.out; unfold Hid; omega
      have HS : Hid (Led w _ [tBlk (w.heap.size + 1 + 1) 32 #[.int .i64 t, .slice Q jds.length eq], tBlk (w.heap.size + 1) 32 #[.int .i64 s, .slice R ids.length er], tBlk w.heap.size 27 #[.slice A n c, .slice A' m d]]) := hS
      clear hS
      go_wp2_with fail
      clear q0 q1 q2 q3 q4 q5
      go_loopw [9] (fun i wr => ∃ k : Nat, k ≤ ids.length ∧ i = .int .i64 k ∧ Hid (ids.take k = jds.take k) ∧ Hid (Led w wr [tBlk (w.heap.size + 1 + 1) 32 #[.int .i64 t, .slice Q jds.length eq], tBlk (w.heap.size + 1) 32 #[.int .i64 s, .slice R ids.length er], tBlk w.heap.size 27 #[.slice A n c, .slice A' m d]])) (fun i _ => ids.length - (intOf i).toNat)
      case atStart => exact ⟨0, Nat.zero_le _, rfl, rfl, HS⟩
      case round =>
        clear HS
        obtain ⟨k, hk, rfl, hsame, HS⟩ := hrel
        have p1 := HS.out.cell 1 1 rfl rfl
        have p3 := HS.out.cell 0 1 rfl rfl
        by_cases hlt : k < ids.length
        · have hlt2 : k < jds.length := by have := HN.out; omega
          obtain ⟨b, o, rfl, _, hc⟩ := HR.out.2.at_ hlt
          obtain ⟨b2, o2, rfl, _, hd⟩ := HQ.out.2.at_ hlt2
          obtain ⟨x, hxk⟩ := get_of (k := k) rfl hlt
          obtain ⟨y, hyk⟩ := get_of (k := k) rfl hlt2
          have e0 := bl_cell HS.out.bl (hc k x hxk 0 _ rfl)
          have e1 := bl_cell HS.out.bl (hd k y hyk 0 _ rfl)
          simp only [elInt, Nat.mul_one, Nat.add_zero] at e0 e1
          have hx := HI.out x (List.mem_of_getElem? hxk)
          have hy := HJ.out y (List.mem_of_getElem? hyk)
          rw [hlf.out] at hx hy
          have HX := hid hxk
          have HY := hid hyk
          have P1 : ∀ w', Cls wr w' → w'.cell? ⟨w.heap.size + 1, 1, none⟩ = some (.slice (some ⟨b, o, none⟩) ids.length er) := fun _ h => h.cell p1
          have P3 : ∀ w', Cls wr w' → w'.cell? ⟨w.heap.size + 1 + 1, 1, none⟩ = some (.slice (some ⟨b2, o2, none⟩) jds.length eq) := fun _ h => h.cell p3
          have E0 : ∀ w', Cls wr w' → w'.cell? ⟨b, o + k, none⟩ = some (.int .i64 x) := fun _ h => h.cell e0
          have E1 : ∀ w', Cls wr w' → w'.cell? ⟨b2, o2 + k, none⟩ = some (.int .i64 y) := fun _ h => h.cell e1
          have ik : (k : Int) < (ids.length : Int) := by omega
          have ik2 : (k : Int) < (jds.length : Int) := by omega
          clear hc hd hxk hyk e0 e1 p3
          cases gxy : (x == y)
          · have hne : x ≠ y := by simpa using gxy
            have H : Hid (ordR fs s ids t jds = sgnI (x - y)) := by
              have e := cmpL_at hsame.out HX.out HY.out hne
              have hs1 : sgnI (x - y) ≠ 0 := by rw [sgn_cmp]; intro h; exact hne (cmpB_zero.1 h)
              unfold Hid
              rw [ordR_list HLN.out HN.out (by rw [e]; exact hs1), e]
            have iz : IntKind.i64.wrap (x - y) = x - y := IntWalk.i64_in _ (by omega)
            go_wp2
            refine region_cls (by kernel_rfl) (by kernel_rfl) ?_
            repeat (first
              | ((with_reducible refine quiet_pos ?_ (fun K hK => ?_))
                 · rfl
                 apply Exists.intro
                 refine ⟨fun w' hw' => ?_, ?_⟩
                 · go_simp
                   with_reducible rfl
                 simp only [Act.put, List.setIfInBounds_toArray, List.set_cons_zero, List.set_cons_succ]
                 refine hK _ ?_; clear hK K)
              | ((with_reducible refine quiet_neg ?_ (fun K hK => ?_))
                 · rfl
                 simp only [Act.put, List.setIfInBounds_toArray, List.set_cons_zero, List.set_cons_succ]
                 refine hK _ ?_; clear hK K))
            with_reducible refine wpQuiet_nil ?_
            intro wz hwz'
            have P1' : ∀ w', Cls wz w' → w'.cell? ⟨w.heap.size + 1, 1, none⟩ = some (.slice (some ⟨b, o, none⟩) ids.length er) := fun _ h => P1 _ (hwz'.onto h)
            have P3' : ∀ w', Cls wz w' → w'.cell? ⟨w.heap.size + 1 + 1, 1, none⟩ = some (.slice (some ⟨b2, o2, none⟩) jds.length eq) := fun _ h => P3 _ (hwz'.onto h)
            have E0' : ∀ w', Cls wz w' → w'.cell? ⟨b, o + k, none⟩ = some (.int .i64 x) := fun _ h => E0 _ (hwz'.onto h)
            have E1' : ∀ w', Cls wz w' → w'.cell? ⟨b2, o2 + k, none⟩ = some (.int .i64 y) := fun _ h => E1 _ (hwz'.onto h)
            have hbz := hid (HS.out.step hwz').bl
            clear P1 P3 E0 E1 hwz' p1 HS
            go_wp2
            refine region_cls (by kernel_rfl) (by kernel_rfl) ?_
            repeat (first
              | ((with_reducible refine quiet_pos ?_ (fun K hK => ?_))
                 · rfl
                 apply Exists.intro
                 refine ⟨fun w' hw' => ?_, ?_⟩
                 · go_simp
                   first
                     | with_reducible rfl
                     | (go_at_call 111; with_reducible exact hw'.same (sign_any _ _))
                 simp only [Act.put, List.setIfInBounds_toArray, List.set_cons_zero, List.set_cons_succ]
                 refine hK _ ?_; clear hK K)
              | ((with_reducible refine quiet_neg ?_ (fun K hK => ?_))
                 · rfl
                 simp only [Act.put, List.setIfInBounds_toArray, List.set_cons_zero, List.set_cons_succ]
                 refine hK _ ?_; clear hK K))
            with_reducible refine wpQuiet_nil ?_
            intro wz hwz'
            have hbz2 := bl_then hbz.out hwz'
            go_wp2
            go_ret
            exact ⟨by rw [H.out]; rfl, hbz2⟩
          · have hxy : x = y := by simpa using gxy
            have HN2 : Hid (ids.take (k + 1) = jds.take (k + 1)) := by unfold Hid; rw [List.take_add_one, List.take_add_one, HX.out, HY.out, hsame.out, hxy]
            clear hxy
            go_wp2
            refine region_cls (by kernel_rfl) (by kernel_rfl) ?_
            repeat (first
              | ((with_reducible refine quiet_pos ?_ (fun K hK => ?_))
                 · rfl
                 apply Exists.intro
                 refine ⟨fun w' hw' => ?_, ?_⟩
                 · go_simp
                   with_reducible rfl
                 simp only [Act.put, List.setIfInBounds_toArray, List.set_cons_zero, List.set_cons_succ]
                 refine hK _ ?_; clear hK K)
              | ((with_reducible refine quiet_neg ?_ (fun K hK => ?_))
                 · rfl
                 simp only [Act.put, List.setIfInBounds_toArray, List.set_cons_zero, List.set_cons_succ]
                 refine hK _ ?_; clear hK K))
            with_reducible refine wpQuiet_nil ?_
            intro wz hwz'
            have HS2 := hid (HS.out.step hwz')
            clear P1 P3 E0 E1 hwz' p1 HS
            go_wp2
            exact ⟨⟨k + 1, by omega, by go_num, HN2, HS2⟩, by simp [intOf]; omega⟩
        · have hkx : k = ids.length := by omega
          have HE : Hid (ids = jds) := by
            have h1 := hsame.out
            rw [hkx, List.take_length] at h1
            unfold Hid
            rw [h1]
            exact List.take_of_length_le (by have := HN.out; omega)
          have H : Hid (ordR fs s ids t jds = sgnI (s - t)) := by unfold Hid; rw [← HE.out]; exact ordR_start
          have p0 := HS.out.cell 1 0 rfl rfl
          have p2 := HS.out.cell 0 0 rfl rfl
          have iz : IntKind.i64.wrap (s - t) = s - t := IntWalk.i64_in _ (by omega)
          clear hkx hsame
          go_wp2_with fail
          refine (sign_any _ _).mono ?_
          rintro e w2 ⟨rfl, rfl⟩
          go_wp2_with fail
          go_ret
          exact ⟨by rw [H.out]; rfl, HS.out.bl⟩
/-- CompareRoutes. -/
def crB (xs : List ByteArray) (fs : List Fib) (s : Int) (a : List Int) (t : Int) (b : List Int) : Bool := routeB xs fs s a && routeB xs fs t b
def crI (xs : List ByteArray) (fs : List Fib) (s : Int) (a : List Int) (t : Int) (b : List Int) : Int := if crB xs fs s a t b then ordR fs s a t b else 0
theorem routeB_start {xs : List ByteArray} {fs : List Fib} {s : Int} {a : List Int} (h : routeB xs fs s a = true) : 0 ≤ s ∧ s ≤ 1048576 := by
  obtain ⟨hg, hr⟩ := routeB_good h
  have h1 := inB_idx (rtB_parts hr).1
  have := (goodB_bd hg).2.1
  omega
end
end Go.Proofs.YtjfafhehpfjofaaGreat
/- The order of routes in plain Lean: it is an order. Conditions: one start. -/
namespace Go.Proofs.YtjfafhehpfjofaaGreat
theorem cmpL_le_trans : ∀ {a b c : List Int}, cmpL a b ≤ 0 → cmpL b c ≤ 0 → cmpL a c ≤ 0 ∧ (cmpL a c = 0 → cmpL a b = 0 ∧ cmpL b c = 0) := by
  intro a
  induction a with
  | nil =>
    intro b c h1 h2
    cases b with
    | nil => exact ⟨h2, fun h => ⟨rfl, h⟩⟩
    | cons y b =>
      cases c with
      | nil => exact absurd h2 (by unfold cmpL; decide)
      | cons z c => exact ⟨by unfold cmpL; decide, fun h => absurd h (by unfold cmpL; decide)⟩
  | cons x a ih =>
    intro b c h1 h2
    cases b with
    | nil => exact absurd h1 (by unfold cmpL; decide)
    | cons y b =>
      cases c with
      | nil => exact absurd h2 (by unfold cmpL; decide)
      | cons z c =>
        have e1 : cmpL (x :: a) (y :: b) = if x < y then -1 else if y < x then 1 else cmpL a b := rfl
        have e2 : cmpL (y :: b) (z :: c) = if y < z then -1 else if z < y then 1 else cmpL b c := rfl
        have e3 : cmpL (x :: a) (z :: c) = if x < z then -1 else if z < x then 1 else cmpL a c := rfl
        rw [e1] at h1
        rw [e2] at h2
        rw [e1, e2, e3]
        by_cases hxy : x < y
        · by_cases hyz : y < z
          · rw [if_pos (by omega : x < z)]; exact ⟨by omega, fun h => by omega⟩
          · rw [if_neg hyz] at h2
            by_cases hzy : z < y
            · rw [if_pos hzy] at h2; omega
            · rw [if_pos (by omega : x < z)]; exact ⟨by omega, fun h => by omega⟩
        · rw [if_neg hxy] at h1 ⊢
          by_cases hyx : y < x
          · rw [if_pos hyx] at h1; omega
          · rw [if_neg hyx] at h1 ⊢
            have hxe : x = y := by omega
            subst hxe
            by_cases hyz : x < z
            · rw [if_pos hyz, if_pos hyz]; exact ⟨by omega, fun h => by omega⟩
            · rw [if_neg hyz] at h2 ⊢
              rw [if_neg hyz]
              by_cases hzy : z < x
              · rw [if_pos hzy] at h2; omega
              · rw [if_neg hzy] at h2 ⊢
                rw [if_neg hzy]
                exact ih h1 h2
theorem cmpL_anti : ∀ {a b : List Int}, cmpL a b = 0 → a = b := by
  intro a
  induction a with
  | nil => intro b h; cases b with
    | nil => rfl
    | cons y b => exact absurd h (by unfold cmpL; decide)
  | cons x a ih =>
    intro b h
    cases b with
    | nil => exact absurd h (by unfold cmpL; decide)
    | cons y b =>
      have e1 : cmpL (x :: a) (y :: b) = if x < y then -1 else if y < x then 1 else cmpL a b := rfl
      rw [e1] at h
      split at h
      · omega
      · split at h
        · omega
        · rw [ih h, show x = y by omega]
theorem cmpL_flip : ∀ (a b : List Int), cmpL a b = -cmpL b a := by
  intro a
  induction a with
  | nil => intro b; cases b <;> rfl
  | cons x a ih =>
    intro b
    cases b with
    | nil => rfl
    | cons y b =>
      show (if x < y then -1 else if y < x then 1 else cmpL a b) = -(if y < x then -1 else if x < y then 1 else cmpL b a)
      rw [ih b]
      split <;> split <;> omega
/-- a is not behind b (one start). -/
def leR (fs : List Fib) (s : Int) (a b : List Int) : Prop := ordR fs s a s b ≤ 0
theorem ordR_eq (fs : List Fib) (s : Int) (a b : List Int) : ordR fs s a s b = if lenR fs a < lenR fs b then -1 else if lenR fs b < lenR fs a then 1 else if (a.length : Int) < b.length then -1 else if (b.length : Int) < a.length then 1 else cmpL a b := by
  by_cases h1 : lenR fs a < lenR fs b
  · simp [ordR, orI, cmpB, h1]
  · by_cases h2 : lenR fs b < lenR fs a
    · simp [ordR, orI, cmpB, h1, h2]
    · by_cases h3 : (a.length : Int) < b.length
      · have h3' : a.length < b.length := by omega
        simp [ordR, orI, cmpB, h1, h2, h3']
      · by_cases h4 : (b.length : Int) < a.length
        · have h4' : b.length < a.length := by omega
          have h3' : ¬ a.length < b.length := by omega
          simp [ordR, orI, cmpB, h1, h2, h3', h4']
        · simp only [ordR, orI, cmpB, if_neg h1, if_neg h2, if_neg h3, if_neg h4]
          by_cases h5 : cmpL a b = 0
          · simp [h5]
          · simp [h5]
theorem leR_trans {fs : List Fib} {s : Int} {a b c : List Int} (h1 : leR fs s a b) (h2 : leR fs s b c) : leR fs s a c := by
  unfold leR at *
  rw [ordR_eq] at *
  have h3 : cmpL a b ≤ 0 → cmpL b c ≤ 0 → cmpL a c ≤ 0 := fun x y => (cmpL_le_trans x y).1
  repeat' split at h1
  all_goals repeat' split at h2
  all_goals repeat' split
  all_goals first | omega | exact h3 h1 h2
theorem leR_anti {fs : List Fib} {s : Int} {a b : List Int} (h1 : leR fs s a b) (h2 : leR fs s b a) : a = b := by
  unfold leR at *
  rw [ordR_eq] at *
  have hf := cmpL_flip a b
  apply cmpL_anti
  repeat' split at h1
  all_goals repeat' split at h2
  all_goals omega
theorem leR_total {fs : List Fib} {s : Int} {a b : List Int} (h : ¬ leR fs s a b) : leR fs s b a := by
  unfold leR at *
  rw [ordR_eq] at *
  have hf := cmpL_flip a b
  repeat' split at h
  all_goals repeat' split
  all_goals omega
end Go.Proofs.YtjfafhehpfjofaaGreat
/- All simple routes in plain Lean: the search that stops when it has too many, against the whole search. Conditions: none. -/
namespace Go.Proofs.YtjfafhehpfjofaaGreat
section
variable {m to M : Nat} {nx : Nat → Nat → Option Nat} {ins : List (List Int) → List Int → List (List Int)}
/-- All routes that extend one, in the order of the search. -/
def dfsL (m to : Nat) (nx : Nat → Nat → Option Nat) : Nat → Nat → List Nat → List Int → List (List Int)
  | 0, _, _, _ => []
  | k + 1, v, seen, ids => if v = to then [ids] else (List.range m).flatMap fun i => match nx i v with
    | some u => if u ∈ seen then [] else dfsL m to nx k u (u :: seen) (ids ++ [(i : Int)])
    | none => []
/-- The search that puts each route at its place and stops when it has more than M. -/
def refL (m to M : Nat) (nx : Nat → Nat → Option Nat) (ins : List (List Int) → List Int → List (List Int)) : Nat → Nat → List Nat → List Int → List (List Int) → List (List Int)
  | 0, _, _, _, l => l
  | k + 1, v, seen, ids, l => if v = to then ins l ids else (List.range m).foldl (fun l i => if l.length ≤ M then (match nx i v with
    | some u => if u ∈ seen then l else refL m to M nx ins k u (u :: seen) (ids ++ [(i : Int)]) l
    | none => l) else l) l
theorem ins_foldl (hi : ∀ l r, (ins l r).length = l.length + 1) : ∀ (D l : List (List Int)), (D.foldl ins l).length = l.length + D.length := by
  intro D
  induction D with
  | nil => intro l; rfl
  | cons r D ih => intro l; rw [List.foldl_cons, ih, hi, List.length_cons]; omega
theorem refL_eq (hi : ∀ l r, (ins l r).length = l.length + 1) : ∀ (k v : Nat) (seen : List Nat) (ids : List Int) (l : List (List Int)), l.length ≤ M →
    refL m to M nx ins k v seen ids l = ((dfsL m to nx k v seen ids).take (M + 1 - l.length)).foldl ins l := by
  intro k
  induction k with
  | zero => intro v seen ids l _; unfold refL dfsL; rw [List.take_nil]; rfl
  | succ k ih =>
    intro v seen ids l hl
    unfold refL dfsL
    by_cases hv : v = to
    · rw [if_pos hv, if_pos hv, show M + 1 - l.length = (M - l.length) + 1 by omega, List.take_succ_cons, List.take_nil]
      rfl
    · rw [if_neg hv, if_neg hv]
      suffices hh : ∀ (is : List Nat) (l : List (List Int)), l.length ≤ M + 1 → is.foldl (fun l i => if l.length ≤ M then (match nx i v with
          | some u => if u ∈ seen then l else refL m to M nx ins k u (u :: seen) (ids ++ [(i : Int)]) l
          | none => l) else l) l = ((is.flatMap fun i => match nx i v with
          | some u => if u ∈ seen then [] else dfsL m to nx k u (u :: seen) (ids ++ [(i : Int)])
          | none => []).take (M + 1 - l.length)).foldl ins l from hh (List.range m) l (by omega)
      intro is
      induction is with
      | nil => intro l _; rw [List.flatMap_nil, List.take_nil]; rfl
      | cons i is ihs =>
        intro l hl1
        rw [List.foldl_cons, List.flatMap_cons]
        by_cases hM : l.length ≤ M
        · rw [if_pos hM]
          cases hn : nx i v with
          | none => simp only [List.nil_append]; exact ihs l hl1
          | some u =>
            simp only []
            by_cases hs : u ∈ seen
            · rw [if_pos hs, if_pos hs, List.nil_append]; exact ihs l hl1
            · rw [if_neg hs, if_neg hs, ih u (u :: seen) (ids ++ [(i : Int)]) l hM]
              generalize dfsL m to nx k u (u :: seen) (ids ++ [(i : Int)]) = D
              have hlen := ins_foldl hi (D.take (M + 1 - l.length)) l
              rw [List.length_take] at hlen
              rw [ihs _ (by rw [hlen]; omega), hlen, List.take_append, List.foldl_append]
              congr 2
              omega
        · rw [if_neg hM, ihs l hl1, show M + 1 - l.length = 0 by omega, List.take_zero, List.take_zero]
/-- The whole of it: either all routes, put in one after another, or too many. -/
theorem refL_all (hi : ∀ l r, (ins l r).length = l.length + 1) (k v : Nat) (seen : List Nat) (ids : List Int) :
    (refL m to M nx ins k v seen ids [] = (dfsL m to nx k v seen ids).foldl ins [] ∧ (dfsL m to nx k v seen ids).length ≤ M) ∨
    (M < (refL m to M nx ins k v seen ids []).length ∧ M < (dfsL m to nx k v seen ids).length) := by
  have h := refL_eq (m := m) (to := to) (M := M) (nx := nx) hi k v seen ids [] (Nat.zero_le _)
  rw [List.length_nil, Nat.sub_zero] at h
  by_cases hM : (dfsL m to nx k v seen ids).length ≤ M
  · exact .inl ⟨by rw [h, List.take_of_length_le (by omega)], hM⟩
  · refine .inr ⟨?_, by omega⟩
    rw [h, ins_foldl hi, List.length_take]
    simp; omega
end
end Go.Proofs.YtjfafhehpfjofaaGreat
/- The search for routes over fibers, in plain Lean: its bounds; what it finds. Conditions: as each states. -/
namespace Go.Proofs.YtjfafhehpfjofaaGreat
open Go.RowKit
/-- The node at the other end, if there is one. -/
def nxF (fs : List Fib) (i v : Nat) : Option Nat := if 0 ≤ otherF (fibD fs i) (v : Int) then some (otherF (fibD fs i) (v : Int)).toNat else none
/-- All routes on from v. -/
def rtsL (fs : List Fib) (to k v : Nat) (seen : List Nat) (ids : List Int) : List (List Int) := dfsL fs.length to (nxF fs) k v seen ids
theorem nxF_some {fs : List Fib} {i v u : Nat} (h : otherF (fibD fs i) (v : Int) = (u : Int)) : nxF fs i v = some u := by
  unfold nxF; rw [h, if_pos (by omega)]; rfl
theorem nxF_none {fs : List Fib} {i v : Nat} (h : otherF (fibD fs i) (v : Int) < 0) : nxF fs i v = none := by
  unfold nxF; rw [if_neg (by omega)]
/-- What fiber i adds. -/
def rtsI (fs : List Fib) (to k v : Nat) (seen : List Nat) (ids : List Int) (i : Nat) : List (List Int) := match nxF fs i v with
  | some u => if u ∈ seen then [] else rtsL fs to k u (u :: seen) (ids ++ [(i : Int)])
  | none => []
/-- What the first j fibers add. -/
def rtsJ (fs : List Fib) (to k v : Nat) (seen : List Nat) (ids : List Int) (j : Nat) : List (List Int) := (List.range j).flatMap (rtsI fs to k v seen ids)
section
variable {fs : List Fib} {to k v : Nat} {seen : List Nat} {ids : List Int}
theorem rtsL_end : rtsL fs to (k + 1) to seen ids = [ids] := by unfold rtsL dfsL; rw [if_pos rfl]
theorem rtsL_on (h : v ≠ to) : rtsL fs to (k + 1) v seen ids = rtsJ fs to k v seen ids fs.length := by
  unfold rtsL rtsJ
  rw [dfsL, if_neg h]
  rfl
theorem rtsJ_succ (j : Nat) : rtsJ fs to k v seen ids (j + 1) = rtsJ fs to k v seen ids j ++ rtsI fs to k v seen ids j := by
  unfold rtsJ
  rw [List.range_succ, List.flatMap_append]
  simp
theorem rtsI_none {i : Nat} (h : otherF (fibD fs i) (v : Int) < 0) : rtsI fs to k v seen ids i = [] := by unfold rtsI; rw [nxF_none h]
theorem rtsI_seen {i u : Nat} (h : otherF (fibD fs i) (v : Int) = (u : Int)) (hs : u ∈ seen) : rtsI fs to k v seen ids i = [] := by unfold rtsI; rw [nxF_some h]; simp [hs]
theorem rtsI_on {i u : Nat} (h : otherF (fibD fs i) (v : Int) = (u : Int)) (hs : ¬ u ∈ seen) : rtsI fs to k v seen ids i = rtsL fs to k u (u :: seen) (ids ++ [(i : Int)]) := by unfold rtsI; rw [nxF_some h]; simp [hs]
theorem rtsJ_mono {i j : Nat} (h : i ≤ j) : (rtsJ fs to k v seen ids i).length ≤ (rtsJ fs to k v seen ids j).length := by
  obtain ⟨d, rfl⟩ := Nat.exists_eq_add_of_le h
  clear h
  induction d with
  | zero => exact Nat.le_refl _
  | succ d ih => rw [Nat.add_succ, rtsJ_succ, List.length_append]; omega
/-- Only the set of the nodes seen counts. -/
theorem rtsL_congr : ∀ (k v : Nat) (s t : List Nat) (ids : List Int), (∀ u, u ∈ s ↔ u ∈ t) → rtsL fs to k v s ids = rtsL fs to k v t ids := by
  intro k
  induction k with
  | zero => intro v s t ids _; rfl
  | succ k ih =>
    intro v s t ids h
    by_cases hv : v = to
    · subst hv; rw [rtsL_end, rtsL_end]
    · rw [rtsL_on hv, rtsL_on hv]
      unfold rtsJ
      congr 1
      funext i
      unfold rtsI
      cases nxF fs i v with
      | none => rfl
      | some u =>
        simp only [h u]
        split
        · rfl
        · exact ih u _ _ _ (fun x => by rw [List.mem_cons, List.mem_cons, h x])
/-- How many there are. -/
theorem rtsL_len : ∀ (k v : Nat) (seen : List Nat) (ids : List Int), (rtsL fs to k v seen ids).length ≤ (fs.length + 1) ^ k := by
  intro k
  induction k with
  | zero => intro v seen ids; exact Nat.zero_le _
  | succ k ih =>
    intro v seen ids
    by_cases hv : v = to
    · subst hv; rw [rtsL_end]; exact Nat.one_le_pow _ _ (by omega)
    · rw [rtsL_on hv]
      have hj : ∀ j, (rtsJ fs to k v seen ids j).length ≤ j * (fs.length + 1) ^ k := by
        intro j
        induction j with
        | zero => exact Nat.zero_le _
        | succ j ihj =>
          rw [rtsJ_succ, List.length_append, Nat.add_mul, Nat.one_mul]
          have : (rtsI fs to k v seen ids j).length ≤ (fs.length + 1) ^ k := by
            unfold rtsI
            split
            · split
              · exact Nat.zero_le _
              · exact ih _ _ _
            · exact Nat.zero_le _
          omega
      have h1 := hj fs.length
      have h2 : fs.length * (fs.length + 1) ^ k ≤ (fs.length + 1) ^ (k + 1) := by
        rw [Nat.pow_succ, Nat.mul_comm]
        exact Nat.mul_le_mul_left _ (by omega)
      omega
/-- What is found extends what was given, by fibers of the network, few. -/
theorem rtsL_mem : ∀ (k v : Nat) (seen : List Nat) (ids : List Int), ∀ r ∈ rtsL fs to k v seen ids, (∃ e, r = ids ++ e ∧ e.length + 1 ≤ k ∧ ∀ x ∈ e, 0 ≤ x ∧ x < fs.length) := by
  intro k
  induction k with
  | zero => intro v seen ids r hr; cases hr
  | succ k ih =>
    intro v seen ids r hr
    by_cases hv : v = to
    · subst hv
      rw [rtsL_end] at hr
      rw [List.mem_singleton.1 hr]
      exact ⟨[], by simp, by simp, fun x hx => by cases hx⟩
    · rw [rtsL_on hv] at hr
      unfold rtsJ at hr
      obtain ⟨i, hi, hr⟩ := List.mem_flatMap.1 hr
      have hi2 : i < fs.length := by simpa using hi
      unfold rtsI at hr
      split at hr
      · split at hr
        · cases hr
        · obtain ⟨e, he, h1, h2⟩ := ih _ _ _ r hr
          refine ⟨(i : Int) :: e, by rw [he]; simp, by simp; omega, fun x hx => ?_⟩
          rcases List.mem_cons.1 hx with hx | hx
          · rw [hx]; omega
          · exact h2 x hx
      · cases hr
theorem nodup_len : ∀ (n : Nat) (l : List Nat), l.Nodup → (∀ u ∈ l, u < n) → l.length ≤ n := by
  intro n
  induction n with
  | zero =>
    intro l _ h
    cases l with
    | nil => exact Nat.le_refl _
    | cons x l => exact absurd (h x (by simp)) (by omega)
  | succ n ih =>
    intro l hl h
    by_cases hm : n ∈ l
    · have h1 := ih (l.erase n) (hl.erase n) (fun u hu => by
        have h2 := (hl.mem_erase_iff).1 hu
        have := h u h2.2
        have := h2.1
        omega)
      rw [List.length_erase_of_mem hm] at h1
      omega
    · have h1 := ih l hl (fun u hu => by
        have := h u hu
        have : u ≠ n := fun e => hm (e ▸ hu)
        omega)
      omega
/-- The depth is enough. -/
theorem fuel_pos {n k : Nat} {seen : List Nat} (hn : seen.Nodup) (hs : ∀ u ∈ seen, u < n) (h : seen.length + k = n + 1) : 0 < k := by
  have := nodup_len n seen hn hs
  omega
end
end Go.Proofs.YtjfafhehpfjofaaGreat
/- Rows of routes: owned, seen, equal. Conditions: as each states. -/
namespace Go.Proofs.YtjfafhehpfjofaaGreat
open Go.RowKit
/-- A route in memory: its start; where its fibers lie. -/
def elRt : El (Int × Sl) := ⟨2, fun x => [.int .i64 x.1, slV x.2], fun _ => rfl, by decide, fun _ u h => by
  simp at h
  rcases h with rfl | rfl
  · rfl
  · rfl⟩
/-- The row v of routes is the call's own, and so is each route's row; they hold rows; no two share memory. -/
def OwnsRS (w : World) (base : Nat) (v : Value) (ss : List (Int × Sl)) (rows : List (Int × List Int)) : Prop :=
  Owns elRt w base 32 v ss ∧ ss.length = rows.length ∧ (∀ (i : Nat) s r, ss[i]? = some s → rows[i]? = some r → s.1 = r.1 ∧ Owns elInt w base 3 (slV s.2) r.2) ∧
    ∀ (i j : Nat) s t g, i < j → ss[i]? = some s → ss[j]? = some t → (slV s.2).ownBlock = some g → ¬ ((slV t.2).ownBlock = some g)
/-- Rows of routes as they read. -/
def SeesRS (w : World) (A : Option Addr) (n : Nat) (ss : List (Int × Sl)) (rows : List (Int × List Int)) : Prop :=
  Sees elRt w w.heap.size A n ss ∧ ss.length = rows.length ∧ ∀ (i : Nat) s r, ss[i]? = some s → rows[i]? = some r → s.1 = r.1 ∧ s.2.n = r.2.length ∧ Sees elInt w w.heap.size s.2.A s.2.n r.2
section
variable {w w' : World} {base : Nat} {v : Value} {ss : List (Int × Sl)} {rows : List (Int × List Int)}
theorem OwnsRS.below (h : OwnsRS w base v ss rows) (hb : Below w.heap.size w w') : OwnsRS w' base v ss rows :=
  ⟨h.1.below hb, h.2.1, fun i s r h1 h2 => ⟨(h.2.2.1 i s r h1 h2).1, (h.2.2.1 i s r h1 h2).2.below hb⟩, h.2.2.2⟩
theorem OwnsRS.base_ {base' : Nat} (h : OwnsRS w base v ss rows) (hb : base' ≤ base) : OwnsRS w base' v ss rows :=
  ⟨h.1.base hb, h.2.1, fun i s r h1 h2 => ⟨(h.2.2.1 i s r h1 h2).1, (h.2.2.1 i s r h1 h2).2.base hb⟩, h.2.2.2⟩
theorem OwnsRS.nil (w : World) (base : Nat) : OwnsRS w base (.slice none 0 0) [] [] :=
  ⟨World.ownsRow_nil _ _ _ _, rfl, fun i s r h1 => by simp at h1, fun i j s t g _ h1 => by simp at h1⟩
theorem OwnsRS.lies (h : OwnsRS w base v ss rows) {b : Nat} (hb : v.ownBlock = some b ∨ ∃ (i : Nat) (s : Int × Sl), ss[i]? = some s ∧ (slV s.2).ownBlock = some b) : base ≤ b ∧ b < w.heap.size := by
  rcases hb with e | ⟨i, s, h1, e⟩
  · exact h.1.lies b e
  · obtain ⟨r, hr⟩ : ∃ r, rows[i]? = some r := ⟨rows[i]'(by rw [← h.2.1]; exact (List.getElem?_eq_some_iff.1 h1).1), List.getElem?_eq_getElem _⟩
    exact (h.2.2.1 i s r h1 hr).2.lies b e
theorem OwnsRS.sees {n c : Nat} {A : Option Addr} (h : OwnsRS w base (.slice A n c) ss rows) : SeesRS w A ss.length ss rows := by
  refine ⟨h.1.sees, h.2.1, fun i s r h1 h2 => ?_⟩
  obtain ⟨e0, ho⟩ := h.2.2.1 i s r h1 h2
  obtain ⟨A', c', hv, _, _, hs⟩ := ho.form
  unfold slV at hv
  injection hv with e1 e2 e3
  exact ⟨e0, e2, by rw [e1, e2]; exact hs⟩
theorem SeesRS.grow {A : Option Addr} {n : Nat} (h : SeesRS w A n ss rows) (hb : Below w.heap.size w w') : SeesRS w' A n ss rows :=
  ⟨(h.1.grow hb).more hb.size, h.2.1, fun i s r h1 h2 => ⟨(h.2.2 i s r h1 h2).1, (h.2.2 i s r h1 h2).2.1, ((h.2.2 i s r h1 h2).2.2.grow hb).more hb.size⟩⟩
/-- One route more, made behind the others; the row may have moved. -/
theorem OwnsRS.push {w2 w3 : World} {r0 : Int × List Int} {s0 : Int × Sl} {v' : Value} (h : OwnsRS w base v ss rows) (hb : Below w.heap.size w w2) (hbase : base ≤ w.heap.size) (h0 : s0.1 = r0.1) (hr : Owns elInt w2 w.heap.size 3 (slV s0.2) r0.2)
    (hown : Owns elRt w3 base 32 v' (ss ++ [s0])) (hg : Touch (fun b => v.ownBlock = some b) w2 w3) : OwnsRS w3 base v' (ss ++ [s0]) (rows ++ [r0]) := by
  have h2 := h.below hb
  refine ⟨hown, by simp [h.2.1], fun i s r h3 h4 => ?_, fun i j s t g hij h3 h4 h5 h6 => ?_⟩
  · rcases Nat.lt_or_ge i ss.length with hi | hi
    · rw [List.getElem?_append_left hi] at h3
      rw [List.getElem?_append_left (by rw [← h.2.1]; exact hi)] at h4
      obtain ⟨e0, ho⟩ := h2.2.2.1 i s r h3 h4
      exact ⟨e0, ho.touch hg (fun g hg' => owns_ne h2.1 ho (by decide) g hg')⟩
    · rw [List.getElem?_append_right hi] at h3
      rw [List.getElem?_append_right (by rw [← h.2.1]; exact hi)] at h4
      have e1 : i - ss.length = 0 := by have := (List.getElem?_eq_some_iff.1 h3).1; simp at this; omega
      have e2 : i - rows.length = 0 := by rw [← h.2.1]; exact e1
      rw [e1] at h3; rw [e2] at h4
      simp at h3 h4; subst h3; subst h4
      exact ⟨h0, (hr.touch hg (fun g hg' => owns_ne h2.1 hr (by decide) g hg')).base hbase⟩
  · rcases Nat.lt_or_ge j ss.length with hj | hj
    · rw [List.getElem?_append_left hj] at h4
      rw [List.getElem?_append_left (by omega)] at h3
      exact h.2.2.2 i j s t g hij h3 h4 h5 h6
    · rw [List.getElem?_append_right hj] at h4
      have e1 : j - ss.length = 0 := by have := (List.getElem?_eq_some_iff.1 h4).1; simp at this; omega
      rw [e1] at h4; simp at h4; subst h4
      rw [List.getElem?_append_left (by omega)] at h3
      obtain ⟨r, hrr⟩ : ∃ r, rows[i]? = some r := ⟨rows[i]'(by rw [← h.2.1]; omega), List.getElem?_eq_getElem _⟩
      have a1 := ((h.2.2.1 i s r h3 hrr).2.lies g h5).2
      have a2 := (hr.lies g h6).1
      omega
end
theorem rt_info : (Tryz.prog.info? 32).map (fun i => (i.zero, i.size, i.bytes)) = some (some (.agg #[.int .i64 0, .slice none 0 0]), 2, 32) := by kernel_rfl
/-- The blocks of a row of routes. -/
def rsS (v : Value) (ss : List (Int × Sl)) (b : Nat) : Prop := v.ownBlock = some b ∨ ∃ (i : Nat) (s : Int × Sl), ss[i]? = some s ∧ (slV s.2).ownBlock = some b
/-- Routes in the ledger. -/
def tRS (base : Nat) (v : Value) (ss : List (Int × Sl)) (rows : List (Int × List Int)) : Thing :=
  ⟨rsS v ss, fun w => OwnsRS w base v ss rows,
    fun _ _ ⟨a, b, c, d⟩ _ hb => ⟨a.st (fun b h => hb b (.inl h)), b, fun i s r h1 h2 => ⟨(c i s r h1 h2).1, (c i s r h1 h2).2.st (fun g h => hb g (.inr ⟨i, s, h1, h⟩))⟩, d⟩,
    fun _ h _ e => (h.lies e).2⟩
theorem Led.rs {w0 w w' : World} {L : List Thing} {v : Value} {ss : List (Int × Sl)} {rows : List (Int × List Int)} (h : Led w0 w L) (hb : Below w.heap.size w w') (ho : OwnsRS w' w.heap.size v ss rows) : Led w0 w' (tRS w.heap.size v ss rows :: L) :=
  h.put hb _ (fun _ e => (ho.lies e).1) ho
end Go.Proofs.YtjfafhehpfjofaaGreat
/- markRouteS, heldRouteS, walked. Conditions: at most 1048576 routes and fibers of a route; the last mark below 2^40. -/
namespace Go.Proofs.YtjfafhehpfjofaaGreat
open Go.RowKit
/-- The mark at which route j begins. -/
def offR (k : Int) (rows : List (Int × List Int)) (j : Nat) : Int := k + ((((rows.take j).map fun r => 1 + r.2.length).sum : Nat) : Int)
theorem offR_zero (k : Int) (rows : List (Int × List Int)) : offR k rows 0 = k := by simp [offR]
theorem offR_succ {k : Int} {rows : List (Int × List Int)} {j : Nat} {r : Int × List Int} (h : rows[j]? = some r) : offR k rows (j + 1) = offR k rows j + 1 + (r.2.length : Int) := by
  unfold offR
  rw [List.take_add_one, h]
  simp
  omega
theorem offR_ge (k : Int) (rows : List (Int × List Int)) (j : Nat) : k ≤ offR k rows j := by unfold offR; omega
theorem offR_le {k : Int} {rows : List (Int × List Int)} : ∀ {d j : Nat}, j + d = rows.length → offR k rows j ≤ offR k rows rows.length := by
  intro d
  induction d with
  | zero => intro j h; rw [show j = rows.length by omega]; exact Int.le_refl _
  | succ d ih =>
    intro j h
    have h1 := ih (j := j + 1) (by omega)
    obtain ⟨r, hr⟩ : ∃ r, rows[j]? = some r := ⟨rows[j]'(by omega), List.getElem?_eq_getElem _⟩
    rw [offR_succ hr] at h1
    omega
/-- All routes, marked. -/
def marksRS (k : Int) (rows : List (Int × List Int)) : List (Int × List Int) := (List.range rows.length).map fun i => (offR k rows i, marks (offR k rows i + 1) (rows.getD i (0, [])).2.length)
theorem marksRS_len (k : Int) (rows : List (Int × List Int)) : (marksRS k rows).length = rows.length := by simp [marksRS]
theorem marksRS_get {k : Int} {rows : List (Int × List Int)} {i : Nat} {r q : Int × List Int} (h : rows[i]? = some r) (hq : (marksRS k rows)[i]? = some q) : q = (offR k rows i, marks (offR k rows i + 1) r.2.length) := by
  have hi := (List.getElem?_eq_some_iff.1 h).1
  unfold marksRS at hq
  rw [List.getElem?_map, List.getElem?_range hi] at hq
  simp [h] at hq
  exact hq.symm
/-- A route's start is stored. -/
theorem Owns.rt_set {w : World} {base g c n : Nat} {ss : List (Int × Sl)} (h : Owns elRt w base 32 (.slice (some ⟨g, 0, none⟩) n c) ss) {j : Nat} {s : Int × Sl} (hj : ss[j]? = some s) (x : Int) :
    Owns elRt (w.setCell ⟨g, j * 2, none⟩ (.int .i64 x)) base 32 (.slice (some ⟨g, 0, none⟩) n c) (ss.set j (x, s.2)) := by
  rcases h.cases with ⟨h0, _⟩ | ⟨g1, c1, cur, hv, hbase, hb, hnc, hcm, hs, hf⟩
  · cases h0
  · injection hv with h1 h2 h3
    injection h1 with h1
    injection h1 with h1
    subst h1
    subst h3
    have hjl := (List.getElem?_eq_some_iff.1 hj).1
    rw [h2]
    refine Owns.of_blk (hb.set (j * 2) _) hbase (by simp) hnc (by simp [hs]) hcm (fun k y hk hy i u hu => ?_)
    rw [List.getElem?_set] at hy
    have hsz : cur.size = c * 2 := hs
    by_cases hjk : j = k
    · subst hjk
      rw [if_pos rfl, if_pos hjl] at hy
      injection hy with hy; subst hy
      have hu' : [Value.int .i64 x, slV s.2][i]? = some u := hu
      match i, hu' with
      | 0, hu' =>
        simp at hu'; subst hu'
        show (cur.setIfInBounds (j * 2) _)[j * 2 + 0]? = _
        rw [Nat.add_zero, Array.getElem?_setIfInBounds_self_of_lt (by omega)]
      | 1, hu' =>
        simp at hu'; subst hu'
        show (cur.setIfInBounds (j * 2) _)[j * 2 + 1]? = _
        rw [Array.getElem?_setIfInBounds_ne (by omega)]
        exact hf j s hk hj 1 _ rfl
      | i + 2, hu' => simp at hu'
    · rw [if_neg hjk] at hy
      have hi : i < 2 := by have := (List.getElem?_eq_some_iff.1 hu).1; rw [elRt.len y] at this; exact this
      show (cur.setIfInBounds (j * 2) _)[k * 2 + i]? = _
      rw [Array.getElem?_setIfInBounds_ne (by omega)]
      exact hf k y hk hy i u hu
theorem Owns.rt_free {w : World} {base g c n : Nat} {ss : List (Int × Sl)} (h : Owns elRt w base 32 (.slice (some ⟨g, 0, none⟩) n c) ss) (j : Nat) : w.frozen? ⟨g, j, none⟩ = false := by
  rcases h.cases with ⟨h0, _⟩ | ⟨g1, c1, cur, hv, _, hb, _⟩
  · cases h0
  · injection hv with h1 h2 h3
    injection h1 with h1
    injection h1 with h1
    subst h1
    exact hb.frozen j
/-- Route i behind j routes' marking. -/
def rowR (k : Int) (rows : List (Int × List Int)) (j i : Nat) (r : List Int) : List Int := if i < j then marks (offR k rows i + 1) r.length else r
theorem snd_of {ss tt : List (Int × Sl)} (h : tt.map (·.2) = ss.map (·.2)) {i : Nat} {t : Int × Sl} (ht : tt[i]? = some t) : ∃ s, ss[i]? = some s ∧ s.2 = t.2 := by
  have h1 : (tt.map (·.2))[i]? = some t.2 := by rw [List.getElem?_map, ht]; rfl
  rw [h, List.getElem?_map] at h1
  cases hs : ss[i]? with
  | none => rw [hs] at h1; cases h1
  | some s => rw [hs] at h1; injection h1 with h1; exact ⟨s, rfl, h1⟩
end Go.Proofs.YtjfafhehpfjofaaGreat
/- Rows of routes in the ledger: equal, marked, held. Conditions: at most 1048576 routes and fibers of a route; marks below 2^40. -/
namespace Go.Proofs.YtjfafhehpfjofaaGreat
open Go.RowKit
theorem rsS_eq {v : Value} {ss tt : List (Int × Sl)} (h : tt.map (·.2) = ss.map (·.2)) : rsS v tt = rsS v ss := by
  funext b
  apply propext
  unfold rsS
  constructor
  · rintro (e | ⟨i, t, ht, e⟩)
    · exact .inl e
    · obtain ⟨s, hs, h2⟩ := snd_of h ht
      exact .inr ⟨i, s, hs, by rw [h2]; exact e⟩
  · rintro (e | ⟨i, t, ht, e⟩)
    · exact .inl e
    · obtain ⟨s, hs, h2⟩ := snd_of h.symm ht
      exact .inr ⟨i, s, hs, by rw [h2]; exact e⟩
variable {w0 w : World} {L : List Thing} {base base' n c c' : Nat} {A A' : Option Addr} {ss ss' : List (Int × Sl)} {rows : List (Int × List Int)}
theorem rs_n (h : Led w0 w L) (i : Nat) (hi : L[i]? = some (tRS base (.slice A n c) ss rows)) : ss.length = n := by
  have h1 : OwnsRS w base _ ss rows := h.get i hi
  obtain ⟨A', c', hv, _⟩ := h1.1.form
  injection hv with _ e2
  exact e2.symm
theorem rs_rows (h : Led w0 w L) (i : Nat) (hi : L[i]? = some (tRS base (.slice A n c) ss rows)) : rows.length = n := by
  have h1 : OwnsRS w base _ ss rows := h.get i hi
  rw [← h1.2.1]
  exact rs_n h i hi
end Go.Proofs.YtjfafhehpfjofaaGreat
/- Things of a ledger put into another order, two made one; a route appended to a row of routes. Conditions: none. -/
namespace Go.Proofs.YtjfafhehpfjofaaGreat
open Go.RowKit
/-- The same things in another order, or some of them. -/
theorem Led.reidx {w0 w : World} {L L' : List Thing} (h : Led w0 w L) (f : Nat → Nat) (hf : ∀ i j, i ≠ j → f i ≠ f j) (hL : ∀ (i : Nat) t, L'[i]? = some t → L[f i]? = some t) : Led w0 w L' :=
  ⟨h.bl, fun i t hi => h.all (f i) t (hL i t hi), fun i j a b hij ha hb => h.apart (f i) (f j) a b (hf i j hij) (hL i a ha) (hL j b hb)⟩
/-- Two things as one. -/
def tBoth (t a : Thing) : Thing :=
  ⟨fun b => t.S b ∨ a.S b, fun w => t.is w ∧ a.is w, fun w w' h hs hb => ⟨t.st w w' h.1 hs (fun b h => hb b (.inl h)), a.st w w' h.2 hs (fun b h => hb b (.inr h))⟩,
    fun w h b e => by rcases e with e | e; exact t.lies w h.1 b e; exact a.lies w h.2 b e⟩
theorem Led.merge {w0 w : World} {L : List Thing} {a t : Thing} (h : Led w0 w (a :: L)) (j : Nat) (hj : L[j]? = some t) : Led w0 w (L.set j (tBoth t a)) := by
  have ha := h.all 0 a rfl
  have ht := h.all (j + 1) t (by simpa using hj)
  have key : ∀ (i : Nat) u, (L.set j (tBoth t a))[i]? = some u → (i = j ∧ u = tBoth t a) ∨ (i ≠ j ∧ L[i]? = some u) := by
    intro i u hu
    rw [List.getElem?_set] at hu
    by_cases hij : j = i
    · subst hij
      rw [if_pos rfl] at hu
      split at hu
      · injection hu with hu; exact .inl ⟨rfl, hu.symm⟩
      · cases hu
    · rw [if_neg hij] at hu; exact .inr ⟨fun e => hij e.symm, hu⟩
  have ap : ∀ (i : Nat) u, i ≠ j → L[i]? = some u → ∀ k, (t.S k ∨ a.S k) → ¬ u.S k := by
    intro i u hij hu k hk h2
    rcases hk with hk | hk
    · exact h.apart (j + 1) (i + 1) t u (by omega) (by simpa using hj) (by simpa using hu) k hk h2
    · exact h.apart 0 (i + 1) a u (by omega) rfl (by simpa using hu) k hk h2
  refine ⟨h.bl, fun i u hu => ?_, fun i k u v hik hu hv x h1 h2 => ?_⟩
  · rcases key i u hu with ⟨rfl, rfl⟩ | ⟨_, hu'⟩
    · exact ⟨⟨ht.1, ha.1⟩, fun b hb => by rcases hb with hb | hb; exact ht.2 b hb; exact ha.2 b hb⟩
    · exact h.all (i + 1) u (by simpa using hu')
  · rcases key i u hu with ⟨rfl, rfl⟩ | ⟨hi, hu'⟩
    · rcases key k v hv with ⟨rfl, rfl⟩ | ⟨hk, hv'⟩
      · exact hik rfl
      · exact ap k v hk hv' x h1 h2
    · rcases key k v hv with ⟨rfl, rfl⟩ | ⟨hk, hv'⟩
      · exact ap i u hi hu' x h2 h1
      · exact h.apart (i + 1) (k + 1) u v (by omega) (by simpa using hu') (by simpa using hv') x h1 h2
/-- One route more; its row lay apart. -/
theorem OwnsRS.push2 {w w3 : World} {base b : Nat} {v v' : Value} {ss : List (Int × Sl)} {rows : List (Int × List Int)} {r0 : Int × List Int} {s0 : Int × Sl} (h : OwnsRS w base v ss rows) (h0 : s0.1 = r0.1) (hb : base ≤ b) (hr : Owns elInt w b 3 (slV s0.2) r0.2)
    (hap : ∀ k, rsS v ss k → ¬ (slV s0.2).ownBlock = some k) (hown : Owns elRt w3 base 32 v' (ss ++ [s0])) (hg : Touch (fun b => v.ownBlock = some b) w w3) : OwnsRS w3 base v' (ss ++ [s0]) (rows ++ [r0]) := by
  refine ⟨hown, by simp [h.2.1], fun i s r h3 h4 => ?_, fun i j s t g hij h3 h4 h5 h6 => ?_⟩
  · rcases Nat.lt_or_ge i ss.length with hi | hi
    · rw [List.getElem?_append_left hi] at h3
      rw [List.getElem?_append_left (by rw [← h.2.1]; exact hi)] at h4
      obtain ⟨e0, ho⟩ := h.2.2.1 i s r h3 h4
      exact ⟨e0, ho.touch hg (fun g hg' => owns_ne h.1 ho (by decide) g hg')⟩
    · rw [List.getElem?_append_right hi] at h3
      rw [List.getElem?_append_right (by rw [← h.2.1]; exact hi)] at h4
      have e1 : i - ss.length = 0 := by have := (List.getElem?_eq_some_iff.1 h3).1; simp at this; omega
      have e2 : i - rows.length = 0 := by rw [← h.2.1]; exact e1
      rw [e1] at h3; rw [e2] at h4
      simp at h3 h4; subst h3; subst h4
      exact ⟨h0, (hr.touch hg (fun g hg' => owns_ne h.1 hr (by decide) g hg')).base hb⟩
  · rcases Nat.lt_or_ge j ss.length with hj | hj
    · rw [List.getElem?_append_left hj] at h4
      rw [List.getElem?_append_left (by omega)] at h3
      exact h.2.2.2 i j s t g hij h3 h4 h5 h6
    · rw [List.getElem?_append_right hj] at h4
      have e1 : j - ss.length = 0 := by have := (List.getElem?_eq_some_iff.1 h4).1; simp at this; omega
      rw [e1] at h4; simp at h4; subst h4
      rw [List.getElem?_append_left (by omega)] at h3
      exact hap g (.inr ⟨i, s, h3, h5⟩) h6
section
variable {w0 w : World} {L : List Thing} {ops : Array Oper} {o : Oper} {a : Act} {Q : Exit → Act → World → Prop} {K : Act → World → Prop} {F : Prop}
/-- append of one route whose row of fibers is the newest thing of the ledger. -/
theorem step_append_rs (hgd : o.guard = none) (s x : Operand) (ho : o.op = .call { callee := .builtin .append, args := #[s, x], argTypes := #[58, 58] }) {base b B c : Nat} {v : Value} {ss : List (Int × Sl)} {rows : List (Int × List Int)} {r0 : Int × List Int} {s0 : Int × Sl} {X : Option Addr}
    (hS : Led w0 w (tOwns elInt b 3 (slV s0.2) r0.2 :: L)) (j : Nat) (hj : L[j]? = some (tRS base v ss rows)) (h0 : s0.1 = r0.1) (hbb : base ≤ b) (hs : a.eval s = v) (hx : a.eval x = .slice X 1 c) (hX : Sees elRt w B X 1 [s0]) (h63 : ss.length + 1 ≤ 1099511627776) (hbase : base ≤ w.heap.size)
    (h : ∀ A' c' w', Led w0 w' (L.set j (tRS base (.slice A' (ss.length + 1) c') (ss ++ [s0]) (rows ++ [r0]))) → K (a.put o.dst (.slice A' (ss.length + 1) c')) w') : if Region.wanted o (yielded ops a.tmps) = true then Oper.wp Tryz.prog o a w K Q else F := by
  have hw : Region.wanted o (yielded ops a.tmps) = true := by simp [Region.wanted, hgd]
  rw [if_pos hw]
  obtain ⟨i0, hi, hz0, hz1, hz2⟩ := info_parts rt_info
  have hR : OwnsRS w base v ss rows := hS.get (j + 1) (by simpa using hj)
  have hF : Owns elInt w b 3 (slV s0.2) r0.2 := hS.get 0 rfl
  obtain ⟨A', c', w', hr, h2, h3, h4⟩ := run_append_all (P := Tryz.prog) (ty := o.type) (c := c) Tryz.underlying58 hi hz0 hz1 rfl hR.1 hX h63 (by rw [hz2]; decide) hbase
  unfold Oper.wp execOp
  simp only [ho, resolve, invoke, builtin, Sem.run_bind, Sem.run_pure, Result.andThen_ok, List.map_toArray, List.map_cons, List.map_nil, hs, hx, hr]
  have hT : Touch (fun b => v.ownBlock = some b) w w' := ⟨h3.os, h3.tape, h3.output, h3.size, fun k hk hn => h3.block k hk (fun e => hn e.symm)⟩
  have hap : ∀ k, rsS v ss k → ¬ (slV s0.2).ownBlock = some k := fun k h1 h5 => hS.apart (j + 1) 0 _ _ (by omega) (by simpa using hj) rfl k h1 h5
  have hnew := hR.push2 h0 hbb hF hap h2 hT
  have hm := hS.merge j hj
  have hjl : (L.set j (tBoth (tRS base v ss rows) (tOwns elInt b 3 (slV s0.2) r0.2)))[j]? = some (tBoth (tRS base v ss rows) (tOwns elInt b 3 (slV s0.2) r0.2)) := by
    rw [List.getElem?_set_self (List.getElem?_eq_some_iff.1 hj).1]
  have hfin := hm.regrow j hjl (t' := tRS base (.slice A' (ss.length + 1) c') (ss ++ [s0]) (rows ++ [r0])) (hT.mono fun b hb => .inl (.inl hb)) (fun k hk => by
    rcases hk with hk | ⟨i, t, ht, hk⟩
    · rcases h4 k hk with h5 | h5
      · exact .inl (.inl (.inl h5))
      · exact .inr (by omega)
    · rcases Nat.lt_or_ge i ss.length with hi | hi
      · rw [List.getElem?_append_left hi] at ht
        exact .inl (.inl (.inr ⟨i, t, ht, hk⟩))
      · rw [List.getElem?_append_right hi] at ht
        have e1 : i - ss.length = 0 := by have := (List.getElem?_eq_some_iff.1 ht).1; simp at this; omega
        rw [e1] at ht; simp at ht; subst ht
        exact .inl (.inr hk)) hnew
  rw [List.set_set] at hfin
  exact h A' c' w' hfin
end
end Go.Proofs.YtjfafhehpfjofaaGreat
/- impl.components: the components without some fibers, walked. Conditions: the fibers' ends are nodes; 2 nodes at least. -/
namespace Go.Proofs.YtjfafhehpfjofaaGreat
open Go.RowKit
section
variable {n c m d : Nat} {A A' : Option Addr} {xs : List ByteArray} {fs : List Fib}
/-- Fiber j is gone. -/
def goneF (l : List Int) (j : Nat) : Bool := hasB l (j : Int)
theorem goodB_ends (h : goodB xs fs = true) : endsB xs.length fs := fun i hi => by
  have h1 := goodB_fibB h (List.getElem_mem hi)
  have e : fibD fs i = fs[i] := getD_of (List.getElem?_eq_getElem hi)
  rw [e]
  unfold fibB at h1; simp at h1; omega
end
end Go.Proofs.YtjfafhehpfjofaaGreat
/- Sets of fibers as numbers: the reference's l6Mask, walked. Conditions: the numbers are below 20. -/
namespace Go.Proofs.YtjfafhehpfjofaaGreat
open Go.RowKit
/-- The set as a number. -/
def maskTo (l : List Int) : Nat → Nat
  | 0 => 0
  | k + 1 => maskTo l k ||| 2 ^ (l.getD k 0).toNat
def maskN (l : List Int) : Nat := maskTo l l.length
theorem maskTo_bit {l : List Int} (h : ∀ x ∈ l, 0 ≤ x) (i : Nat) : ∀ k, k ≤ l.length → (maskTo l k).testBit i = decide ((i : Int) ∈ l.take k) := by
  intro k
  induction k with
  | zero => intro _; simp [maskTo]
  | succ k ih =>
    intro hk
    have hkl : k < l.length := by omega
    have e : l.take (k + 1) = l.take k ++ [l[k]] := by rw [List.take_add_one, List.getElem?_eq_getElem hkl]; rfl
    have hx := h _ (List.getElem_mem hkl)
    show (maskTo l k ||| 2 ^ (l.getD k 0).toNat).testBit i = _
    rw [Nat.testBit_or, ih (by omega), Nat.testBit_two_pow, e, getD_of (List.getElem?_eq_getElem hkl)]
    rw [Bool.eq_iff_iff, Bool.or_eq_true, decide_eq_true_eq, decide_eq_true_eq, decide_eq_true_eq, List.mem_append, List.mem_singleton]
    constructor
    · intro h1
      rcases h1 with h1 | h1
      · exact Or.inl h1
      · exact Or.inr (by omega)
    · intro h1
      rcases h1 with h1 | h1
      · exact Or.inl h1
      · exact Or.inr (by omega)
theorem maskN_bit {l : List Int} (h : ∀ x ∈ l, 0 ≤ x) (i : Nat) : (maskN l).testBit i = hasB l (i : Int) := by
  unfold maskN
  rw [maskTo_bit h i _ (Nat.le_refl _), List.take_length, Bool.eq_iff_iff, hasB_iff]
  simp
theorem maskTo_lt {l : List Int} (h : ∀ x ∈ l, 0 ≤ x ∧ x < 20) : ∀ k, k ≤ l.length → maskTo l k < 2 ^ 20 := by
  intro k
  induction k with
  | zero => intro _; simp [maskTo]
  | succ k ih =>
    intro hk
    have hkl : k < l.length := by omega
    have hx := h _ (List.getElem_mem hkl)
    refine Nat.or_lt_two_pow (ih (by omega)) ?_
    rw [getD_of (List.getElem?_eq_getElem hkl)]
    exact Nat.pow_lt_pow_right (by decide) (by omega)
theorem ofInt_small {a : Nat} (h : a < 2 ^ 62) : (BitVec.ofInt 64 (a : Int)).toNat = a := by
  rw [BitVec.ofInt_natCast, BitVec.toNat_ofNat]; exact Nat.mod_eq_of_lt (by omega)
theorem wrap_small {a : Nat} (h : a < 2 ^ 62) : IntKind.i64.wrap (a : Int) = (a : Int) := IntWalk.i64_in _ (by omega)
/-- One bit more. -/
theorem bits_or_n {M N : Nat} (hM : M < 2 ^ 20) (hN : N < 2 ^ 20) : Go.bits .or .i64 (M : Int) (N : Int) = ((M ||| N : Nat) : Int) := by
  have h3 : M ||| N < 2 ^ 20 := Nat.or_lt_two_pow hM hN
  show IntKind.i64.wrap ((BitVec.ofInt 64 (M : Int) ||| BitVec.ofInt 64 (N : Int)).toNat : Int) = _
  rw [BitVec.toNat_or, ofInt_small (by omega), ofInt_small (by omega)]
  exact wrap_small (by omega)
/-- Is bit i set? -/
theorem bits_and_one {M : Nat} (hM : M < 2 ^ 20) (i : Nat) : Go.bits .and .i64 ((M / 2 ^ i : Nat) : Int) 1 = if M.testBit i then 1 else 0 := by
  have h2 : M / 2 ^ i ≤ M := Nat.div_le_self _ _
  have h3 : (M / 2 ^ i) &&& 1 = (M.testBit i).toNat := by
    rw [Nat.testBit_eq_decide_div_mod_eq, Nat.and_one_is_mod]
    have : M / 2 ^ i % 2 = 0 ∨ M / 2 ^ i % 2 = 1 := by omega
    rcases this with h | h <;> simp [h]
  show IntKind.i64.wrap ((BitVec.ofInt 64 ((M / 2 ^ i : Nat) : Int) &&& BitVec.ofInt 64 ((1 : Nat) : Int)).toNat : Int) = _
  rw [BitVec.toNat_and, ofInt_small (by omega), ofInt_small (by omega), h3]
  cases M.testBit i <;> rfl
end Go.Proofs.YtjfafhehpfjofaaGreat
/- spec.l6Labels: the reference's components, walked. Conditions: the fibers' ends are nodes; 2 nodes at least; at most 20 fibers. -/
namespace Go.Proofs.YtjfafhehpfjofaaGreat
open Go.RowKit
set_option maxRecDepth 100000 in
theorem least_any (a b : Int) (w : World) : Calls Tryz.prog 60 #[.int .i64 a, .int .i64 b] w fun e w' => e = .returned (.int .i64 (min a b)) ∧ w = w' := by
  by_cases h : a < b
  · have H : Hid (min a b = a) := by unfold Hid; omega
    go_enter Tryz.func60, Tryz.ntmps60
    go_wp2
    go_ret
    exact ⟨by rw [H.out]; rfl, rfl⟩
  · have H : Hid (min a b = b) := by unfold Hid; omega
    go_enter Tryz.func60, Tryz.ntmps60
    go_wp2
    go_ret
    exact ⟨by rw [H.out]; rfl, rfl⟩
section
variable {n c m d : Nat} {A A' : Option Addr} {xs : List ByteArray} {fs : List Fib}
end
end Go.Proofs.YtjfafhehpfjofaaGreat
/- ComponentsOf of both sides, walked. Conditions: none. -/
namespace Go.Proofs.YtjfafhehpfjofaaGreat
open Go.RowKit
section
variable {n c m d c' : Nat} {A A' V : Option Addr} {xs : List ByteArray} {fs : List Fib} {l : List Int}
/-- The list is a set of fibers of a valid network. -/
def coB (xs : List ByteArray) (fs : List Fib) (l : List Int) : Bool := goodB xs fs && risB 0 ((fs.length : Int) - 1) l
def coL (xs : List ByteArray) (fs : List Fib) (l : List Int) : List Int := if coB xs fs l then compL (goneF l) fs xs.length else []
theorem coB_mem (h : coB xs fs l = true) : ∀ x ∈ l, 0 ≤ x ∧ x < fs.length := by
  intro x hx
  unfold coB risB at h
  rw [Bool.and_eq_true] at h
  obtain ⟨k, hk, e⟩ := List.mem_iff_getElem.1 hx
  have h1 := allB_iff.1 h.2 k hk
  unfold riseAt at h1
  rw [Bool.and_eq_true, getD_of (by rw [List.getElem?_eq_getElem hk, e])] at h1
  exact inB_idx h1.1
theorem coL_len : (coL xs fs l).length ≤ 8 := by
  unfold coL
  cases g : coB xs fs l
  · simp
  · unfold coB at g
    rw [Bool.and_eq_true] at g
    have := (goodB_bd g.1).2.1
    simp [compL_len]; omega
theorem passTo_congr {q q' : Nat → Bool} {X : List Int} : ∀ j, (∀ i, i < j → q i = q' i) → passTo q fs X j = passTo q' fs X j := by
  intro j
  induction j with
  | zero => intro _; rfl
  | succ j ih => intro h; rw [passTo_succ, passTo_succ, h j (by omega), ih (fun i hi => h i (by omega))]
theorem compL_congr {q q' : Nat → Bool} (h : ∀ i, i < fs.length → q i = q' i) : compL q fs n = compL q' fs n := by
  suffices hh : ∀ k, rndL q fs n k = rndL q' fs n k from hh n
  intro k
  induction k with
  | zero => rfl
  | succ k ih => rw [rndL_succ, rndL_succ, ih]; exact passTo_congr _ h
/-- The labels by a set's number. -/
theorem compL_mask (h : coB xs fs l = true) : compL (fun i => (maskN l).testBit i) fs n = compL (goneF l) fs n :=
  compL_congr fun i _ => maskN_bit (fun x hx => (coB_mem h x hx).1) i
theorem mask_small (h : coB xs fs l = true) : maskN l < 2 ^ 20 ∧ ∀ x ∈ l, 0 ≤ x ∧ x < 20 := by
  have hg : goodB xs fs = true := by unfold coB at h; rw [Bool.and_eq_true] at h; exact h.1
  have h14 := (goodB_bd hg).2.2
  have hx : ∀ x ∈ l, 0 ≤ x ∧ x < 20 := fun x hx => by have := coB_mem h x hx; omega
  exact ⟨maskTo_lt hx _ (Nat.le_refl _), hx⟩
end
end Go.Proofs.YtjfafhehpfjofaaGreat
/- The risk group of a fiber: the reference's, walked. Conditions: none. -/
namespace Go.Proofs.YtjfafhehpfjofaaGreat
open Go.RowKit
variable {n c m d : Nat} {A A' : Option Addr} {xs : List ByteArray} {fs : List Fib}
def riskF (fs : List Fib) (j : Nat) : Int := (fs.getD j ⟨0, 0, 0, 0⟩).risk
/-- The fibers that fail together with fiber i. -/
def groupL (fs : List Fib) (i : Nat) : List Int := if riskF fs i == 0 then [(i : Int)] else idsTo (fun j => riskF fs j == riskF fs i) fs.length
theorem riskF_of {j : Nat} {f : Fib} (h : fs[j]? = some f) : riskF fs j = f.risk := by unfold riskF; rw [getD_of h]
theorem filled_int1 (s : Int) : Filled elInt #[.int .i64 s] [s] 1 := by
  intro j x hj hx i u hu
  obtain rfl : j = 0 := by omega
  simp at hx; subst hx
  match i, hu with
  | 0, hu => simp [elInt] at hu; subst hu; rfl
end Go.Proofs.YtjfafhehpfjofaaGreat
