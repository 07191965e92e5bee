/- Lemmas and walks that the claim rests on, laid together. Conditions: none. -/
import Derived.Test.YtndmffmbkcagmaaZExactSharedFibers5
import Derived.Test.YtndmffmbkcagmaaZExactSharedFibers1
import Derived.Deep.RegionHeld3
import Derived.Test.YtndmffmbkcagmaaZExactSharedFibers4
import Derived.Test.YtndmffmbkcagmaaZExactSharedFibers0
import Derived.Deep.RegionLaw
/- The order of routes, walked: slices.Compare, compareRoutes, l4Compare, CompareRoutes of both sides. Conditions: as each states. -/
namespace Go.Proofs.Ytndmffmbkcagmaa
open Go.RowKit
theorem Cls.onto {w w1 w2 : World} (h : Cls w w1) (k : Cls w1 w2) : Cls w w2 := bl_then h k
theorem sgn_cmp (x y : Int) : sgnI (x - y) = cmpB x y := by
  unfold sgnI cmpB
  split
  · rw [if_pos (by omega)]
  · split
    · rw [if_neg (by omega), if_pos (by omega)]
    · rw [if_neg (by omega), if_neg (by omega)]
/-- Two routes in their order. -/
def ordR (fs : List Fib) (s : Int) (a : List Int) (t : Int) (b : List Int) : Int := orI [cmpB (lenR fs a) (lenR fs b), cmpB (a.length : Int) (b.length : Int), cmpL a b, cmpB s t]
theorem ordR_len {fs : List Fib} {s t : Int} {a b : List Int} (h : lenR fs a ≠ lenR fs b) : ordR fs s a t b = sgnI (lenR fs a - lenR fs b) := by
  unfold ordR orI; rw [sgn_cmp, if_neg (by rw [cmpB_zero]; exact h)]
theorem ordR_num {fs : List Fib} {s t : Int} {a b : List Int} (h : lenR fs a = lenR fs b) (h2 : (a.length : Int) ≠ b.length) : ordR fs s a t b = sgnI ((a.length : Int) - b.length) := by
  unfold ordR orI orI; rw [sgn_cmp, if_pos (by rw [cmpB_zero]; exact h), if_neg (by rw [cmpB_zero]; exact h2)]
theorem ordR_list {fs : List Fib} {s t : Int} {a b : List Int} (h : lenR fs a = lenR fs b) (h2 : a.length = b.length) (h3 : cmpL a b ≠ 0) : ordR fs s a t b = cmpL a b := by
  unfold ordR orI orI orI; rw [if_pos (by rw [cmpB_zero]; exact h), if_pos (by rw [cmpB_zero]; omega), if_neg h3]
theorem ordR_start {fs : List Fib} {s t : Int} {a : List Int} : ordR fs s a t a = sgnI (s - t) := by
  unfold ordR orI orI orI orI orI; rw [if_pos (by rw [cmpB_zero]), if_pos (by rw [cmpB_zero]), if_pos (cmpL_same a), sgn_cmp]
  split
  · rename_i h; exact h.symm
  · rfl
section
variable {n c m d er eq : Nat} {A A' R Q : Option Addr} {xs : List ByteArray} {fs : List Fib} {s t : Int} {ids jds : List Int}
set_option maxHeartbeats 2000000 in
set_option maxRecDepth 100000 in
theorem areRoutes_any (w : World) (h : NetIs w A n c A' m d xs fs) (hr : RtIs w R ids.length er ids) (hq : RtIs w Q jds.length eq jds) :
    Calls Try.prog 57 #[.agg #[.slice A n c, .slice A' m d], .agg #[.int .i64 s, .slice R ids.length er], .agg #[.int .i64 t, .slice Q jds.length eq]] w fun e w' => e = .returned (.bool (routeB xs fs s ids && routeB xs fs t jds)) ∧ Below w.heap.size w w' := by
  have hS := (((Led.nil w).blk_ w.heap.size rfl 36 #[.slice A n c, .slice A' m d]).blk_ (w.heap.size + 1) (by simp) 31 #[.int .i64 s, .slice R ids.length er]).blk_ (w.heap.size + 1 + 1) (by simp) 31 #[.int .i64 t, .slice Q jds.length eq]
  cases g : routeB xs fs s ids
  · go_enter Try.func57, Try.ntmps57
    go_wp2_with fail
    refine (implIsValidRoute s _ (h.grow hS.bl) (hr.grow hS.bl)).mono ?_
    rintro e w1 ⟨rfl, hb⟩
    replace hS := hS.step hb
    rw [g]
    have q0 := hS.cell 2 0 rfl rfl
    have q1 := hS.cell 2 1 rfl rfl
    have q2 := hS.cell 1 0 rfl rfl
    have q3 := hS.cell 1 1 rfl rfl
    have q4 := hS.cell 0 0 rfl rfl
    have q5 := hS.cell 0 1 rfl rfl
    go_wp2_with fail
    go_ret
    exact ⟨rfl, hS.bl⟩
  · go_enter Try.func57, Try.ntmps57
    go_wp2_with fail
    refine (implIsValidRoute s _ (h.grow hS.bl) (hr.grow hS.bl)).mono ?_
    rintro e w1 ⟨rfl, hb⟩
    replace hS := hS.step hb
    rw [g]
    have q0 := hS.cell 2 0 rfl rfl
    have q1 := hS.cell 2 1 rfl rfl
    have q2 := hS.cell 1 0 rfl rfl
    have q3 := hS.cell 1 1 rfl rfl
    have q4 := hS.cell 0 0 rfl rfl
    have q5 := hS.cell 0 1 rfl rfl
    go_wp2_with fail
    refine (implIsValidRoute t _ (h.grow hS.bl) (hq.grow hS.bl)).mono ?_
    rintro e w2 ⟨rfl, hb2⟩
    go_wp2_with fail
    go_ret
    exact ⟨rfl, bl_then hS.bl hb2⟩
/-- CompareRoutes. -/
def crB (xs : List ByteArray) (fs : List Fib) (s : Int) (a : List Int) (t : Int) (b : List Int) : Bool := routeB xs fs s a && routeB xs fs t b
def crI (xs : List ByteArray) (fs : List Fib) (s : Int) (a : List Int) (t : Int) (b : List Int) : Int := if crB xs fs s a t b then ordR fs s a t b else 0
theorem routeB_start {xs : List ByteArray} {fs : List Fib} {s : Int} {a : List Int} (h : routeB xs fs s a = true) : 0 ≤ s ∧ s ≤ 1048576 := by
  obtain ⟨hg, hr⟩ := routeB_good h
  have h1 := inB_idx (rtB_parts hr).1
  have := (goodB_bd hg).2.1
  omega
end
end Go.Proofs.Ytndmffmbkcagmaa
/- SharedFibers of both sides, walked. Conditions: none. -/
namespace Go.Proofs.Ytndmffmbkcagmaa
open Go.RowKit
def shB (xs : List ByteArray) (fs : List Fib) (s : Int) (a : List Int) (t : Int) (b : List Int) : Bool := routeB xs fs s a && routeB xs fs t b
def shL (xs : List ByteArray) (fs : List Fib) (s : Int) (a : List Int) (t : Int) (b : List Int) : List Int := if shB xs fs s a t b then comL a b else []
section
variable {n c m d er eq : Nat} {A A' R Q : Option Addr} {xs : List ByteArray} {fs : List Fib} {ids jds : List Int} {s t : Int}
set_option maxHeartbeats 2000000 in
set_option maxRecDepth 100000 in
theorem implShared (w : World) (h : NetIs w A n c A' m d xs fs) (hr : RtIs w R ids.length er ids) (hq : RtIs w Q jds.length eq jds) :
    Calls Try.prog 24 #[.agg #[.slice A n c, .slice A' m d], .agg #[.int .i64 s, .slice R ids.length er], .agg #[.int .i64 t, .slice Q jds.length eq]] w fun e w' => ∃ v, e = .returned (.tuple #[v, .bool (shB xs fs s ids t jds)]) ∧ Owns elInt w' w.heap.size 3 v (shL xs fs s ids t jds) ∧ Below w.heap.size w w' := by
  have hS := (((Led.nil w).blk_ w.heap.size rfl 36 #[.slice A n c, .slice A' m d]).blk_ (w.heap.size + 1) (by simp) 31 #[.int .i64 s, .slice R ids.length er]).blk_ (w.heap.size + 1 + 1) (by simp) 31 #[.int .i64 t, .slice Q jds.length eq]
  have HB : Hid (shB xs fs s ids t jds = (routeB xs fs s ids && routeB xs fs t jds)) := rfl
  cases g : (routeB xs fs s ids && routeB xs fs t jds)
  · have H : Hid (shL xs fs s ids t jds = []) := by unfold Hid shL shB; rw [g]; rfl
    rw [HB.out, g]
    go_enter Try.func24, Try.ntmps24
    go_wp2_with fail
    refine (areRoutes_any _ (h.grow hS.bl) (hr.grow hS.bl) (hq.grow hS.bl)).mono ?_
    rintro e w1 ⟨rfl, hb⟩
    rw [g]
    go_wp2_with fail
    go_ret2
    exact ⟨_, rfl, by rw [H.out]; exact World.ownsRow_nil _ _ _ _, bl_then hS.bl hb⟩
  · have H : Hid (shL xs fs s ids t jds = comL ids jds) := by unfold Hid shL shB; rw [g]; rfl
    rw [HB.out, g]
    go_enter Try.func24, Try.ntmps24
    go_wp2_with fail
    refine (areRoutes_any _ (h.grow hS.bl) (hr.grow hS.bl) (hq.grow hS.bl)).mono ?_
    rintro e w1 ⟨rfl, hb⟩
    rw [g]
    replace hS := hS.step hb
    have q1 := hS.cell 0 1 rfl rfl
    have q3 := hS.cell 1 1 rfl rfl
    go_wp2_with fail
    refine (common_any _ (hr.grow hS.bl).2 (hq.grow hS.bl).2 hr.le hq.le).mono ?_
    rintro e w2 ⟨v, rfl, ho, hb2⟩
    have HO := hid (ho.base (base' := w.heap.size) hS.bl.size)
    have HZ := hid (bl_then hS.bl hb2)
    clear ho hb2 hb hS
    go_wp2_with fail
    go_ret2
    exact ⟨_, rfl, by rw [H.out]; exact HO.out, HZ.out⟩
end
end Go.Proofs.Ytndmffmbkcagmaa
/- l1Put, walked. Conditions: at most 1048576 numbers. -/
namespace Go.Proofs.Ytndmffmbkcagmaa
open Go.RowKit
theorem putL_at {x : Int} : ∀ {l : List Int} {k : Nat}, k ≤ l.length → (∀ j y, j < k → l[j]? = some y → y < x) → (∀ y, l[k]? = some y → x ≤ y) → putL l x = if l[k]? = some x then l else l.take k ++ x :: l.drop k
  | [], k, hk, _, _ => by
    have : k = 0 := by simpa using hk
    subst this; simp [putL]
  | y :: t, 0, _, _, hge => by
    have h := hge y rfl
    unfold putL
    rw [if_neg (by omega)]
    by_cases e : y = x
    · simp [e]
    · simp [e]
  | y :: t, k + 1, hk, hlt, hge => by
    have h := hlt 0 y (by omega) rfl
    have ih := putL_at (x := x) (l := t) (k := k) (by simpa using hk) (fun j z hj hz => hlt (j + 1) z (by omega) (by simpa using hz)) (fun z hz => hge z (by simpa using hz))
    unfold putL
    rw [if_pos h, ih]
    simp only [List.getElem?_cons_succ, List.take_succ_cons, List.drop_succ_cons]
    split <;> simp
/-- All of the first k are below x. -/
def lowTo (l : List Int) (x : Int) (k : Nat) : Prop := ∀ j y, j < k → l[j]? = some y → y < x
theorem lowTo_succ {l : List Int} {x y : Int} {k : Nat} (h : lowTo l x k) (hy : l[k]? = some y) (hlt : y < x) : lowTo l x (k + 1) := by
  intro j z hj hz
  by_cases e : j = k
  · subst e; rw [hy] at hz; injection hz with hz; omega
  · exact h j z (by omega) hz
/-- A back part. -/
theorem Sees.back {w : World} {B b o n k : Nat} {l : List Int} (h : Sees elInt w B (some ⟨b, o, none⟩) n l) (hk : k ≤ n) : Sees elInt w B (some ⟨b, o + k, none⟩) (n - k) (l.drop k) := by
  refine ⟨by rw [List.length_drop, h.1], ?_⟩
  rcases Nat.eq_zero_or_pos n with h0 | h0
  · exact .inl (by omega)
  · refine .inr ⟨b, o + k, rfl, h.blt h0, fun j x hx i u hu => ?_⟩
    rw [List.getElem?_drop] at hx
    have := h.cell hx hu
    have e : o + (k + j) * elInt.sz + i = o + k + j * elInt.sz + i := by show o + (k + j) * 1 + i = o + k + j * 1 + i; omega
    rw [e] at this; exact this
theorem sees_one {w : World} {b : Nat} {x : Int} (h : w.cell? ⟨b, 0, none⟩ = some (.int .i64 x)) : Sees elInt w (b + 1) (some ⟨b, 0, none⟩) 1 [x] := by
  refine ⟨rfl, .inr ⟨b, 0, rfl, Nat.lt_succ_self _, fun k y hy j u hu => ?_⟩⟩
  have hk : k = 0 := by have := (List.getElem?_eq_some_iff.1 hy).1; simp at this; omega
  subst hk
  simp at hy; subst hy
  have hu' : [Value.int .i64 x][j]? = some u := hu
  match j, hu' with
  | 0, hu' => simp at hu'; subst hu'; exact h
  | j + 1, hu' => simp at hu'
section
variable {base c n : Nat} {A : Option Addr} {l : List Int}
set_option maxHeartbeats 2000000 in
set_option maxRecDepth 100000 in
theorem l1Put_any (x : Int) (w : World) (ho : Owns elInt w base 3 (.slice A n c) l) (hln : l.length = n) (hb : base ≤ w.heap.size) (hn : n ≤ 1048576) :
    Calls Try.prog 60 #[.slice A n c, .int .i64 x] w fun e w' => ∃ v, e = .returned v ∧ Owns elInt w' base 3 v (putL l x) ∧ Below w.heap.size w w' := by
  have HA : Hid (Sees elInt w w.heap.size A n l) := by
    subst hln; exact ho.sees
  have HO := hid ho
  have HL := hid hln
  obtain ⟨i0, hi, hz0, hz1, hz2⟩ := info_parts int_info
  clear ho
  go_enter Try.func60, Try.ntmps60
  go_wp2_with fail
  go_loop [5] (fun i => ∃ k : Nat, k ≤ n ∧ i = .int .i64 k ∧ Hid (lowTo l x k)) (fun i => n - (intOf i).toNat)
  case atStart => exact ⟨0, Nat.zero_le _, rfl, fun j y hj => absurd hj (Nat.not_lt_zero _)⟩
  case round =>
    obtain ⟨k, hk, rfl, hno⟩ := hrel
    by_cases hlt : k < n
    · obtain ⟨b, o, rfl, hbb, hx⟩ := HA.out.at_ hlt
      obtain ⟨y, hyk⟩ := get_of (k := k) HL.out hlt
      have hc := hx k y hyk 0 _ rfl
      simp only [elInt, Nat.mul_one, Nat.add_zero] at hc
      have HY := hid hyk
      clear hx hyk
      by_cases hyx : y < x
      · have HN := hid (lowTo_succ hno HY.out hyx)
        clear hno
        go_wp2
        go_round
        case rel => exact ⟨k + 1, by omega, by go_num, HN⟩
        case measure => simp [intOf]; omega
      · have HP := hid (putL_at (by have := HL.out; omega) hno (fun z hz => by rw [HY.out] at hz; injection hz with hz; omega))
        by_cases heq : y = x
        · subst heq
          have HP2 : Hid (putL l y = l) := by
            have := HP.out
            rw [if_pos HY.out] at this; exact this
          clear HP hno
          go_wp2_with fail
          go_ret
          exact ⟨_, rfl, by rw [HP2.out]; exact HO.out, Below.refl _ _⟩
        · have HP2 : Hid (putL l x = l.take k ++ x :: l.drop k) := by
            have := HP.out
            rw [if_neg (by rw [HY.out]; intro e; injection e with e; exact heq e)] at this; exact this
          clear HP hno
          go_wp2_with fail
          have hnc : n ≤ c := by
            obtain ⟨_, _, e, h1, _⟩ := HO.out.form
            injection e with _ e2 e3
            have := HL.out
            omega
          have hkc : k ≤ c := by omega
          have hck : ¬ c = k := by omega
          have HSa := hid (((Led.nil w).step (Cls.drew w)).empty elInt 3 w.heap.size rfl base hb)
          have HSb := hid (HSa.out.blk_ (w.heap.size + 1) (by simp) 3 #[.int .i64 x])
          have HSc := hid ((((Led.nil w).step (Cls.drew w)).blk_ w.heap.size rfl 3 #[.int .i64 x]).empty elInt 3 (w.heap.size + 1) (by simp) base (by omega))
          have HT := hid (HA.out.take hk)
          have HD := hid (HA.out.back hk)
          have htl : (l.take k).length = k := by rw [List.length_take]; have := HL.out; omega
          go_region_law (first
            | (refine step_append_led rfl _ _ 26 rfl HSa.out 0 rfl Try.underlying26 hi hz0 hz1 (by rw [hz2]; decide) rfl rfl rfl (HT.out.grow HSa.out.bl) (by simp; omega) (Nat.le_trans hb HSa.out.bl.size) ?_; intro A1 c1 w6 h6; simp only [List.length_nil, Nat.zero_add, List.nil_append] at h6; have h7 := hid (h6.blk_ w6.heap.size rfl 3 #[.int .i64 x]); have hx7 := hid (sees_one (h7.out.cell 0 0 rfl rfl)))
            | (refine step_append_led rfl _ _ 26 rfl HSb.out 1 rfl Try.underlying26 hi hz0 hz1 (by rw [hz2]; decide) rfl rfl rfl (HT.out.grow HSb.out.bl) (by simp; omega) (Nat.le_trans hb HSb.out.bl.size) ?_; intro A1 c1 w6 h6; simp only [List.length_nil, Nat.zero_add, List.nil_append] at h6; have h7 := hid h6; have hx7 := hid (sees_one (h6.cell 0 0 rfl rfl)))
            | (refine step_append_led rfl _ _ 26 rfl HSc.out 0 rfl Try.underlying26 hi hz0 hz1 (by rw [hz2]; decide) rfl rfl rfl (HT.out.grow HSc.out.bl) (by simp; omega) (Nat.le_trans hb HSc.out.bl.size) ?_; intro A1 c1 w6 h6; simp only [List.length_nil, Nat.zero_add, List.nil_append] at h6; have h7 := hid h6; have hx7 := hid (sees_one (h6.cell 1 0 rfl rfl)))
            | (refine step_append_led rfl _ _ 26 rfl h7.out 1 rfl Try.underlying26 hi hz0 hz1 (by rw [hz2]; decide) rfl rfl rfl hx7.out (by omega) (Nat.le_trans hb h7.out.bl.size) ?_; intro A2 c2 w7 h8; rw [htl] at h8; have h9 := hid h8)
            | (refine step_append_led rfl _ _ 26 rfl h7.out 0 rfl Try.underlying26 hi hz0 hz1 (by rw [hz2]; decide) rfl rfl rfl hx7.out (by omega) (Nat.le_trans hb h7.out.bl.size) ?_; intro A2 c2 w7 h8; rw [htl] at h8; have h9 := hid h8)
            | (refine step_append_led rfl _ _ 26 rfl h9.out 1 rfl Try.underlying26 hi hz0 hz1 (by rw [hz2]; decide) rfl rfl rfl (HD.out.grow h9.out.bl) (by simp only [List.length_append, htl, List.length_singleton]; omega) (Nat.le_trans hb h9.out.bl.size) ?_; intro A3 c3 w8 h10)
            | (refine step_append_led rfl _ _ 26 rfl h9.out 0 rfl Try.underlying26 hi hz0 hz1 (by rw [hz2]; decide) rfl rfl rfl (HD.out.grow h9.out.bl) (by simp only [List.length_append, htl, List.length_singleton]; omega) (Nat.le_trans hb h9.out.bl.size) ?_; intro A3 c3 w8 h10))
          all_goals
            go_wp2
            go_ret
            have hv : Hid (Owns elInt w8 base 3 (.slice A3 (k + 1 + (n - k)) c3) (putL l x)) := by
              rw [show (l.take k ++ [x]).length + (n - k) = k + 1 + (n - k) from by rw [List.length_append, htl]; rfl] at h10
              rw [HP2.out, show l.take k ++ x :: l.drop k = l.take k ++ [x] ++ l.drop k from by simp]; first | exact h10.own 1 rfl | exact h10.own 0 rfl
            exact ⟨.slice A3 (k + 1 + (n - k)) c3, rfl, hv.out, h10.bl⟩
    · have HP := hid (putL_at (by have := HL.out; omega) hno (fun z hz => by rw [List.getElem?_eq_none (by have := HL.out; omega)] at hz; cases hz))
      have HP2 : Hid (putL l x = l.take k ++ x :: l.drop k) := by
        have := HP.out
        rw [if_neg (by rw [List.getElem?_eq_none (by have := HL.out; omega)]; intro e; cases e)] at this; exact this
      obtain rfl : k = n := by omega
      clear HP hno
      have HT := hid (HA.out.take hk)
      have htl : (l.take k).length = k := by rw [List.length_take]; have := HL.out; omega
      have HSa := hid (((Led.nil w).step (Cls.drew w)).empty elInt 3 w.heap.size rfl base hb)
      have HSb := hid (HSa.out.blk_ (w.heap.size + 1) (by simp) 3 #[.int .i64 x])
      have HSc := hid ((((Led.nil w).step (Cls.drew w)).blk_ w.heap.size rfl 3 #[.int .i64 x]).empty elInt 3 (w.heap.size + 1) (by simp) base (by omega))
      have hAc : (A = none ∧ k = 0 ∧ c = 0) ∨ ∃ g, A = some ⟨g, 0, none⟩ := by
        rcases Owns.cases HO.out with ⟨h, _⟩ | ⟨g, _, _, h, _⟩
        · injection h with e1 e2 e3; exact .inl ⟨e1, e2, e3⟩
        · injection h with e1 _ _; exact .inr ⟨g, e1⟩
      have hkc : k ≤ c := by
        obtain ⟨_, _, e, h1, _⟩ := HO.out.form
        injection e with _ e2 e3
        have := HL.out
        omega
      rcases hAc with ⟨rfl, hk0, hc0⟩ | ⟨g, rfl⟩
      · have hck : c = k := by omega
        clear hk0 hc0
        go_wp2_with fail
        go_region_law (first
          | (refine step_append_led rfl _ _ 26 rfl HSa.out 0 rfl Try.underlying26 hi hz0 hz1 (by rw [hz2]; decide) rfl rfl rfl (HT.out.grow HSa.out.bl) (by simp; omega) (Nat.le_trans hb HSa.out.bl.size) ?_; intro A1 c1 w6 h6; simp only [List.length_nil, Nat.zero_add, List.nil_append] at h6; have h7 := hid (h6.blk_ w6.heap.size rfl 3 #[.int .i64 x]); have hx7 := hid (sees_one (h7.out.cell 0 0 rfl rfl)))
          | (refine step_append_led rfl _ _ 26 rfl HSb.out 1 rfl Try.underlying26 hi hz0 hz1 (by rw [hz2]; decide) rfl rfl rfl (HT.out.grow HSb.out.bl) (by simp; omega) (Nat.le_trans hb HSb.out.bl.size) ?_; intro A1 c1 w6 h6; simp only [List.length_nil, Nat.zero_add, List.nil_append] at h6; have h7 := hid h6; have hx7 := hid (sees_one (h6.cell 0 0 rfl rfl)))
          | (refine step_append_led rfl _ _ 26 rfl HSc.out 0 rfl Try.underlying26 hi hz0 hz1 (by rw [hz2]; decide) rfl rfl rfl (HT.out.grow HSc.out.bl) (by simp; omega) (Nat.le_trans hb HSc.out.bl.size) ?_; intro A1 c1 w6 h6; simp only [List.length_nil, Nat.zero_add, List.nil_append] at h6; have h7 := hid h6; have hx7 := hid (sees_one (h6.cell 1 0 rfl rfl)))
          | (refine step_append_led rfl _ _ 26 rfl h7.out 1 rfl Try.underlying26 hi hz0 hz1 (by rw [hz2]; decide) rfl rfl rfl hx7.out (by omega) (Nat.le_trans hb h7.out.bl.size) ?_; intro A2 c2 w7 h8; rw [htl] at h8; have h9 := hid h8)
          | (refine step_append_led rfl _ _ 26 rfl h7.out 0 rfl Try.underlying26 hi hz0 hz1 (by rw [hz2]; decide) rfl rfl rfl hx7.out (by omega) (Nat.le_trans hb h7.out.bl.size) ?_; intro A2 c2 w7 h8; rw [htl] at h8; have h9 := hid h8)
          | (refine step_append_led rfl _ _ 26 rfl h9.out 1 rfl Try.underlying26 hi hz0 hz1 (by rw [hz2]; decide) rfl rfl rfl (Sees.nil elInt _ 0 _) (by simp only [List.length_append, htl, List.length_singleton]; omega) (Nat.le_trans hb h9.out.bl.size) ?_; intro A3 c3 w8 h10)
          | (refine step_append_led rfl _ _ 26 rfl h9.out 0 rfl Try.underlying26 hi hz0 hz1 (by rw [hz2]; decide) rfl rfl rfl (Sees.nil elInt _ 0 _) (by simp only [List.length_append, htl, List.length_singleton]; omega) (Nat.le_trans hb h9.out.bl.size) ?_; intro A3 c3 w8 h10))
        all_goals
          go_wp2
          go_ret
          have hv : Hid (Owns elInt w8 base 3 (.slice A3 (k + 1) c3) (putL l x)) := by
            rw [show (l.take k ++ [x]).length + 0 = k + 1 from by rw [List.length_append, htl]; rfl] at h10
            rw [HP2.out, show l.take k ++ x :: l.drop k = l.take k ++ [x] ++ [] from by rw [List.drop_eq_nil_of_le (by have := HL.out; omega)]; simp]; first | exact h10.own 1 rfl | exact h10.own 0 rfl
          exact ⟨.slice A3 (k + 1) c3, rfl, hv.out, h10.bl⟩
      · by_cases hck : c = k
        · go_wp2_with fail
          go_region_law (first
            | (refine step_append_led rfl _ _ 26 rfl HSa.out 0 rfl Try.underlying26 hi hz0 hz1 (by rw [hz2]; decide) rfl rfl rfl (HT.out.grow HSa.out.bl) (by simp; omega) (Nat.le_trans hb HSa.out.bl.size) ?_; intro A1 c1 w6 h6; simp only [List.length_nil, Nat.zero_add, List.nil_append] at h6; have h7 := hid (h6.blk_ w6.heap.size rfl 3 #[.int .i64 x]); have hx7 := hid (sees_one (h7.out.cell 0 0 rfl rfl)))
            | (refine step_append_led rfl _ _ 26 rfl HSb.out 1 rfl Try.underlying26 hi hz0 hz1 (by rw [hz2]; decide) rfl rfl rfl (HT.out.grow HSb.out.bl) (by simp; omega) (Nat.le_trans hb HSb.out.bl.size) ?_; intro A1 c1 w6 h6; simp only [List.length_nil, Nat.zero_add, List.nil_append] at h6; have h7 := hid h6; have hx7 := hid (sees_one (h6.cell 0 0 rfl rfl)))
            | (refine step_append_led rfl _ _ 26 rfl HSc.out 0 rfl Try.underlying26 hi hz0 hz1 (by rw [hz2]; decide) rfl rfl rfl (HT.out.grow HSc.out.bl) (by simp; omega) (Nat.le_trans hb HSc.out.bl.size) ?_; intro A1 c1 w6 h6; simp only [List.length_nil, Nat.zero_add, List.nil_append] at h6; have h7 := hid h6; have hx7 := hid (sees_one (h6.cell 1 0 rfl rfl)))
            | (refine step_append_led rfl _ _ 26 rfl h7.out 1 rfl Try.underlying26 hi hz0 hz1 (by rw [hz2]; decide) rfl rfl rfl hx7.out (by omega) (Nat.le_trans hb h7.out.bl.size) ?_; intro A2 c2 w7 h8; rw [htl] at h8; have h9 := hid h8)
            | (refine step_append_led rfl _ _ 26 rfl h7.out 0 rfl Try.underlying26 hi hz0 hz1 (by rw [hz2]; decide) rfl rfl rfl hx7.out (by omega) (Nat.le_trans hb h7.out.bl.size) ?_; intro A2 c2 w7 h8; rw [htl] at h8; have h9 := hid h8)
            | (refine step_append_led rfl _ _ 26 rfl h9.out 1 rfl Try.underlying26 hi hz0 hz1 (by rw [hz2]; decide) rfl rfl rfl (Sees.nil elInt _ 0 _) (by simp only [List.length_append, htl, List.length_singleton]; omega) (Nat.le_trans hb h9.out.bl.size) ?_; intro A3 c3 w8 h10)
            | (refine step_append_led rfl _ _ 26 rfl h9.out 0 rfl Try.underlying26 hi hz0 hz1 (by rw [hz2]; decide) rfl rfl rfl (Sees.nil elInt _ 0 _) (by simp only [List.length_append, htl, List.length_singleton]; omega) (Nat.le_trans hb h9.out.bl.size) ?_; intro A3 c3 w8 h10))
          all_goals
            go_wp2
            go_ret
            have hv : Hid (Owns elInt w8 base 3 (.slice A3 (k + 1) c3) (putL l x)) := by
              rw [show (l.take k ++ [x]).length + 0 = k + 1 from by rw [List.length_append, htl]; rfl] at h10
              rw [HP2.out, show l.take k ++ x :: l.drop k = l.take k ++ [x] ++ [] from by rw [List.drop_eq_nil_of_le (by have := HL.out; omega)]; simp]; first | exact h10.own 1 rfl | exact h10.own 0 rfl
            exact ⟨.slice A3 (k + 1) c3, rfl, hv.out, h10.bl⟩
        · go_wp2_with fail
          go_region_law (first
            | (refine step_append_led rfl _ _ 26 rfl HSa.out 0 rfl Try.underlying26 hi hz0 hz1 (by rw [hz2]; decide) rfl rfl rfl (HT.out.grow HSa.out.bl) (by simp; omega) (Nat.le_trans hb HSa.out.bl.size) ?_; intro A1 c1 w6 h6; simp only [List.length_nil, Nat.zero_add, List.nil_append] at h6; have h7 := hid (h6.blk_ w6.heap.size rfl 3 #[.int .i64 x]); have hx7 := hid (sees_one (h7.out.cell 0 0 rfl rfl)))
            | (refine step_append_led rfl _ _ 26 rfl HSb.out 1 rfl Try.underlying26 hi hz0 hz1 (by rw [hz2]; decide) rfl rfl rfl (HT.out.grow HSb.out.bl) (by simp; omega) (Nat.le_trans hb HSb.out.bl.size) ?_; intro A1 c1 w6 h6; simp only [List.length_nil, Nat.zero_add, List.nil_append] at h6; have h7 := hid h6; have hx7 := hid (sees_one (h6.cell 0 0 rfl rfl)))
            | (refine step_append_led rfl _ _ 26 rfl HSc.out 0 rfl Try.underlying26 hi hz0 hz1 (by rw [hz2]; decide) rfl rfl rfl (HT.out.grow HSc.out.bl) (by simp; omega) (Nat.le_trans hb HSc.out.bl.size) ?_; intro A1 c1 w6 h6; simp only [List.length_nil, Nat.zero_add, List.nil_append] at h6; have h7 := hid h6; have hx7 := hid (sees_one (h6.cell 1 0 rfl rfl)))
            | (refine step_append_led rfl _ _ 26 rfl h7.out 1 rfl Try.underlying26 hi hz0 hz1 (by rw [hz2]; decide) rfl rfl rfl hx7.out (by omega) (Nat.le_trans hb h7.out.bl.size) ?_; intro A2 c2 w7 h8; rw [htl] at h8; have h9 := hid h8)
            | (refine step_append_led rfl _ _ 26 rfl h7.out 0 rfl Try.underlying26 hi hz0 hz1 (by rw [hz2]; decide) rfl rfl rfl hx7.out (by omega) (Nat.le_trans hb h7.out.bl.size) ?_; intro A2 c2 w7 h8; rw [htl] at h8; have h9 := hid h8)
            | (refine step_append_led rfl _ _ 26 rfl h9.out 1 rfl Try.underlying26 hi hz0 hz1 (by rw [hz2]; decide) rfl rfl rfl (Sees.nil elInt _ 0 _) (by simp only [List.length_append, htl, List.length_singleton]; omega) (Nat.le_trans hb h9.out.bl.size) ?_; intro A3 c3 w8 h10)
            | (refine step_append_led rfl _ _ 26 rfl h9.out 0 rfl Try.underlying26 hi hz0 hz1 (by rw [hz2]; decide) rfl rfl rfl (Sees.nil elInt _ 0 _) (by simp only [List.length_append, htl, List.length_singleton]; omega) (Nat.le_trans hb h9.out.bl.size) ?_; intro A3 c3 w8 h10))
          all_goals
            go_wp2
            go_ret
            have hv : Hid (Owns elInt w8 base 3 (.slice A3 (k + 1) c3) (putL l x)) := by
              rw [show (l.take k ++ [x]).length + 0 = k + 1 from by rw [List.length_append, htl]; rfl] at h10
              rw [HP2.out, show l.take k ++ x :: l.drop k = l.take k ++ [x] ++ [] from by rw [List.drop_eq_nil_of_le (by have := HL.out; omega)]; simp]; first | exact h10.own 1 rfl | exact h10.own 0 rfl
            exact ⟨.slice A3 (k + 1) c3, rfl, hv.out, h10.bl⟩
end
end Go.Proofs.Ytndmffmbkcagmaa
/- What l1Put makes of two lists, number by number. Conditions: none. -/
namespace Go.Proofs.Ytndmffmbkcagmaa
open Go.RowKit
theorem putL_len : ∀ {l : List Int} {n : Int}, (putL l n).length ≤ l.length + 1
  | [], n => by simp [putL]
  | x :: l, n => by
    have := putL_len (l := l) (n := n)
    unfold putL
    split
    · simp; omega
    · split <;> simp
/-- Those of the first k numbers of a that b has, each put to its place. -/
def putTo (a b : List Int) (k : Nat) : List Int := (comTo a b k).foldl putL []
theorem putTo_zero (a b : List Int) : putTo a b 0 = [] := by unfold putTo; rw [comTo_zero]; rfl
theorem putTo_yes {a b : List Int} {k : Nat} {x : Int} (hx : a[k]? = some x) (h : hasB b x = true) : putTo a b (k + 1) = putL (putTo a b k) x := by
  unfold putTo; rw [comTo_yes hx h, List.foldl_append]; rfl
theorem putTo_no {a b : List Int} {k : Nat} {x : Int} (hx : a[k]? = some x) (h : hasB b x = false) : putTo a b (k + 1) = putTo a b k := by
  unfold putTo; rw [comTo_no hx h]
theorem put_fold : ∀ (m l : List Int), ascL l → ascL (m.foldl putL l) ∧ (∀ x, x ∈ m.foldl putL l ↔ x ∈ l ∨ x ∈ m) ∧ (m.foldl putL l).length ≤ l.length + m.length
  | [], l, h => ⟨h, fun x => by simp, by simp⟩
  | y :: m, l, h => by
    obtain ⟨h1, h2, h3⟩ := put_fold m (putL l y) (putL_asc h)
    refine ⟨h1, fun x => ?_, ?_⟩
    · rw [List.foldl_cons, h2, putL_mem, List.mem_cons, or_assoc]
    · have := putL_len (l := l) (n := y)
      simp at h3 ⊢; omega
theorem asc_nil : ascL [] := List.Pairwise.nil
theorem putTo_len (a b : List Int) (k : Nat) : (putTo a b k).length ≤ k := by
  have h := (put_fold (comTo a b k) [] asc_nil).2.2
  have := comTo_len a b k
  unfold putTo; simp at h; omega
theorem putTo_all {a b : List Int} {n : Nat} (h : a.length = n) : putTo a b n = comL a b := by
  obtain ⟨h1, h2, _⟩ := put_fold (comTo a b n) [] asc_nil
  obtain ⟨c1, c2⟩ := comL_asc a b
  refine asc_ext h1 c1 fun x => ?_
  show x ∈ (comTo a b n).foldl putL [] ↔ _
  rw [h2, c2]
  unfold comTo
  rw [List.take_of_length_le (by omega), List.mem_filter, hasB_iff]
  simp
end Go.Proofs.Ytndmffmbkcagmaa
/- SharedFibers of the reference, walked. Conditions: none. -/
namespace Go.Proofs.Ytndmffmbkcagmaa
open Go.RowKit
theorem Owns.split {α : Type} {E : El α} {w : World} {base : Nat} {e : TypeId} {v : Value} {xs : List α} (h : Owns E w base e v xs) : ∃ A c, v = .slice A xs.length c := by
  obtain ⟨A, c, hv, _⟩ := h.form
  exact ⟨A, c, hv⟩
section
variable {n c m d er eq : Nat} {A A' R Q : Option Addr} {xs : List ByteArray} {fs : List Fib} {ids jds : List Int} {s t : Int}
set_option maxHeartbeats 2000000 in
set_option maxRecDepth 100000 in
theorem specShared (w : World) (h : NetIs w A n c A' m d xs fs) (hr : RtIs w R ids.length er ids) (hq : RtIs w Q jds.length eq jds) :
    Calls Try.prog 23 #[.agg #[.slice A n c, .slice A' m d], .agg #[.int .i64 s, .slice R ids.length er], .agg #[.int .i64 t, .slice Q jds.length eq]] w fun e w' => ∃ v, e = .returned (.tuple #[v, .bool (shB xs fs s ids t jds)]) ∧ Owns elInt w' w.heap.size 3 v (shL xs fs s ids t jds) ∧ Below w.heap.size w w' := by
  have hS := ((((Led.nil w).blk_ w.heap.size rfl 36 #[.slice A n c, .slice A' m d]).blk_ (w.heap.size + 1) (by simp) 31 #[.int .i64 s, .slice R ids.length er]).blk_ (w.heap.size + 1 + 1) (by simp) 31 #[.int .i64 t, .slice Q jds.length eq]).empty elInt 3 (w.heap.size + 1 + 1 + 1) (by simp) w.heap.size (by omega)
  have HB : Hid (shB xs fs s ids t jds = (routeB xs fs s ids && routeB xs fs t jds)) := rfl
  cases g : routeB xs fs s ids
  · have H : Hid (shL xs fs s ids t jds = []) := by unfold Hid shL shB; rw [g]; rfl
    rw [HB.out, g]
    go_enter Try.func23, Try.ntmps23
    go_wp2_with fail
    refine (l4Good_any s _ (h.grow hS.bl) (hr.grow hS.bl)).mono ?_
    rintro e w1 ⟨rfl, hb⟩
    replace hS := hS.step hb
    clear hb
    rw [g]
    have q0 := hS.cell 3 0 rfl rfl
    have q1 := hS.cell 3 1 rfl rfl
    have q2 := hS.cell 1 0 rfl rfl
    have q3 := hS.cell 1 1 rfl rfl
    have HS := hid hS
    clear hS
    go_wp2_with fail
    go_ret2
    exact ⟨_, rfl, by rw [H.out]; exact HS.out.own 0 rfl, HS.out.bl⟩
  · cases g2 : routeB xs fs t jds
    · have H : Hid (shL xs fs s ids t jds = []) := by unfold Hid shL shB; rw [g, g2]; rfl
      rw [HB.out, g, g2]
      go_enter Try.func23, Try.ntmps23
      go_wp2_with fail
      refine (l4Good_any s _ (h.grow hS.bl) (hr.grow hS.bl)).mono ?_
      rintro e w1 ⟨rfl, hb⟩
      replace hS := hS.step hb
      clear hb
      rw [g]
      have q0 := hS.cell 3 0 rfl rfl
      have q1 := hS.cell 3 1 rfl rfl
      have q2 := hS.cell 1 0 rfl rfl
      have q3 := hS.cell 1 1 rfl rfl
      go_wp2_with fail
      refine (l4Good_any t _ (h.grow hS.bl) (hq.grow hS.bl)).mono ?_
      rintro e w2 ⟨rfl, hb⟩
      replace hS := hS.step hb
      clear hb
      rw [g2]
      have HS := hid hS
      clear hS
      go_wp2_with fail
      go_ret2
      exact ⟨_, rfl, by rw [H.out]; exact HS.out.own 0 rfl, HS.out.bl⟩
    · have H : Hid (shL xs fs s ids t jds = comL ids jds) := by unfold Hid shL shB; rw [g, g2]; rfl
      rw [HB.out, g, g2]
      go_enter Try.func23, Try.ntmps23
      go_wp2_with fail
      refine (l4Good_any s _ (h.grow hS.bl) (hr.grow hS.bl)).mono ?_
      rintro e w1 ⟨rfl, hb⟩
      replace hS := hS.step hb
      clear hb
      rw [g]
      have q0 := hS.cell 3 0 rfl rfl
      have q1 := hS.cell 3 1 rfl rfl
      have q2 := hS.cell 1 0 rfl rfl
      have q3 := hS.cell 1 1 rfl rfl
      go_wp2_with fail
      refine (l4Good_any t _ (h.grow hS.bl) (hq.grow hS.bl)).mono ?_
      rintro e w2 ⟨rfl, hb⟩
      replace hS := hS.step hb
      clear hb
      rw [g2]
      clear q0 q1 q2 q3
      have HS := hid (hS.drop 1)
      have HO := hid (hS.own 0 rfl)
      rw [← putTo_zero ids jds] at HO
      dsimp only [List.drop] at HS
      clear hS
      have hLn := hr.le
      have HQn := hid hq.le
      go_wp2_with fail
      go_loopw [8, 9] (fun v i wr => ∃ k : Nat, k ≤ ids.length ∧ i = .int .i64 k ∧ Hid (Led w wr [tBlk (w.heap.size + 1 + 1) 31 #[.int .i64 t, .slice Q jds.length eq], tBlk (w.heap.size + 1) 31 #[.int .i64 s, .slice R ids.length er], tBlk w.heap.size 36 #[.slice A n c, .slice A' m d]]) ∧ Hid (Owns elInt wr w.heap.size 3 v (putTo ids jds k))) (fun _ i _ => ids.length - (intOf i).toNat)
      case atStart => exact ⟨0, Nat.zero_le _, rfl, HS, HO⟩
      case round =>
        clear HS HO
        obtain ⟨k, hk, rfl, HS, HO⟩ := hrel
        have q2 := HS.out.cell 1 1 rfl rfl
        by_cases hlt : k < ids.length
        · have HR := hid hr
          have HQ := hid hq
          clear hr hq
          obtain ⟨b, o, rfl, _, hx⟩ := HR.out.2.at_ hlt
          obtain ⟨x, hxk⟩ := get_of (k := k) rfl hlt
          have f0 := bl_cell HS.out.bl (hx k x hxk 0 _ rfl)
          simp only [elInt, Nat.mul_one, Nat.add_zero] at f0
          have T0 : ∀ w', Cls wr w' → w'.cell? ⟨b, o + k, none⟩ = some (.int .i64 x) := fun _ h => h.cell f0
          have C0 : ∀ w', Cls wr w' → w'.cell? ⟨w.heap.size + 1, 1, none⟩ = some (.slice (some ⟨b, o, none⟩) ids.length er) := fun _ h => h.cell q2
          have C1 : ∀ w', Cls wr w' → w'.cell? ⟨w.heap.size + 1 + 1, 1, none⟩ = some (.slice Q jds.length eq) := fun _ h => h.cell (HS.out.cell 0 1 rfl rfl)
          have iz : (k : Int) < (ids.length : Int) := by omega
          have HX := hid hxk
          have HQ2 := hid (HQ.out.grow HS.out.bl)
          have hll := putTo_len ids jds k
          clear hx hxk
          go_wp2_with fail
          refine region_cls (by kernel_rfl) (by kernel_rfl) ?_
          repeat (first
            | ((with_reducible refine quiet_pos ?_ (fun K hK => ?_))
               · rfl
               apply Exists.intro
               refine ⟨fun w' hw' => ?_, ?_⟩
               · go_simp
                 first
                   | with_reducible rfl
                   | (go_at_call 59; exact hw'.same (l1Has_any _ _ (HQ2.out.2.grow hw') (by have := HQn.out; unfold maxLen; omega)))
               simp only [Act.put, List.setIfInBounds_toArray, List.set_cons_zero, List.set_cons_succ]
               refine hK _ ?_; clear hK K)
            | ((with_reducible refine quiet_neg ?_ (fun K hK => ?_))
               · rfl
               simp only [Act.put, List.setIfInBounds_toArray, List.set_cons_zero, List.set_cons_succ]
               refine hK _ ?_; clear hK K))
          with_reducible refine wpQuiet_nil ?_
          intro wz hwz'
          have HS2 := hid (HS.out.step hwz')
          have HO2 := hid (HO.out.below hwz')
          have f1 := bl_cell hwz' f0
          clear HS HO f0 q2 T0 C0 C1
          cases gk : hasB jds x
          · have HN := hid (putTo_no HX.out gk)
            clear HX
            go_wp2
            exact ⟨⟨k + 1, by omega, by go_num, HS2, by rw [HN.out]; exact HO2⟩, by simp [intOf]; omega⟩
          · have HN := hid (putTo_yes HX.out gk)
            obtain ⟨A1, c1, rfl⟩ := HO2.out.split
            have q3 := HS2.out.cell 1 1 rfl rfl
            clear HX
            go_wp2_with fail
            refine (l1Put_any x _ HO2.out rfl HS2.out.bl.size (by omega)).mono ?_
            rintro e w5 ⟨v5, rfl, ho5, hb5⟩
            have HS3 := hid (HS2.out.step hb5)
            have HO3 := hid ho5
            clear HS2 HO2 hb5 ho5
            go_wp2
            go_roundw
            case rel => exact ⟨k + 1, by omega, by go_num, HS3, by rw [HN.out]; exact HO3⟩
            case measure => simp [intOf]; omega
        · have hkn : k = ids.length := by omega
          subst hkn
          have HE := hid (putTo_all (a := ids) (b := jds) rfl)
          clear hlt
          go_wp2
          go_ret2
          exact ⟨_, rfl, by rw [H.out, ← HE.out]; exact HO.out, HS.out.bl⟩
theorem asc_len {l : List Int} {n : Nat} (h : ascL l) (hb : ∀ x ∈ l, 0 ≤ x ∧ x < n) : l.length ≤ n :=
  nodup_bd n l (List.Pairwise.imp (fun {a b} (h : a < b) => by omega) h) hb
theorem shL_len : (shL xs fs s ids t jds).length ≤ 1048576 := by
  unfold shL
  cases g : shB xs fs s ids t jds
  · simp
  · rw [if_pos rfl]
    unfold shB at g
    rw [Bool.and_eq_true] at g
    have h1 := rtB_mem (routeB_good g.1).2
    have hm := (goodB_bd (routeB_good g.1).1).2.2
    obtain ⟨c1, c2⟩ := comL_asc ids jds
    have := asc_len (n := fs.length) c1 (fun x hx => h1 x ((c2 x).1 hx).1)
    omega
end
end Go.Proofs.Ytndmffmbkcagmaa
/- Routes in the ledger: equal, marked, held. Conditions: at most 1048576 fibers; marks below 2^40. -/
namespace Go.Proofs.Ytndmffmbkcagmaa
open Go.RowKit
variable {w0 : World} {L : List Thing} {base base' c c' : Nat} {A A' : Option Addr} {ids : List Int}
set_option maxHeartbeats 1000000 in
set_option maxRecDepth 100000 in
theorem markR_led {w : World} (h : Led w0 w L) (i : Nat) (hi : L[i]? = some (tOwns elInt base 3 (.slice A ids.length c) ids)) (s k : Int) (hn : ids.length ≤ 1048576) (hk0 : 0 ≤ k) (hk : k ≤ 1099511627776) :
    Calls Try.prog 19 #[.agg #[.int .i64 s, .slice A ids.length c], .int .i64 k] w fun e w' => e = .returned (.int .i64 (k + ids.length)) ∧ Led w0 w' (L.set i (tOwns elInt base 3 (.slice A ids.length c) (marks k ids.length))) := by
  have h0 := h.blk 31 #[.int .i64 s, .slice A ids.length c]
  go_enter Try.func19, Try.ntmps19
  go_wp2_with fail
  refine (markI_led h0 (i + 1) (by simpa using hi) k hn hk0 hk).mono ?_
  rintro e w1 ⟨rfl, h1⟩
  have h2 : Led w0 w1 (L.set i (tOwns elInt base 3 (.slice A ids.length c) (marks k ids.length))) := h1.drop 1
  go_wp2_with fail
  go_ret
  exact ⟨rfl, h2⟩
set_option maxHeartbeats 1000000 in
set_option maxRecDepth 100000 in
theorem heldR_led {w : World} (h : Led w0 w L) (i : Nat) (s k : Int) {n : Nat} (hi : L[i]? = some (tOwns elInt base 3 (.slice A n c) (marks k n))) (hn : n ≤ 1048576) (hk0 : 0 ≤ k) (hk : k ≤ 1099511627776) :
    Calls Try.prog 20 #[.agg #[.int .i64 s, .slice A n c], .int .i64 k] w fun e w' => e = .returned (.int .i64 (k + n)) ∧ Led w0 w' L := by
  have h0 := h.blk 31 #[.int .i64 s, .slice A n c]
  go_enter Try.func20, Try.ntmps20
  go_wp2_with fail
  refine (heldI_led h0 (i + 1) k (by simpa using hi) hn hk0 hk).mono ?_
  rintro e w1 ⟨rfl, h1⟩
  have h2 : Led w0 w1 L := h1.drop 1
  go_wp2_with fail
  go_ret
  exact ⟨rfl, h2⟩
theorem eqR_led2 {w : World} (h : Led w0 w L) (i j : Nat) (hi : L[i]? = some (tOwns elInt base 3 (.slice A ids.length c) ids)) (hj : L[j]? = some (tOwns elInt base' 3 (.slice A' ids.length c') ids)) (s : Int) (hn : ids.length ≤ 1048576) :
    Calls Try.prog 16 #[.agg #[.int .i64 s, .slice A ids.length c], .agg #[.int .i64 s, .slice A' ids.length c']] w fun e w' => e = .returned (.bool true) ∧ Led w0 w' L ∧ Below w.heap.size w w' :=
  (eqRoute_any s w (h.seesI i hi) (h.seesI j hj) hn).mono fun _ _ ⟨he, hw⟩ => ⟨he, h.step hw, hw⟩
theorem eqR_led {w : World} (h : Led w0 w L) (i j : Nat) (hi : L[i]? = some (tOwns elInt base 3 (.slice A ids.length c) ids)) (hj : L[j]? = some (tOwns elInt base' 3 (.slice A' ids.length c') ids)) (s : Int) (hn : ids.length ≤ 1048576) :
    Calls Try.prog 16 #[.agg #[.int .i64 s, .slice A ids.length c], .agg #[.int .i64 s, .slice A' ids.length c']] w fun e w' => e = .returned (.bool true) ∧ Led w0 w' L :=
  (eqR_led2 h i j hi hj s hn).mono fun _ _ ⟨he, hw, _⟩ => ⟨he, hw⟩
end Go.Proofs.Ytndmffmbkcagmaa
/- A route that came in. Conditions: none. -/
namespace Go.Proofs.Ytndmffmbkcagmaa
open Go.ChangeShapes Go.WideShapes Go.ChangeAt Go.RowKit Go.Deep Go.Joins
section
variable {H : Type} {enc : TypeId × Value → H} {W : World} {spare : Nat → Bool} {held : Bool}
theorem cellsR : Try.prog.cellsOf 28 = 2 := by kernel_rfl
/-- A route that came in. -/
def RouteArg (W : World) (s : Int) (A : Option Addr) (n c : Nat) (xs : List Int) : Prop := (-9223372036854775808 ≤ s ∧ s ≤ 9223372036854775807) ∧ IntsArg W A n c xs
set_option maxRecDepth 100000 in
theorem open_route {base : Nat} {v : Value} {d : DataW H} {p : List MemPlace} (hv : Value.okWide Try.prog W .any base 28 v) (h : DataW.Trod enc Try.prog W 0 spare held 28 v d p) :
    ∃ s A n c xs, v = .agg #[.int .i64 s, .slice A n c] ∧ RouteArg W s A n c xs := by
  obtain ⟨v0, v1, y0, y1, k, rfl, _, _, h0, h1⟩ := open_agg2 Try.underlying28 (by kernel_rfl) cellsR hv h
  obtain ⟨s, e0, hs⟩ := el_int Try.underlying3 _ _ _ h0
  obtain ⟨A, n, c, xs, e1, b1, b2, b3, b4⟩ := open_sl elInt _ Try.underlying26 cellsI (el_int Try.underlying3) h1
  simp [elInt] at e0 e1
  exact ⟨s, A, n, c, xs, by rw [e0, e1], hs, ⟨b1, b2, b3, b4⟩⟩
end
end Go.Proofs.Ytndmffmbkcagmaa
/- FnExactSharedFibers, walked. Conditions: none. -/
namespace Go.Proofs.Ytndmffmbkcagmaa.fnExactSharedFibers
open Go.RowKit
set_option maxHeartbeats 2000000 in
set_option maxRecDepth 100000 in
theorem walk (w : World) {A0 E0 : Option Addr} {n0 c0 m0 d0 : Nat} {xs0 : List ByteArray} {fs0 : List Fib} (h0 : NetArg w A0 n0 c0 E0 m0 d0 xs0 fs0) {s1 : Int} {A1 : Option Addr} {k1 c1 : Nat} {l1 : List Int} (h1 : RouteArg w s1 A1 k1 c1 l1) {s2 : Int} {A2 : Option Addr} {k2 c2 : Nat} {l2 : List Int} (h2 : RouteArg w s2 A2 k2 c2 l2) :
    Calls Try.prog 5 #[.agg #[.slice A0 n0 c0, .slice E0 m0 d0], .agg #[.int .i64 s1, .slice A1 k1 c1], .agg #[.int .i64 s2, .slice A2 k2 c2]] w fun e w' => e = .returned (.bool true) ∧ Below w.heap.size w w' := by
  obtain ⟨⟨h0nc, h0cm, h0A, h0x⟩, ⟨h0md, h0dm, h0F, _⟩⟩ := h0
  obtain ⟨_, h1nc, h1cm, h1A, _⟩ := h1
  obtain rfl := h1A.len
  obtain ⟨_, h2nc, h2cm, h2A, _⟩ := h2
  obtain rfl := h2A.len
  have hS := Led.nil w
  replace hS := hS.blk_ (w.heap.size) (by simp) 25 #[.slice A0 n0 c0, .slice E0 m0 d0]
  replace hS := hS.blk_ (w.heap.size + 1) (by simp) 28 #[.int .i64 s1, .slice A1 l1.length c1]
  replace hS := hS.blk_ (w.heap.size + 1 + 1) (by simp) 28 #[.int .i64 s2, .slice A2 l2.length c2]
  obtain ⟨r0, hr0⟩ : ∃ r, r = lessI 1048576 (netTot xs0 fs0) := ⟨_, rfl⟩
  have hlb0 := lessI_bd (left := 1048576) (t := (netTot xs0 fs0))
  rw [← hr0] at hlb0
  have HR0 := hid hr0
  clear hr0
  rcases hlb0 with ⟨hz0, _⟩ | ⟨hz0, hy0, hx0⟩
  case inl =>
    subst hz0
    go_enter Try.func5, Try.ntmps5
    go_wp2_with fail
    refine (szNetwork_any 1048576 _ (h0A.below hS.bl) (h0F.below hS.bl) hS.bl.size (by omega) (by omega) h0x (by omega) (by omega)).mono ?_
    rintro e W1 ⟨rfl, hb⟩; replace hS := hS.step hb; clear hb
    rw [← HR0.out]
    go_wp2_with fail
    go_ret
    exact ⟨rfl, hS.bl⟩
  have h0n : n0 ≤ 1048576 := by have := h0A.len; unfold netTot strTot at hx0; omega
  have h0m : m0 ≤ 1048576 := by have := h0F.len; unfold netTot strTot at hx0; omega
  have h0I := hid (show NetIs w A0 n0 c0 E0 m0 d0 xs0 fs0 from ⟨⟨h0nc, h0n⟩, ⟨h0md, h0m⟩, h0A, h0F, h0x⟩)
  clear hx0
  obtain ⟨r1, hr1⟩ : ∃ r, r = lessI r0 l1.length := ⟨_, rfl⟩
  have hlb1 := lessI_bd (left := r0) (t := l1.length)
  rw [← hr1] at hlb1
  have HR1 := hid hr1
  clear hr1
  rcases hlb1 with ⟨hz1, _⟩ | ⟨hz1, hy1, hx1⟩
  case inl =>
    subst hz1
    go_enter Try.func5, Try.ntmps5
    go_wp2_with fail
    refine (szNetwork_any 1048576 _ (h0A.below hS.bl) (h0F.below hS.bl) hS.bl.size (by omega) (by omega) h0x (by omega) (by omega)).mono ?_
    rintro e W1 ⟨rfl, hb⟩; replace hS := hS.step hb; clear hb
    rw [← HR0.out]
    have q0 := hS.cell 1 0 rfl rfl
    have q1 := hS.cell 1 1 rfl rfl
    go_wp2_with fail
    refine (szRoute_any s1 r0 _ (by omega) (by omega) (by omega)).mono ?_
    rintro e W2 ⟨rfl, hb⟩; replace hS := hS.step hb; clear hb
    rw [← HR1.out]
    clear q0 q1
    go_wp2_with fail
    go_ret
    exact ⟨rfl, hS.bl⟩
  have h1n : l1.length ≤ 1048576 := by omega
  have h1I := hid (show RtIs w A1 l1.length c1 l1 from ⟨⟨h1nc, h1n⟩, h1A⟩)
  clear hx1
  obtain ⟨r2, hr2⟩ : ∃ r, r = lessI r1 l2.length := ⟨_, rfl⟩
  have hlb2 := lessI_bd (left := r1) (t := l2.length)
  rw [← hr2] at hlb2
  have HR2 := hid hr2
  clear hr2
  rcases hlb2 with ⟨hz2, _⟩ | ⟨hz2, hy2, hx2⟩
  case inl =>
    subst hz2
    go_enter Try.func5, Try.ntmps5
    go_wp2_with fail
    refine (szNetwork_any 1048576 _ (h0A.below hS.bl) (h0F.below hS.bl) hS.bl.size (by omega) (by omega) h0x (by omega) (by omega)).mono ?_
    rintro e W1 ⟨rfl, hb⟩; replace hS := hS.step hb; clear hb
    rw [← HR0.out]
    have q0 := hS.cell 1 0 rfl rfl
    have q1 := hS.cell 1 1 rfl rfl
    go_wp2_with fail
    refine (szRoute_any s1 r0 _ (by omega) (by omega) (by omega)).mono ?_
    rintro e W2 ⟨rfl, hb⟩; replace hS := hS.step hb; clear hb
    rw [← HR1.out]
    clear q0 q1
    have q0 := hS.cell 0 0 rfl rfl
    have q1 := hS.cell 0 1 rfl rfl
    go_wp2_with fail
    refine (szRoute_any s2 r1 _ (by omega) (by omega) (by omega)).mono ?_
    rintro e W3 ⟨rfl, hb⟩; replace hS := hS.step hb; clear hb
    rw [← HR2.out]
    clear q0 q1
    go_wp2_with fail
    go_ret
    exact ⟨rfl, hS.bl⟩
  have h2n : l2.length ≤ 1048576 := by omega
  have h2I := hid (show RtIs w A2 l2.length c2 l2 from ⟨⟨h2nc, h2n⟩, h2A⟩)
  clear hx2
  go_enter Try.func5, Try.ntmps5
  go_wp2_with fail
  refine (szNetwork_any 1048576 _ (h0A.below hS.bl) (h0F.below hS.bl) hS.bl.size (by omega) (by omega) h0x (by omega) (by omega)).mono ?_
  rintro e W1 ⟨rfl, hb⟩; replace hS := hS.step hb; clear hb
  rw [← HR0.out]
  have q0 := hS.cell 1 0 rfl rfl
  have q1 := hS.cell 1 1 rfl rfl
  go_wp2_with fail
  refine (szRoute_any s1 r0 _ (by omega) (by omega) (by omega)).mono ?_
  rintro e W2 ⟨rfl, hb⟩; replace hS := hS.step hb; clear hb
  rw [← HR1.out]
  clear q0 q1
  have q0 := hS.cell 0 0 rfl rfl
  have q1 := hS.cell 0 1 rfl rfl
  go_wp2_with fail
  refine (szRoute_any s2 r1 _ (by omega) (by omega) (by omega)).mono ?_
  rintro e W3 ⟨rfl, hb⟩; replace hS := hS.step hb; clear hb
  rw [← HR2.out]
  clear q0 q1
  -- the reference
  have C0 : ∀ w', Cls W3 w' → w'.cell? ⟨w.heap.size, 0, none⟩ = some (.slice A0 n0 c0) := fun _ h => h.cell (hS.cell 2 0 rfl rfl)
  have C1 : ∀ w', Cls W3 w' → w'.cell? ⟨w.heap.size, 1, none⟩ = some (.slice E0 m0 d0) := fun _ h => h.cell (hS.cell 2 1 rfl rfl)
  have C2 : ∀ w', Cls W3 w' → w'.cell? ⟨w.heap.size + 1, 0, none⟩ = some (.int .i64 s1) := fun _ h => h.cell (hS.cell 1 0 rfl rfl)
  have C3 : ∀ w', Cls W3 w' → w'.cell? ⟨w.heap.size + 1, 1, none⟩ = some (.slice A1 l1.length c1) := fun _ h => h.cell (hS.cell 1 1 rfl rfl)
  have C4 : ∀ w', Cls W3 w' → w'.cell? ⟨w.heap.size + 1 + 1, 0, none⟩ = some (.int .i64 s2) := fun _ h => h.cell (hS.cell 0 0 rfl rfl)
  have C5 : ∀ w', Cls W3 w' → w'.cell? ⟨w.heap.size + 1 + 1, 1, none⟩ = some (.slice A2 l2.length c2) := fun _ h => h.cell (hS.cell 0 1 rfl rfl)
  have HL := hid (fun w' (h : Cls W3 w') => hS.step h)
  go_wp2_with fail
  go_region_held3 (fun w' => Cls W3 w') (first | exact Cls.drew _ | exact Cls.next (by assumption) (by assumption))
    (first
      | (go_at_call 13; refine (toNetwork_own _ (h0I.out.grow (HL.out _ (by assumption)).bl).strs (h0I.out.grow (HL.out _ (by assumption)).bl).fibs (Nat.le_refl _) h0n h0m).mono ?_; rintro e w' ⟨Aw0, cw0, Ew0, dw0, rfl, ho_w0, hb_w0⟩; have hLw0 := (HL.out _ (by assumption)).net hb_w0 ho_w0)
      | (go_at_call_of 14 (Value.slice A1 l1.length c1); refine (toRoute_any s1 _ (h1I.out.grow hLw0.bl).2 (Nat.le_refl _) h1n).mono ?_; rintro e w' ⟨Aw1, cw1, rfl, _, ho_w1, hb_w1⟩; have hLw1 := hLw0.owns hb_w1 ho_w1)
      | (go_at_call_of 14 (Value.slice A2 l2.length c2); refine (toRoute_any s2 _ (h2I.out.grow hLw1.bl).2 (Nat.le_refl _) h2n).mono ?_; rintro e w' ⟨Aw2, cw2, rfl, _, ho_w2, hb_w2⟩; have hLw2 := hLw1.owns hb_w2 ho_w2)
      | (go_at_call 23; refine (specShared _ (hLw2.netIs 2 rfl h0n h0m h0x) (hLw2.rt 1 rfl h1n) (hLw2.rt 0 rfl h2n)).mono ?_; rintro e w' ⟨vw0, rfl, ho0, hb⟩))
  have hS2 := hLw2
  clear HL C0 C1 C2 C3 C4 C5
  have hlen0 := hid ((shL_len : (shL xs0 fs0 s1 l1 s2 l2).length ≤ 1048576))
  generalize hL0 : shL xs0 fs0 s1 l1 s2 l2 = L0 at *
  obtain ⟨Aw0, cw0, rfl, _, _, _⟩ := ho0.form
  replace hS2 := hS2.owns hb ho0
  clear hS
  have hS := hS2
  clear hS2 hb hLw0 hb_w0 ho_w0 hLw1 hb_w1 ho_w1 hLw2 hb_w2 ho_w2 ho0
  generalize w' = W4 at *
  -- the program on copies that are kept
  have q0 := hS.cell 6 0 rfl rfl
  have q1 := hS.cell 6 1 rfl rfl
  go_wp2_with fail
  refine (toNetwork_own _ (h0I.out.grow hS.bl).strs (h0I.out.grow hS.bl).fibs (Nat.le_refl _) h0n h0m).mono ?_
  rintro e W5 ⟨Ax0, cx0, Ex0, dx0, rfl, ho, hb⟩
  replace hS := hS.net hb ho
  clear hb ho
  clear q0 q1
  replace hS := hS.blk_ (W5.heap.size) (by simp) 36 #[.slice Ax0 n0 cx0, .slice Ex0 m0 dx0]
  have q0 := hS.cell 7 0 rfl rfl
  have q1 := hS.cell 7 1 rfl rfl
  go_wp2_with fail
  refine (toRoute_any s1 _ (h1I.out.grow hS.bl).2 (Nat.le_refl _) h1n).mono ?_
  rintro e W6 ⟨Ax1, cx1, rfl, _, ho, hb⟩
  replace hS := hS.owns hb ho
  clear hb ho
  clear q0 q1
  replace hS := hS.blk_ (W6.heap.size) (by simp) 31 #[.int .i64 s1, .slice Ax1 l1.length cx1]
  have q0 := hS.cell 8 0 rfl rfl
  have q1 := hS.cell 8 1 rfl rfl
  go_wp2_with fail
  refine (toRoute_any s2 _ (h2I.out.grow hS.bl).2 (Nat.le_refl _) h2n).mono ?_
  rintro e W7 ⟨Ax2, cx2, rfl, _, ho, hb⟩
  replace hS := hS.owns hb ho
  clear hb ho
  clear q0 q1
  replace hS := hS.blk_ (W7.heap.size) (by simp) 31 #[.int .i64 s2, .slice Ax2 l2.length cx2]
  have q0 := hS.cell 4 0 rfl rfl
  have q1 := hS.cell 4 1 rfl rfl
  have q2 := hS.cell 2 0 rfl rfl
  have q3 := hS.cell 2 1 rfl rfl
  go_wp2_with fail
  refine (implShared _ (hS.netIs 5 rfl h0n h0m h0x) (hS.rt 3 rfl h1n) (hS.rt 1 rfl h2n)).mono ?_
  rintro e W8 ⟨vg0, rfl, ho0, hb⟩
  rw [hL0] at ho0
  obtain ⟨Ag0, cg0, rfl, _, _, _⟩ := ho0.form
  replace hS := hS.owns hb ho0
  clear hb ho0
  clear q0 q1 q2 q3
  -- the results are equal
  go_wp2_with fail
  refine (eqI_led hS 0 7 rfl rfl hlen0.out).mono ?_
  rintro e W9 ⟨rfl, hS1⟩; replace hS := hS1; clear hS1
  -- the arguments are as they were
  have C0 : ∀ w', Cls W9 w' → w'.cell? ⟨w.heap.size, 0, none⟩ = some (.slice A0 n0 c0) := fun _ h => h.cell (hS.cell 13 0 rfl rfl)
  have C1 : ∀ w', Cls W9 w' → w'.cell? ⟨w.heap.size, 1, none⟩ = some (.slice E0 m0 d0) := fun _ h => h.cell (hS.cell 13 1 rfl rfl)
  have C2 : ∀ w', Cls W9 w' → w'.cell? ⟨W5.heap.size, 0, none⟩ = some (.slice Ax0 n0 cx0) := fun _ h => h.cell (hS.cell 5 0 rfl rfl)
  have C3 : ∀ w', Cls W9 w' → w'.cell? ⟨W5.heap.size, 1, none⟩ = some (.slice Ex0 m0 dx0) := fun _ h => h.cell (hS.cell 5 1 rfl rfl)
  have HL := hid (fun w' (h : Cls W9 w') => hS.step h)
  go_wp2_with fail
  go_region_held3 (fun w' => Cls W9 w') (first | exact Cls.drew _ | exact Cls.next (by assumption) (by assumption))
    (first
      | (go_at_call 13; refine (toNetwork_own _ (h0I.out.grow (HL.out _ (by assumption)).bl).strs (h0I.out.grow (HL.out _ (by assumption)).bl).fibs (Nat.le_refl _) h0n h0m).mono ?_; rintro e w' ⟨Ay0, cy0, Ey0, dy0, rfl, ho1, hb1⟩; have hL1 := (HL.out _ (by assumption)).net hb1 ho1)
      | (go_at_call 17; refine (eqN_led2 hL1 7 0 rfl rfl h0n h0m).mono ?_; rintro e w' ⟨rfl, hS2, hb2⟩))
  clear HL hL1 ho1 hb1 hb2 C0 C1 C2 C3
  replace hS := hS2.drop 1
  clear hS2
  dsimp only [List.drop] at hS
  generalize w' = W10 at *
  have C0 : ∀ w', Cls W10 w' → w'.cell? ⟨w.heap.size + 1, 0, none⟩ = some (.int .i64 s1) := fun _ h => h.cell (hS.cell 12 0 rfl rfl)
  have C1 : ∀ w', Cls W10 w' → w'.cell? ⟨w.heap.size + 1, 1, none⟩ = some (.slice A1 l1.length c1) := fun _ h => h.cell (hS.cell 12 1 rfl rfl)
  have C2 : ∀ w', Cls W10 w' → w'.cell? ⟨W6.heap.size, 0, none⟩ = some (.int .i64 s1) := fun _ h => h.cell (hS.cell 3 0 rfl rfl)
  have C3 : ∀ w', Cls W10 w' → w'.cell? ⟨W6.heap.size, 1, none⟩ = some (.slice Ax1 l1.length cx1) := fun _ h => h.cell (hS.cell 3 1 rfl rfl)
  have HL := hid (fun w' (h : Cls W10 w') => hS.step h)
  go_wp2_with fail
  go_region_held3 (fun w' => Cls W10 w') (first | exact Cls.drew _ | exact Cls.next (by assumption) (by assumption))
    (first
      | (go_at_call 14; refine (toRoute_any s1 _ (h1I.out.grow (HL.out _ (by assumption)).bl).2 (Nat.le_refl _) h1n).mono ?_; rintro e w' ⟨Ay1, cy1, rfl, _, ho1, hb1⟩; have hL1 := (HL.out _ (by assumption)).owns hb1 ho1)
      | (go_at_call 16; refine (eqR_led2 hL1 5 0 rfl rfl s1 h1n).mono ?_; rintro e w' ⟨rfl, hS2, hb2⟩))
  clear HL hL1 ho1 hb1 hb2 C0 C1 C2 C3
  replace hS := hS2.drop 1
  clear hS2
  dsimp only [List.drop] at hS
  generalize w' = W11 at *
  have C0 : ∀ w', Cls W11 w' → w'.cell? ⟨w.heap.size + 1 + 1, 0, none⟩ = some (.int .i64 s2) := fun _ h => h.cell (hS.cell 11 0 rfl rfl)
  have C1 : ∀ w', Cls W11 w' → w'.cell? ⟨w.heap.size + 1 + 1, 1, none⟩ = some (.slice A2 l2.length c2) := fun _ h => h.cell (hS.cell 11 1 rfl rfl)
  have C2 : ∀ w', Cls W11 w' → w'.cell? ⟨W7.heap.size, 0, none⟩ = some (.int .i64 s2) := fun _ h => h.cell (hS.cell 1 0 rfl rfl)
  have C3 : ∀ w', Cls W11 w' → w'.cell? ⟨W7.heap.size, 1, none⟩ = some (.slice Ax2 l2.length cx2) := fun _ h => h.cell (hS.cell 1 1 rfl rfl)
  have HL := hid (fun w' (h : Cls W11 w') => hS.step h)
  go_wp2_with fail
  go_region_held3 (fun w' => Cls W11 w') (first | exact Cls.drew _ | exact Cls.next (by assumption) (by assumption))
    (first
      | (go_at_call 14; refine (toRoute_any s2 _ (h2I.out.grow (HL.out _ (by assumption)).bl).2 (Nat.le_refl _) h2n).mono ?_; rintro e w' ⟨Ay2, cy2, rfl, _, ho1, hb1⟩; have hL1 := (HL.out _ (by assumption)).owns hb1 ho1)
      | (go_at_call 16; refine (eqR_led2 hL1 3 0 rfl rfl s2 h2n).mono ?_; rintro e w' ⟨rfl, hS2, hb2⟩))
  clear HL hL1 ho1 hb1 hb2 C0 C1 C2 C3
  replace hS := hS2.drop 1
  clear hS2
  dsimp only [List.drop] at hS
  generalize w' = W12 at *
  -- marks
  have q0 := hS.cell 5 0 rfl rfl
  have q1 := hS.cell 5 1 rfl rfl
  go_wp2_with fail
  refine (markN_led hS 6 rfl _ h0n h0m (by omega) (by omega)).mono ?_
  rintro e W13 ⟨rfl, hS1⟩; replace hS := hS1; clear hS1; dsimp only [List.set] at hS
  clear q0 q1
  have q0 := hS.cell 3 0 rfl rfl
  have q1 := hS.cell 3 1 rfl rfl
  go_wp2_with fail
  refine (markR_led hS 4 rfl s1 _ h1n (by omega) (by omega)).mono ?_
  rintro e W14 ⟨rfl, hS1⟩; replace hS := hS1; clear hS1; dsimp only [List.set] at hS
  clear q0 q1
  have q0 := hS.cell 1 0 rfl rfl
  have q1 := hS.cell 1 1 rfl rfl
  go_wp2_with fail
  refine (markR_led hS 2 rfl s2 _ h2n (by omega) (by omega)).mono ?_
  rintro e W15 ⟨rfl, hS1⟩; replace hS := hS1; clear hS1; dsimp only [List.set] at hS
  clear q0 q1
  go_wp2_with fail
  refine (eqI_led hS 0 7 rfl rfl hlen0.out).mono ?_
  rintro e W16 ⟨rfl, hS1⟩; replace hS := hS1; clear hS1
  go_wp2_with fail
  refine (markI_led hS 0 rfl _ hlen0.out (by have := hlen0.out; omega) (by have := hlen0.out; omega)).mono ?_
  rintro e W17 ⟨rfl, hS1⟩; replace hS := hS1; clear hS1; dsimp only [List.set] at hS
  go_wp2_with fail
  refine (heldI_led hS 0 _ rfl hlen0.out (by have := hlen0.out; omega) (by have := hlen0.out; omega)).mono ?_
  rintro e W18 ⟨rfl, hS1⟩; replace hS := hS1; clear hS1
  -- once more
  have C0 : ∀ w', Cls W18 w' → w'.cell? ⟨w.heap.size, 0, none⟩ = some (.slice A0 n0 c0) := fun _ h => h.cell (hS.cell 13 0 rfl rfl)
  have C1 : ∀ w', Cls W18 w' → w'.cell? ⟨w.heap.size, 1, none⟩ = some (.slice E0 m0 d0) := fun _ h => h.cell (hS.cell 13 1 rfl rfl)
  have C2 : ∀ w', Cls W18 w' → w'.cell? ⟨w.heap.size + 1, 0, none⟩ = some (.int .i64 s1) := fun _ h => h.cell (hS.cell 12 0 rfl rfl)
  have C3 : ∀ w', Cls W18 w' → w'.cell? ⟨w.heap.size + 1, 1, none⟩ = some (.slice A1 l1.length c1) := fun _ h => h.cell (hS.cell 12 1 rfl rfl)
  have C4 : ∀ w', Cls W18 w' → w'.cell? ⟨w.heap.size + 1 + 1, 0, none⟩ = some (.int .i64 s2) := fun _ h => h.cell (hS.cell 11 0 rfl rfl)
  have C5 : ∀ w', Cls W18 w' → w'.cell? ⟨w.heap.size + 1 + 1, 1, none⟩ = some (.slice A2 l2.length c2) := fun _ h => h.cell (hS.cell 11 1 rfl rfl)
  have HL := hid (fun w' (h : Cls W18 w') => hS.step h)
  go_wp2_with fail
  go_region_held3 (fun w' => Cls W18 w') (first | exact Cls.drew _ | exact Cls.next (by assumption) (by assumption))
    (first
      | (go_at_call 13; refine (toNetwork_own _ (h0I.out.grow (HL.out _ (by assumption)).bl).strs (h0I.out.grow (HL.out _ (by assumption)).bl).fibs (Nat.le_refl _) h0n h0m).mono ?_; rintro e w' ⟨Ah0, ch0, Eh0, dh0, rfl, ho_h0, hb_h0⟩; have hLh0 := (HL.out _ (by assumption)).net hb_h0 ho_h0)
      | (go_at_call_of 14 (Value.slice A1 l1.length c1); refine (toRoute_any s1 _ (h1I.out.grow hLh0.bl).2 (Nat.le_refl _) h1n).mono ?_; rintro e w' ⟨Ah1, ch1, rfl, _, ho_h1, hb_h1⟩; have hLh1 := hLh0.owns hb_h1 ho_h1)
      | (go_at_call_of 14 (Value.slice A2 l2.length c2); refine (toRoute_any s2 _ (h2I.out.grow hLh1.bl).2 (Nat.le_refl _) h2n).mono ?_; rintro e w' ⟨Ah2, ch2, rfl, _, ho_h2, hb_h2⟩; have hLh2 := hLh1.owns hb_h2 ho_h2)
      | (go_at_call 24; refine (implShared _ (hLh2.netIs 2 rfl h0n h0m h0x) (hLh2.rt 1 rfl h1n) (hLh2.rt 0 rfl h2n)).mono ?_; rintro e w' ⟨vh0, rfl, ho0, hb⟩))
  have hS2 := hLh2
  clear HL C0 C1 C2 C3 C4 C5
  rw [hL0] at ho0
  obtain ⟨Ah0, ch0, rfl, _, _, _⟩ := ho0.form
  replace hS2 := hS2.owns hb ho0
  clear hS
  have hS := hS2
  clear hS2 hb hLh0 hb_h0 ho_h0 hLh1 hb_h1 ho_h1 hLh2 hb_h2 ho_h2 ho0
  generalize w' = W19 at *
  go_wp2_with fail
  refine (eqI_led hS 0 11 rfl rfl hlen0.out).mono ?_
  rintro e W20 ⟨rfl, hS1⟩; replace hS := hS1; clear hS1
  go_wp2_with fail
  refine (heldI_led hS 4 _ rfl hlen0.out (by have := hlen0.out; omega) (by have := hlen0.out; omega)).mono ?_
  rintro e W21 ⟨rfl, hS1⟩; replace hS := hS1; clear hS1
  go_wp2_with fail
  go_ret
  exact ⟨rfl, hS.bl⟩
end Go.Proofs.Ytndmffmbkcagmaa.fnExactSharedFibers
