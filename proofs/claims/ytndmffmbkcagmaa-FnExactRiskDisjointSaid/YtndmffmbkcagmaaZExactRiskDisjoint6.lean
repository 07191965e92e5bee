/- Lemmas and walks that the claim rests on, laid together. Conditions: none. -/
import Derived.Test.YtndmffmbkcagmaaZExactRiskDisjoint5
import Derived.Test.YtndmffmbkcagmaaZExactRiskDisjoint0
import Derived.Deep.RegionHeld3
import Derived.Test.YtndmffmbkcagmaaZExactRiskDisjoint3
import Derived.Test.YtndmffmbkcagmaaZExactRiskDisjoint4
/- The order of routes, walked: slices.Compare, compareRoutes, l4Compare, CompareRoutes of both sides. Conditions: as each states. -/
namespace Go.Proofs.Ytndmffmbkcagmaa
open Go.RowKit
theorem Cls.onto {w w1 w2 : World} (h : Cls w w1) (k : Cls w1 w2) : Cls w w2 := bl_then h k
theorem sgn_cmp (x y : Int) : sgnI (x - y) = cmpB x y := by
  unfold sgnI cmpB
  split
  · rw [if_pos (by omega)]
  · split
    · rw [if_neg (by omega), if_pos (by omega)]
    · rw [if_neg (by omega), if_neg (by omega)]
/-- Two routes in their order. -/
def ordR (fs : List Fib) (s : Int) (a : List Int) (t : Int) (b : List Int) : Int := orI [cmpB (lenR fs a) (lenR fs b), cmpB (a.length : Int) (b.length : Int), cmpL a b, cmpB s t]
theorem ordR_len {fs : List Fib} {s t : Int} {a b : List Int} (h : lenR fs a ≠ lenR fs b) : ordR fs s a t b = sgnI (lenR fs a - lenR fs b) := by
  unfold ordR orI; rw [sgn_cmp, if_neg (by rw [cmpB_zero]; exact h)]
theorem ordR_num {fs : List Fib} {s t : Int} {a b : List Int} (h : lenR fs a = lenR fs b) (h2 : (a.length : Int) ≠ b.length) : ordR fs s a t b = sgnI ((a.length : Int) - b.length) := by
  unfold ordR orI orI; rw [sgn_cmp, if_pos (by rw [cmpB_zero]; exact h), if_neg (by rw [cmpB_zero]; exact h2)]
theorem ordR_list {fs : List Fib} {s t : Int} {a b : List Int} (h : lenR fs a = lenR fs b) (h2 : a.length = b.length) (h3 : cmpL a b ≠ 0) : ordR fs s a t b = cmpL a b := by
  unfold ordR orI orI orI; rw [if_pos (by rw [cmpB_zero]; exact h), if_pos (by rw [cmpB_zero]; omega), if_neg h3]
theorem ordR_start {fs : List Fib} {s t : Int} {a : List Int} : ordR fs s a t a = sgnI (s - t) := by
  unfold ordR orI orI orI orI orI; rw [if_pos (by rw [cmpB_zero]), if_pos (by rw [cmpB_zero]), if_pos (cmpL_same a), sgn_cmp]
  split
  · rename_i h; exact h.symm
  · rfl
section
variable {n c m d er eq : Nat} {A A' R Q : Option Addr} {xs : List ByteArray} {fs : List Fib} {s t : Int} {ids jds : List Int}
set_option maxHeartbeats 2000000 in
set_option maxRecDepth 100000 in
theorem areRoutes_any (w : World) (h : NetIs w A n c A' m d xs fs) (hr : RtIs w R ids.length er ids) (hq : RtIs w Q jds.length eq jds) :
    Calls Try.prog 57 #[.agg #[.slice A n c, .slice A' m d], .agg #[.int .i64 s, .slice R ids.length er], .agg #[.int .i64 t, .slice Q jds.length eq]] w fun e w' => e = .returned (.bool (routeB xs fs s ids && routeB xs fs t jds)) ∧ Below w.heap.size w w' := by
  have hS := (((Led.nil w).blk_ w.heap.size rfl 36 #[.slice A n c, .slice A' m d]).blk_ (w.heap.size + 1) (by simp) 31 #[.int .i64 s, .slice R ids.length er]).blk_ (w.heap.size + 1 + 1) (by simp) 31 #[.int .i64 t, .slice Q jds.length eq]
  cases g : routeB xs fs s ids
  · go_enter Try.func57, Try.ntmps57
    go_wp2_with fail
    refine (implIsValidRoute s _ (h.grow hS.bl) (hr.grow hS.bl)).mono ?_
    rintro e w1 ⟨rfl, hb⟩
    replace hS := hS.step hb
    rw [g]
    have q0 := hS.cell 2 0 rfl rfl
    have q1 := hS.cell 2 1 rfl rfl
    have q2 := hS.cell 1 0 rfl rfl
    have q3 := hS.cell 1 1 rfl rfl
    have q4 := hS.cell 0 0 rfl rfl
    have q5 := hS.cell 0 1 rfl rfl
    go_wp2_with fail
    go_ret
    exact ⟨rfl, hS.bl⟩
  · go_enter Try.func57, Try.ntmps57
    go_wp2_with fail
    refine (implIsValidRoute s _ (h.grow hS.bl) (hr.grow hS.bl)).mono ?_
    rintro e w1 ⟨rfl, hb⟩
    replace hS := hS.step hb
    rw [g]
    have q0 := hS.cell 2 0 rfl rfl
    have q1 := hS.cell 2 1 rfl rfl
    have q2 := hS.cell 1 0 rfl rfl
    have q3 := hS.cell 1 1 rfl rfl
    have q4 := hS.cell 0 0 rfl rfl
    have q5 := hS.cell 0 1 rfl rfl
    go_wp2_with fail
    refine (implIsValidRoute t _ (h.grow hS.bl) (hq.grow hS.bl)).mono ?_
    rintro e w2 ⟨rfl, hb2⟩
    go_wp2_with fail
    go_ret
    exact ⟨rfl, bl_then hS.bl hb2⟩
/-- CompareRoutes. -/
def crB (xs : List ByteArray) (fs : List Fib) (s : Int) (a : List Int) (t : Int) (b : List Int) : Bool := routeB xs fs s a && routeB xs fs t b
def crI (xs : List ByteArray) (fs : List Fib) (s : Int) (a : List Int) (t : Int) (b : List Int) : Int := if crB xs fs s a t b then ordR fs s a t b else 0
theorem routeB_start {xs : List ByteArray} {fs : List Fib} {s : Int} {a : List Int} (h : routeB xs fs s a = true) : 0 ≤ s ∧ s ≤ 1048576 := by
  obtain ⟨hg, hr⟩ := routeB_good h
  have h1 := inB_idx (rtB_parts hr).1
  have := (goodB_bd hg).2.1
  omega
end
end Go.Proofs.Ytndmffmbkcagmaa
/- SharedFibers of both sides, walked. Conditions: none. -/
namespace Go.Proofs.Ytndmffmbkcagmaa
open Go.RowKit
def shB (xs : List ByteArray) (fs : List Fib) (s : Int) (a : List Int) (t : Int) (b : List Int) : Bool := routeB xs fs s a && routeB xs fs t b
def shL (xs : List ByteArray) (fs : List Fib) (s : Int) (a : List Int) (t : Int) (b : List Int) : List Int := if shB xs fs s a t b then comL a b else []
section
variable {n c m d er eq : Nat} {A A' R Q : Option Addr} {xs : List ByteArray} {fs : List Fib} {ids jds : List Int} {s t : Int}
set_option maxHeartbeats 2000000 in
set_option maxRecDepth 100000 in
theorem implShared (w : World) (h : NetIs w A n c A' m d xs fs) (hr : RtIs w R ids.length er ids) (hq : RtIs w Q jds.length eq jds) :
    Calls Try.prog 24 #[.agg #[.slice A n c, .slice A' m d], .agg #[.int .i64 s, .slice R ids.length er], .agg #[.int .i64 t, .slice Q jds.length eq]] w fun e w' => ∃ v, e = .returned (.tuple #[v, .bool (shB xs fs s ids t jds)]) ∧ Owns elInt w' w.heap.size 3 v (shL xs fs s ids t jds) ∧ Below w.heap.size w w' := by
  have hS := (((Led.nil w).blk_ w.heap.size rfl 36 #[.slice A n c, .slice A' m d]).blk_ (w.heap.size + 1) (by simp) 31 #[.int .i64 s, .slice R ids.length er]).blk_ (w.heap.size + 1 + 1) (by simp) 31 #[.int .i64 t, .slice Q jds.length eq]
  have HB : Hid (shB xs fs s ids t jds = (routeB xs fs s ids && routeB xs fs t jds)) := rfl
  cases g : (routeB xs fs s ids && routeB xs fs t jds)
  · have H : Hid (shL xs fs s ids t jds = []) := by unfold Hid shL shB; rw [g]; rfl
    rw [HB.out, g]
    go_enter Try.func24, Try.ntmps24
    go_wp2_with fail
    refine (areRoutes_any _ (h.grow hS.bl) (hr.grow hS.bl) (hq.grow hS.bl)).mono ?_
    rintro e w1 ⟨rfl, hb⟩
    rw [g]
    go_wp2_with fail
    go_ret2
    exact ⟨_, rfl, by rw [H.out]; exact World.ownsRow_nil _ _ _ _, bl_then hS.bl hb⟩
  · have H : Hid (shL xs fs s ids t jds = comL ids jds) := by unfold Hid shL shB; rw [g]; rfl
    rw [HB.out, g]
    go_enter Try.func24, Try.ntmps24
    go_wp2_with fail
    refine (areRoutes_any _ (h.grow hS.bl) (hr.grow hS.bl) (hq.grow hS.bl)).mono ?_
    rintro e w1 ⟨rfl, hb⟩
    rw [g]
    replace hS := hS.step hb
    have q1 := hS.cell 0 1 rfl rfl
    have q3 := hS.cell 1 1 rfl rfl
    go_wp2_with fail
    refine (common_any _ (hr.grow hS.bl).2 (hq.grow hS.bl).2 hr.le hq.le).mono ?_
    rintro e w2 ⟨v, rfl, ho, hb2⟩
    have HO := hid (ho.base (base' := w.heap.size) hS.bl.size)
    have HZ := hid (bl_then hS.bl hb2)
    clear ho hb2 hb hS
    go_wp2_with fail
    go_ret2
    exact ⟨_, rfl, by rw [H.out]; exact HO.out, HZ.out⟩
end
end Go.Proofs.Ytndmffmbkcagmaa
/- slices.IndexFunc over rows, groupOf, walked. Conditions: none. -/
namespace Go.Proofs.Ytndmffmbkcagmaa
open Go.RowKit
section
variable {n c : Nat} {A : Option Addr} {ss : List Sl} {rows : List (List Int)} {F : FuncId} {cap : Array Value}
set_option maxHeartbeats 1000000 in
set_option maxRecDepth 100000 in
theorem indexFuncSS_any (p : List Int → Bool) (w : World) (hA : SeesSS w A n ss rows) (hn : n ≤ 1048576)
    (hcall : ∀ args wr, (callFunc F args).run Try.prog wr = .ok (.enter F args) wr)
    (hF : ∀ (i : Nat) s r w', ss[i]? = some s → rows[i]? = some r → Cls w w' → Calls Try.prog F (#[.slice s.A s.n s.c] ++ cap) w' fun e w2 => e = .returned (.bool (p r)) ∧ Below w'.heap.size w' w2) :
    Calls Try.prog 110 #[.slice A n c, .func (.func F) #[] cap] w fun e w' => e = .returned (.int .i64 (findP p rows)) ∧ Below w.heap.size w w' := by
  have HF := hid hF
  have hlr : rows.length = n := by rw [← hA.2.1]; exact hA.1.len
  have HLR := hid hlr
  clear hF hlr
  go_enter Try.func110, Try.ntmps110
  go_wp2
  go_loopw [8] (fun i wr => ∃ k : Nat, k ≤ n ∧ i = .int .i64 k ∧ Hid (noneP p rows k) ∧ Below w.heap.size w wr) (fun i _ => n - (intOf i).toNat)
  case atStart => exact ⟨0, Nat.zero_le _, rfl, noneP_zero _ _, Below.refl _ _⟩
  case round =>
    obtain ⟨k, hk, rfl, hno, hb⟩ := hrel
    by_cases hlt : k < n
    · obtain ⟨b, o, rfl, _, hc⟩ := hA.1.at_ hlt
      obtain ⟨x, hxk⟩ := get_of (k := k) HLR.out hlt
      obtain ⟨s, hsk⟩ := get_of (k := k) hA.1.len hlt
      have hcx := bl_cell hb (hc k s hsk 0 _ rfl)
      simp only [elSl, Nat.mul_one, Nat.add_zero, slV] at hcx
      have HC := hid (HF.out k s x wr hsk hxk hb)
      clear hc
      go_wp2_with fail
      refine HC.out.mono ?_
      rintro e w' ⟨rfl, hb2⟩
      have hbb : Below w.heap.size w w' := bl_then hb hb2
      clear HC hcx hb hb2
      by_cases hp : p x = true
      · have HR := hid (findP_at hno.out hxk hp)
        clear hno hxk
        rw [hp]
        go_wp2_with fail
        go_ret
        exact ⟨by rw [HR.out]; rfl, hbb⟩
      · have hp' : p x = false := by simpa using hp
        have HR := hid (noneP_succ hno.out hxk hp')
        clear hno hxk
        rw [hp']
        go_wp2_with fail
        exact ⟨⟨k + 1, by omega, by go_num, HR, hbb⟩, by simp [intOf]; omega⟩
    · have HN := hid (findP_none (p := p) HLR.out (by obtain rfl : k = n := (by omega); exact hno.out))
      clear hno
      go_wp2
      go_ret
      exact ⟨by rw [HN.out]; rfl, hb⟩
end
section
variable {n c m d : Nat} {A A' : Option Addr} {xs : List ByteArray} {fs : List Fib}
set_option maxRecDepth 100000 in
theorem groupOfC (i : Int) {n c : Nat} {A : Option Addr} {r : List Int} (w : World) (g : Nat) (hg : Blk w g 3 #[.int .i64 i]) (hs : Sees elInt w w.heap.size A n r) (hn : n ≤ maxLen) :
    Calls Try.prog 112 #[.slice A n c, .pointer (some ⟨g, 0, none⟩)] w fun e w' => e = .returned (.bool (hasB r i)) ∧ Below w.heap.size w w' := by
  have q0 := hg.cell 0
  simp at q0
  go_enter Try.func112, Try.ntmps112
  go_wp2_with fail
  refine (containsI_any i _ hs hn).mono ?_
  rintro e w2 ⟨rfl, rfl⟩
  go_wp2_with fail
  go_ret
  exact ⟨rfl, Below.refl _ _⟩
theorem grp_small {r : List Int} (h : r ∈ groupsL fs) (hf : fs.length ≤ 1048576) : r.length ≤ 1048577 := by
  have := groups_row h; omega
set_option maxHeartbeats 1000000 in
set_option maxRecDepth 100000 in
theorem groupOf_any (i : Int) (w : World) (h : NetIs w A n c A' m d xs fs) (hm : m ≤ 1000000) :
    Calls Try.prog 90 #[.agg #[.slice A n c, .slice A' m d], .int .i64 i] w fun e w' => e = .returned (.int .i64 (grpI fs i)) ∧ Below w.heap.size w w' := by
  have hb0 := bl_alloc (bl_alloc (Below.refl w.heap.size w) (.cells #[.slice A n c, .slice A' m d] 36)) (.cells #[.int .i64 i] 3)
  have hx0 : Blk ((w.alloc (.cells #[.slice A n c, .slice A' m d] 36)).alloc (.cells #[.int .i64 i] 3)) (w.heap.size + 1) 3 #[.int .i64 i] := by
    have := Blk.new (w.alloc (.cells #[.slice A n c, .slice A' m d] 36)) 3 #[.int .i64 i]
    simpa using this
  have h0 := h.grow hb0
  have hfl := hid h.flen
  have HG : Hid (grpI fs i = findP (fun r => hasB r i) (groupsL fs)) := rfl
  go_enter Try.func90, Try.ntmps90
  go_wp2_with fail
  refine (groups_any _ h0).mono ?_
  rintro e w2 ⟨⟨A2, n2, c2⟩, ss, rfl, hs, hb2⟩
  dsimp only [slV] at hs ⊢
  have hx2 := hid (hx0.below hb2 hx0.lt)
  have hbw := bl_then hb0 hb2
  have hsees := hs.sees
  have hn2 : n2 = ss.length := by
    obtain ⟨_, _, hv, _⟩ := hs.1.form
    injection hv
  have hgl : Hid ((groupsL fs).length = ss.length) := hs.2.1.symm
  have hgb := groups_len fs
  rw [hgl.out, hfl.out] at hgb
  subst hn2
  have HS := hid hsees
  clear hs hsees
  go_wp2_with fail
  refine (indexFuncSS_any (cap := #[.pointer (some ⟨w.heap.size + 1, 0, none⟩)]) (fun r => hasB r i) _ HS.out (by omega) (fun _ _ => by rfl) (fun k s r w' h1 h2 hw' => by
    have a1 := (HS.out.grow hw').2.2 k s r h1 h2
    have a3 := grp_small (List.mem_of_getElem? h2) (by rw [hfl.out]; omega)
    exact groupOfC i w' (w.heap.size + 1) (hx2.out.below hw' hx2.out.lt) a1.2 (by rw [a1.1]; unfold maxLen; omega))).mono ?_
  rintro e w3 ⟨rfl, hb3⟩
  go_wp2_with fail
  go_ret
  exact ⟨by rw [HG.out]; rfl, bl_then hbw hb3⟩
end
end Go.Proofs.Ytndmffmbkcagmaa
/- The indices of risk groups, and RiskDisjoint and CommonRisks of the program, walked. Conditions: at most 1048576 numbers. -/
namespace Go.Proofs.Ytndmffmbkcagmaa
open Go.RowKit
def rdV (xs : List ByteArray) (fs : List Fib) (s : Int) (a : List Int) (t : Int) (b : List Int) : Bool := shB xs fs s a t b && apB fs a b
def crL (xs : List ByteArray) (fs : List Fib) (s : Int) (a : List Int) (t : Int) (b : List Int) : List Int := if shB xs fs s a t b then comL (rskL fs a) (rskL fs b) else []
section
variable {n c m d er eq k : Nat} {A A' R Q : Option Addr} {xs : List ByteArray} {fs : List Fib} {ids jds l : List Int} {s t : Int}
set_option maxHeartbeats 2000000 in
set_option maxRecDepth 100000 in
theorem risksOf_any {B : Nat} (w : World) (h : NetIs w A n c A' m d xs fs) (ha : Sees elInt w B R k l) (hk : k ≤ 1048576) (hm : m ≤ 1000000) :
    Calls Try.prog 64 #[.agg #[.slice A n c, .slice A' m d], .slice R k er] w fun e w' => ∃ v, e = .returned v ∧ Owns elInt w' w.heap.size 3 v (rskL fs l) ∧ Below w.heap.size w w' := by
  have hS := ((Led.nil w).blk_ w.heap.size rfl 36 #[.slice A n c, .slice A' m d]).empty elInt 3 (w.heap.size + 1) (by simp) w.heap.size (by omega)
  rw [← rskTo_zero fs l] at hS
  have HS := hid hS
  have HA := hid ha
  have HN := hid h
  have HL := hid ha.len
  obtain ⟨i0, hi, hz0, hz1, hz2⟩ := info_parts int_info
  clear hS ha h
  go_enter Try.func64, Try.ntmps64
  go_wp2_with fail
  go_loopw [5, 11] (fun v i wr => ∃ j : Nat, j ≤ k ∧ i = .int .i64 j ∧ Hid (Led w wr [tOwns elInt w.heap.size 3 v (rskTo fs l j), tBlk w.heap.size 36 #[.slice A n c, .slice A' m d]])) (fun _ i _ => k - (intOf i).toNat)
  case atStart => exact ⟨0, Nat.zero_le _, rfl, HS⟩
  case round =>
    clear HS
    obtain ⟨j, hj, rfl, HS⟩ := hrel
    obtain ⟨A1, c1, rfl, _⟩ := HS.out.form 0 rfl
    by_cases hlt : j < k
    · obtain ⟨g, o, rfl, _, hx⟩ := HA.out.at_ hlt
      obtain ⟨x, hxk⟩ := get_of (k := j) HL.out hlt
      have f0 := bl_cell HS.out.bl (hx j x hxk 0 _ rfl)
      simp only [elInt, Nat.mul_one, Nat.add_zero] at f0
      have q0 := HS.out.cell 1 0 rfl rfl
      have q1 := HS.out.cell 1 1 rfl rfl
      have hll := rskTo_len fs l j
      have HX := hid (rskTo_succ (fs := fs) hxk)
      clear hx hxk
      go_wp2_with fail
      refine (groupOf_any x _ (HN.out.grow HS.out.bl) hm).mono ?_
      rintro e w5 ⟨rfl, hb5⟩
      have HS2 := hid ((HS.out.step hb5).blk_ w5.heap.size rfl 3 #[.int .i64 (grpI fs x)])
      clear f0 q0 q1 HS hb5
      go_wp2_with (first
        | (at_builtin; refine wpList_append_led rfl _ _ 26 rfl HS2.out 1 rfl Try.underlying26 hi hz0 hz1 (by rw [hz2]; decide) rfl rfl rfl (show Sees elInt _ _ _ 1 [grpI fs x] from sees_new elInt _ _ _ _ rfl) (by omega) HS2.out.bl.size ?_)
        | go_in)
      intro A2 c2 w7 hS5
      have hS6 := hid (hS5.drop 1)
      clear HS2 hS5
      go_wp2
      go_roundw
      case rel => exact ⟨j + 1, by omega, by go_num, by rw [HX.out]; exact hS6⟩
      case measure => simp [intOf]; omega
    · have hkn : j = k := by omega
      subst hkn
      have HE := hid (rskTo_all (fs := fs) HL.out)
      clear hlt
      go_wp2
      go_ret
      exact ⟨_, rfl, by rw [← HE.out]; exact HS.out.own 0 rfl, HS.out.bl⟩
set_option maxHeartbeats 2000000 in
set_option maxRecDepth 100000 in
theorem apart_any (w : World) (h : NetIs w A n c A' m d xs fs) (ha : RtIs w R ids.length er ids) (hb : RtIs w Q jds.length eq jds) (hm : m ≤ 1000000) :
    Calls Try.prog 70 #[.agg #[.slice A n c, .slice A' m d], .slice R ids.length er, .slice Q jds.length eq] w fun e w' => e = .returned (.bool (apB fs ids jds)) ∧ Below w.heap.size w w' := by
  have hS := (Led.nil w).blk_ w.heap.size rfl 36 #[.slice A n c, .slice A' m d]
  have H : Hid (apB fs ids jds = (((comL (rskL fs ids) (rskL fs jds)).length : Int) == 0)) := rfl
  have la : Hid ((rskL fs ids).length ≤ 1048576) := by rw [rskL_len]; exact ha.le
  have lb : Hid ((rskL fs jds).length ≤ 1048576) := by rw [rskL_len]; exact hb.le
  go_enter Try.func70, Try.ntmps70
  go_wp2_with fail
  have HN := hid h
  have HA := hid ha
  have HB := hid hb
  clear h ha hb
  generalize w.alloc (.cells #[.slice A n c, .slice A' m d] 36) = W0 at *
  have C0 : ∀ w', Cls W0 w' → w'.cell? ⟨w.heap.size, 0, none⟩ = some (.slice A n c) := fun _ h => h.cell (hS.cell 0 0 rfl rfl)
  have C1 : ∀ w', Cls W0 w' → w'.cell? ⟨w.heap.size, 1, none⟩ = some (.slice A' m d) := fun _ h => h.cell (hS.cell 0 1 rfl rfl)
  have HL := hid (fun w' (h : Cls W0 w') => hS.step h)
  go_region_held3 (fun w' => Cls W0 w') (first | exact Cls.drew _ | exact Cls.next (by assumption) (by assumption))
    (first
      | (go_at_call_of 64 (Value.slice R ids.length er); refine (risksOf_any _ (HN.out.grow (HL.out _ (by assumption)).bl) (HA.out.grow (HL.out _ (by assumption)).bl).2 HA.out.le hm).mono ?_; rintro e w' ⟨v1, rfl, ho1, hb1⟩; obtain ⟨A1, c1, rfl, _⟩ := ho1.form; have hL1 := (HL.out _ (by assumption)).owns hb1 ho1)
      | (go_at_call_of 64 (Value.slice Q jds.length eq); refine (risksOf_any _ (HN.out.grow hL1.bl) (HB.out.grow hL1.bl).2 HB.out.le hm).mono ?_; rintro e w' ⟨v2, rfl, ho2, hb2⟩; obtain ⟨A2, c2, rfl, _⟩ := ho2.form; have hL2 := hL1.owns hb2 ho2)
      | (go_at_call 61; refine (common_any _ (hL2.sees 1 rfl rfl) (hL2.sees 0 rfl rfl) la.out lb.out).mono ?_; rintro e w' ⟨v3, rfl, ho3, hb3⟩; obtain ⟨A3, c3, rfl, _⟩ := ho3.form))
  have HZ := hid (hL2.step hb3).bl
  clear HL C0 C1 hL1 hL2 hb1 hb2 hb3 ho1 ho2 ho3
  go_wp2
  go_ret
  exact ⟨by rw [H.out]; rfl, HZ.out⟩
set_option maxHeartbeats 2000000 in
set_option maxRecDepth 100000 in
theorem implRiskDisjoint (w : World) (h : NetIs w A n c A' m d xs fs) (hr : RtIs w R ids.length er ids) (hq : RtIs w Q jds.length eq jds) :
    Calls Try.prog 33 #[.agg #[.slice A n c, .slice A' m d], .agg #[.int .i64 s, .slice R ids.length er], .agg #[.int .i64 t, .slice Q jds.length eq]] w fun e w' => e = .returned (.tuple #[.bool (rdV xs fs s ids t jds), .bool (shB xs fs s ids t jds)]) ∧ Below w.heap.size w w' := by
  have hS := (((Led.nil w).blk_ w.heap.size rfl 36 #[.slice A n c, .slice A' m d]).blk_ (w.heap.size + 1) (by simp) 31 #[.int .i64 s, .slice R ids.length er]).blk_ (w.heap.size + 1 + 1) (by simp) 31 #[.int .i64 t, .slice Q jds.length eq]
  have HB : Hid (shB xs fs s ids t jds = (routeB xs fs s ids && routeB xs fs t jds)) := rfl
  cases g : (routeB xs fs s ids && routeB xs fs t jds)
  · have H : Hid (rdV xs fs s ids t jds = false) := by unfold Hid rdV shB; rw [g]; rfl
    rw [H.out]
    rw [HB.out, g]
    go_enter Try.func33, Try.ntmps33
    go_wp2_with fail
    refine (areRoutes_any _ (h.grow hS.bl) (hr.grow hS.bl) (hq.grow hS.bl)).mono ?_
    rintro e w1 ⟨rfl, hb⟩
    rw [g]
    go_wp2_with fail
    go_ret2
    exact ⟨rfl, bl_then hS.bl hb⟩
  · have H : Hid (rdV xs fs s ids t jds = apB fs ids jds) := by unfold Hid rdV shB; rw [g]; rfl
    rw [H.out]
    rw [HB.out, g]
    go_enter Try.func33, Try.ntmps33
    go_wp2_with fail
    refine (areRoutes_any _ (h.grow hS.bl) (hr.grow hS.bl) (hq.grow hS.bl)).mono ?_
    rintro e w1 ⟨rfl, hb⟩
    rw [g]
    have hm : m ≤ 1000000 := by
      rw [Bool.and_eq_true] at g
      have := (goodB_bd (routeB_good g.1).1).2.2
      rw [h.flen] at this; omega
    replace hS := hS.step hb
    clear hb
    have q0 := hS.cell 2 0 rfl rfl
    have q1 := hS.cell 2 1 rfl rfl
    have q2 := hS.cell 1 1 rfl rfl
    have q3 := hS.cell 0 1 rfl rfl
    go_wp2_with fail
    refine (apart_any _ (h.grow hS.bl) (hr.grow hS.bl) (hq.grow hS.bl) hm).mono ?_
    rintro e w2 ⟨rfl, hb2⟩
    have HZ := hid (bl_then hS.bl hb2)
    clear hb2 hS
    go_wp2_with fail
    go_ret2
    exact ⟨rfl, HZ.out⟩
set_option maxHeartbeats 2000000 in
set_option maxRecDepth 100000 in
theorem implCommonRisks (w : World) (h : NetIs w A n c A' m d xs fs) (hr : RtIs w R ids.length er ids) (hq : RtIs w Q jds.length eq jds) :
    Calls Try.prog 29 #[.agg #[.slice A n c, .slice A' m d], .agg #[.int .i64 s, .slice R ids.length er], .agg #[.int .i64 t, .slice Q jds.length eq]] w fun e w' => ∃ v, e = .returned (.tuple #[v, .bool (shB xs fs s ids t jds)]) ∧ Owns elInt w' w.heap.size 3 v (crL xs fs s ids t jds) ∧ Below w.heap.size w w' := by
  have hS := (((Led.nil w).blk_ w.heap.size rfl 36 #[.slice A n c, .slice A' m d]).blk_ (w.heap.size + 1) (by simp) 31 #[.int .i64 s, .slice R ids.length er]).blk_ (w.heap.size + 1 + 1) (by simp) 31 #[.int .i64 t, .slice Q jds.length eq]
  have HB : Hid (shB xs fs s ids t jds = (routeB xs fs s ids && routeB xs fs t jds)) := rfl
  cases g : (routeB xs fs s ids && routeB xs fs t jds)
  · have H : Hid (crL xs fs s ids t jds = []) := by unfold Hid crL shB; rw [g]; rfl
    rw [HB.out, g]
    go_enter Try.func29, Try.ntmps29
    go_wp2_with fail
    refine (areRoutes_any _ (h.grow hS.bl) (hr.grow hS.bl) (hq.grow hS.bl)).mono ?_
    rintro e w1 ⟨rfl, hb⟩
    rw [g]
    go_wp2_with fail
    go_ret2
    exact ⟨_, rfl, by rw [H.out]; exact World.ownsRow_nil _ _ _ _, bl_then hS.bl hb⟩
  · have H : Hid (crL xs fs s ids t jds = comL (rskL fs ids) (rskL fs jds)) := by unfold Hid crL shB; rw [g]; rfl
    rw [HB.out, g]
    go_enter Try.func29, Try.ntmps29
    go_wp2_with fail
    refine (areRoutes_any _ (h.grow hS.bl) (hr.grow hS.bl) (hq.grow hS.bl)).mono ?_
    rintro e w1 ⟨rfl, hb⟩
    rw [g]
    have hm : m ≤ 1000000 := by
      rw [Bool.and_eq_true] at g
      have := (goodB_bd (routeB_good g.1).1).2.2
      rw [h.flen] at this; omega
    replace hS := hS.step hb
    clear hb
    have la : Hid ((rskL fs ids).length ≤ 1048576) := by rw [rskL_len]; exact hr.le
    have lb : Hid ((rskL fs jds).length ≤ 1048576) := by rw [rskL_len]; exact hq.le
    have HN := hid h
    have HA := hid hr
    have HQ := hid hq
    clear h hr hq
    have C0 : ∀ w', Cls w1 w' → w'.cell? ⟨w.heap.size, 0, none⟩ = some (.slice A n c) := fun _ h => h.cell (hS.cell 2 0 rfl rfl)
    have C1 : ∀ w', Cls w1 w' → w'.cell? ⟨w.heap.size, 1, none⟩ = some (.slice A' m d) := fun _ h => h.cell (hS.cell 2 1 rfl rfl)
    have C2 : ∀ w', Cls w1 w' → w'.cell? ⟨w.heap.size + 1, 1, none⟩ = some (.slice R ids.length er) := fun _ h => h.cell (hS.cell 1 1 rfl rfl)
    have C3 : ∀ w', Cls w1 w' → w'.cell? ⟨w.heap.size + 1 + 1, 1, none⟩ = some (.slice Q jds.length eq) := fun _ h => h.cell (hS.cell 0 1 rfl rfl)
    have HL := hid (fun w' (h : Cls w1 w') => hS.step h)
    go_wp2_with fail
    go_region_held3 (fun w' => Cls w1 w') (first | exact Cls.drew _ | exact Cls.next (by assumption) (by assumption))
      (first
        | (go_at_call_of 64 (Value.slice R ids.length er); refine (risksOf_any _ (HN.out.grow (HL.out _ (by assumption)).bl) (HA.out.grow (HL.out _ (by assumption)).bl).2 HA.out.le hm).mono ?_; rintro e w' ⟨v1, rfl, ho1, hb1⟩; obtain ⟨A1, c1, rfl, _⟩ := ho1.form; have hL1 := (HL.out _ (by assumption)).owns hb1 ho1)
        | (go_at_call_of 64 (Value.slice Q jds.length eq); refine (risksOf_any _ (HN.out.grow hL1.bl) (HQ.out.grow hL1.bl).2 HQ.out.le hm).mono ?_; rintro e w' ⟨v2, rfl, ho2, hb2⟩; obtain ⟨A2, c2, rfl, _⟩ := ho2.form; have hL2 := hL1.owns hb2 ho2)
        | (go_at_call 61; refine (common_any _ (hL2.sees 1 rfl rfl) (hL2.sees 0 rfl rfl) la.out lb.out).mono ?_; rintro e w' ⟨v3, rfl, ho3, hb3⟩))
    have HZ := hid (hL2.step hb3).bl
    have HO := hid (ho3.base (base' := w.heap.size) hL2.bl.size)
    clear HL C0 C1 C2 C3 hL1 hL2 hb1 hb2 hb3 ho1 ho2 ho3
    go_wp2
    go_ret2
    exact ⟨_, rfl, by rw [H.out]; exact HO.out, HZ.out⟩
end
end Go.Proofs.Ytndmffmbkcagmaa
/- RiskDisjoint of the reference, walked. Conditions: none. -/
namespace Go.Proofs.Ytndmffmbkcagmaa
open Go.RowKit
section
variable {n c m d er eq : Nat} {A A' R Q : Option Addr} {xs : List ByteArray} {fs : List Fib} {ids jds : List Int} {s t : Int}
theorem apAt_of {k j : Nat} (hx : ids[k]? = some (j : Int)) : apAt fs ids jds k = allB (fun i => !hasB (groupL fs j) (jds.getD i 0)) jds.length := by
  unfold apAt apRow; rw [getD_at hx, Int.toNat_natCast]
theorem groupL_len (hg : goodB xs fs = true) {j : Nat} (hj : j < fs.length) : (groupL fs j).length ≤ 15 := by
  have := groups_row (groupL_in hg hj)
  have := (goodB_bd hg).2.2
  omega
theorem own_n {α : Type} {E : El α} {w : World} {base n c : Nat} {e : TypeId} {A : Option Addr} {xs : List α} (h : Owns E w base e (.slice A n c) xs) : n = xs.length := by
  obtain ⟨_, _, hv, _⟩ := h.form
  injection hv
set_option maxHeartbeats 2000000 in
set_option maxRecDepth 100000 in
theorem l4Apart_any (w : World) (h : NetIs w A n c A' m d xs fs) (hr : RtIs w R ids.length er ids) (hq : RtIs w Q jds.length eq jds) (hin : ∀ x ∈ ids, 0 ≤ x ∧ x < fs.length) (hg : goodB xs fs = true) :
    Calls Try.prog 69 #[.agg #[.slice A n c, .slice A' m d], .agg #[.int .i64 s, .slice R ids.length er], .agg #[.int .i64 t, .slice Q jds.length eq]] w fun e w' => e = .returned (.bool (apS fs ids jds)) ∧ Below w.heap.size w w' := by
  have hS := (((Led.nil w).blk_ w.heap.size rfl 36 #[.slice A n c, .slice A' m d]).blk_ (w.heap.size + 1) (by simp) 31 #[.int .i64 s, .slice R ids.length er]).blk_ (w.heap.size + 1 + 1) (by simp) 31 #[.int .i64 t, .slice Q jds.length eq]
  have HS := hid hS
  have HN := hid h
  have HR := hid hr
  have HQ := hid hq
  have hlr := hr.le
  have hlq := hq.le
  have HF := hid h.flen
  have HI := hid hin
  have HG := hid hg
  clear hS h hr hq hin hg
  go_enter Try.func69, Try.ntmps69
  go_wp2_with fail
  go_loopw [7] (fun i wr => ∃ k : Nat, k ≤ ids.length ∧ i = .int .i64 k ∧ Hid (Led w wr [tBlk (w.heap.size + 1 + 1) 31 #[.int .i64 t, .slice Q jds.length eq], tBlk (w.heap.size + 1) 31 #[.int .i64 s, .slice R ids.length er], tBlk w.heap.size 36 #[.slice A n c, .slice A' m d]]) ∧ Hid (allTo (apAt fs ids jds) k)) (fun i _ => ids.length - (intOf i).toNat)
  case atStart => exact ⟨0, Nat.zero_le _, rfl, HS, allTo_zero _⟩
  case round =>
    clear HS
    obtain ⟨k, hk, rfl, HS, HT⟩ := hrel
    have q2 := HS.out.cell 1 1 rfl rfl
    by_cases hlt : k < ids.length
    · obtain ⟨b, o, rfl, _, hx⟩ := HR.out.2.at_ hlt
      obtain ⟨x, hxk⟩ := get_of (k := k) rfl hlt
      have hin := HI.out x (List.mem_of_getElem? hxk)
      obtain ⟨j, rfl⟩ : ∃ j : Nat, x = (j : Int) := ⟨x.toNat, by omega⟩
      have hjm : j < m := by have := HF.out; omega
      have f0 := bl_cell HS.out.bl (hx k _ hxk 0 _ rfl)
      simp only [elInt, Nat.mul_one, Nat.add_zero] at f0
      have HX := hid (apAt_of (fs := fs) (jds := jds) hxk)
      have T0 : ∀ w', Cls wr w' → w'.cell? ⟨b, o + k, none⟩ = some (.int .i64 (j : Int)) := fun _ h => h.cell f0
      have C0 : ∀ w', Cls wr w' → w'.cell? ⟨w.heap.size, 0, none⟩ = some (.slice A n c) := fun _ h => h.cell (HS.out.cell 2 0 rfl rfl)
      have C1 : ∀ w', Cls wr w' → w'.cell? ⟨w.heap.size, 1, none⟩ = some (.slice A' m d) := fun _ h => h.cell (HS.out.cell 2 1 rfl rfl)
      have C2 : ∀ w', Cls wr w' → w'.cell? ⟨w.heap.size + 1, 1, none⟩ = some (.slice (some ⟨b, o, none⟩) ids.length er) := fun _ h => h.cell q2
      have HL := hid (fun w' (h : Cls wr w') => HS.out.step h)
      have iz : (k : Int) < (ids.length : Int) := by omega
      have hgl := groupL_len HG.out (j := j) (by omega)
      clear hx hxk f0 hin
      go_wp2_with fail
      go_region_held3 (fun w' => Cls wr w') (first | exact Cls.drew _ | exact Cls.next (by assumption) (by assumption))
        (first
          | (go_at_call 89; refine (l2Group_any j _ (HN.out.grow (HL.out _ (by assumption)).bl) hjm).mono ?_; rintro e w' ⟨⟨A1, n1, c1⟩, rfl, ho1, hb1⟩; dsimp only [slV] at ho1 ⊢; obtain rfl := own_n ho1; have hL1 := (HL.out _ (by assumption)).owns hb1 ho1))
      have HS1 := hid hL1
      clear HL C0 C1 C2 T0 hL1 hb1 ho1 HS
      generalize w' = w5 at *
      go_wp2_with fail
      go_loop [9] (fun i => ∃ k2 : Nat, k2 ≤ jds.length ∧ i = .int .i64 k2 ∧ Hid (allTo (fun i => !hasB (groupL fs j) (jds.getD i 0)) k2)) (fun i => jds.length - (intOf i).toNat)
      case atStart => exact ⟨0, Nat.zero_le _, rfl, allTo_zero _⟩
      case round =>
        obtain ⟨k2, hk2, rfl, HT2⟩ := hrel
        have q3 := HS1.out.cell 1 1 rfl rfl
        by_cases hlt2 : k2 < jds.length
        · obtain ⟨b2, o2, rfl, _, hx⟩ := HQ.out.2.at_ hlt2
          obtain ⟨y, hyk⟩ := get_of (k := k2) rfl hlt2
          have f1 := bl_cell HS1.out.bl (hx k2 y hyk 0 _ rfl)
          simp only [elInt, Nat.mul_one, Nat.add_zero] at f1
          have HY := hid (getD_at hyk)
          clear hx hyk
          go_wp2_with fail
          refine (l1Has_any y _ (HS1.out.sees 0 rfl rfl) (by unfold maxLen; omega)).mono ?_
          rintro e w6 ⟨rfl, rfl⟩
          cases gk : hasB (groupL fs j) y
          · have HT3 : Hid (allTo (fun i => !hasB (groupL fs j) (jds.getD i 0)) (k2 + 1)) := allTo_succ HT2 (by rw [HY.out, gk]; rfl)
            clear HT2
            go_wp2
            go_round
            case rel => exact ⟨k2 + 1, by omega, by go_num, HT3⟩
            case measure => simp [intOf]; omega
          · have HE : Hid (apS fs ids jds = false) := allB_no hlt (by rw [HX.out]; exact allB_no hlt2 (by rw [HY.out, gk]; rfl))
            clear HT2
            go_wp2
            go_ret
            exact ⟨by rw [HE.out]; rfl, HS1.out.bl⟩
        · have HT3 : Hid (allTo (apAt fs ids jds) (k + 1)) := allTo_succ HT (by rw [HX.out]; exact allB_yes HT2 (by omega))
          have HS2 := hid (HS1.out.drop 1)
          obtain rfl : k2 = jds.length := by omega
          clear HT2 hlt2 HT
          go_wp2
          refine ⟨?_, by simp [intOf]; omega⟩
          first
            | exact ⟨k + 1, by omega, by go_num, HS2, HT3⟩
            | ((repeat apply Exists.intro); exact ⟨⟨k + 1, by omega, by go_num, HS2, HT3⟩, rfl⟩)
    · have hkn : k = ids.length := by omega
      have HE : Hid (apS fs ids jds = true) := allB_yes HT hkn
      clear hlt
      go_wp2
      go_ret
      exact ⟨by rw [HE.out]; rfl, HS.out.bl⟩
set_option maxHeartbeats 2000000 in
set_option maxRecDepth 100000 in
theorem specRiskDisjoint (w : World) (h : NetIs w A n c A' m d xs fs) (hr : RtIs w R ids.length er ids) (hq : RtIs w Q jds.length eq jds) :
    Calls Try.prog 32 #[.agg #[.slice A n c, .slice A' m d], .agg #[.int .i64 s, .slice R ids.length er], .agg #[.int .i64 t, .slice Q jds.length eq]] w fun e w' => e = .returned (.tuple #[.bool (rdV xs fs s ids t jds), .bool (shB xs fs s ids t jds)]) ∧ Below w.heap.size w w' := by
  have hS := (((Led.nil w).blk_ w.heap.size rfl 36 #[.slice A n c, .slice A' m d]).blk_ (w.heap.size + 1) (by simp) 31 #[.int .i64 s, .slice R ids.length er]).blk_ (w.heap.size + 1 + 1) (by simp) 31 #[.int .i64 t, .slice Q jds.length eq]
  have HB : Hid (shB xs fs s ids t jds = (routeB xs fs s ids && routeB xs fs t jds)) := rfl
  cases g : routeB xs fs s ids
  · have H : Hid (rdV xs fs s ids t jds = false) := by unfold Hid rdV shB; rw [g]; rfl
    rw [HB.out, g]
    go_enter Try.func32, Try.ntmps32
    go_wp2_with fail
    refine (l4Good_any s _ (h.grow hS.bl) (hr.grow hS.bl)).mono ?_
    rintro e w1 ⟨rfl, hb⟩
    replace hS := hS.step hb
    clear hb
    rw [g]
    have q0 := hS.cell 2 0 rfl rfl
    have q1 := hS.cell 2 1 rfl rfl
    have q2 := hS.cell 0 0 rfl rfl
    have q3 := hS.cell 0 1 rfl rfl
    have HS := hid hS
    clear hS
    go_wp2_with fail
    go_ret2
    exact ⟨by rw [H.out]; rfl, HS.out.bl⟩
  · cases g2 : routeB xs fs t jds
    · have H : Hid (rdV xs fs s ids t jds = false) := by unfold Hid rdV shB; rw [g, g2]; rfl
      rw [HB.out, g, g2]
      go_enter Try.func32, Try.ntmps32
      go_wp2_with fail
      refine (l4Good_any s _ (h.grow hS.bl) (hr.grow hS.bl)).mono ?_
      rintro e w1 ⟨rfl, hb⟩
      replace hS := hS.step hb
      clear hb
      rw [g]
      have q0 := hS.cell 2 0 rfl rfl
      have q1 := hS.cell 2 1 rfl rfl
      have q2 := hS.cell 0 0 rfl rfl
      have q3 := hS.cell 0 1 rfl rfl
      go_wp2_with fail
      refine (l4Good_any t _ (h.grow hS.bl) (hq.grow hS.bl)).mono ?_
      rintro e w2 ⟨rfl, hb⟩
      replace hS := hS.step hb
      clear hb
      rw [g2]
      have HS := hid hS
      clear hS
      go_wp2_with fail
      go_ret2
      exact ⟨by rw [H.out]; rfl, HS.out.bl⟩
    · have H : Hid (rdV xs fs s ids t jds = apB fs ids jds) := by unfold Hid rdV shB; rw [g, g2]; rfl
      rw [HB.out, g, g2]
      go_enter Try.func32, Try.ntmps32
      go_wp2_with fail
      refine (l4Good_any s _ (h.grow hS.bl) (hr.grow hS.bl)).mono ?_
      rintro e w1 ⟨rfl, hb⟩
      replace hS := hS.step hb
      clear hb
      rw [g]
      have q0 := hS.cell 2 0 rfl rfl
      have q1 := hS.cell 2 1 rfl rfl
      have q2 := hS.cell 0 0 rfl rfl
      have q3 := hS.cell 0 1 rfl rfl
      go_wp2_with fail
      refine (l4Good_any t _ (h.grow hS.bl) (hq.grow hS.bl)).mono ?_
      rintro e w2 ⟨rfl, hb⟩
      replace hS := hS.step hb
      clear hb
      rw [g2]
      clear q0 q1 q2 q3
      have hin := rtB_mem (routeB_good g).2
      have hjn := rtB_mem (routeB_good g2).2
      have HA := hid (ap_same (routeB_good g).1 hin hjn)
      have q0 := hS.cell 2 0 rfl rfl
      have q1 := hS.cell 2 1 rfl rfl
      have q2 := hS.cell 1 0 rfl rfl
      have q3 := hS.cell 1 1 rfl rfl
      have q4 := hS.cell 0 0 rfl rfl
      have q5 := hS.cell 0 1 rfl rfl
      go_wp2_with fail
      refine (l4Apart_any _ (h.grow hS.bl) (hr.grow hS.bl) (hq.grow hS.bl) hin (routeB_good g).1).mono ?_
      rintro e w3 ⟨rfl, hb⟩
      have HZ := hid (bl_then hS.bl hb)
      clear hb hS q0 q1 q2 q3 q4 q5
      go_wp2_with fail
      go_ret2
      exact ⟨by rw [H.out, HA.out]; rfl, HZ.out⟩
end
end Go.Proofs.Ytndmffmbkcagmaa
/- Routes in the ledger: equal, marked, held. Conditions: at most 1048576 fibers; marks below 2^40. -/
namespace Go.Proofs.Ytndmffmbkcagmaa
open Go.RowKit
variable {w0 : World} {L : List Thing} {base base' c c' : Nat} {A A' : Option Addr} {ids : List Int}
set_option maxHeartbeats 1000000 in
set_option maxRecDepth 100000 in
theorem markR_led {w : World} (h : Led w0 w L) (i : Nat) (hi : L[i]? = some (tOwns elInt base 3 (.slice A ids.length c) ids)) (s k : Int) (hn : ids.length ≤ 1048576) (hk0 : 0 ≤ k) (hk : k ≤ 1099511627776) :
    Calls Try.prog 19 #[.agg #[.int .i64 s, .slice A ids.length c], .int .i64 k] w fun e w' => e = .returned (.int .i64 (k + ids.length)) ∧ Led w0 w' (L.set i (tOwns elInt base 3 (.slice A ids.length c) (marks k ids.length))) := by
  have h0 := h.blk 31 #[.int .i64 s, .slice A ids.length c]
  go_enter Try.func19, Try.ntmps19
  go_wp2_with fail
  refine (markI_led h0 (i + 1) (by simpa using hi) k hn hk0 hk).mono ?_
  rintro e w1 ⟨rfl, h1⟩
  have h2 : Led w0 w1 (L.set i (tOwns elInt base 3 (.slice A ids.length c) (marks k ids.length))) := h1.drop 1
  go_wp2_with fail
  go_ret
  exact ⟨rfl, h2⟩
set_option maxHeartbeats 1000000 in
set_option maxRecDepth 100000 in
theorem heldR_led {w : World} (h : Led w0 w L) (i : Nat) (s k : Int) {n : Nat} (hi : L[i]? = some (tOwns elInt base 3 (.slice A n c) (marks k n))) (hn : n ≤ 1048576) (hk0 : 0 ≤ k) (hk : k ≤ 1099511627776) :
    Calls Try.prog 20 #[.agg #[.int .i64 s, .slice A n c], .int .i64 k] w fun e w' => e = .returned (.int .i64 (k + n)) ∧ Led w0 w' L := by
  have h0 := h.blk 31 #[.int .i64 s, .slice A n c]
  go_enter Try.func20, Try.ntmps20
  go_wp2_with fail
  refine (heldI_led h0 (i + 1) k (by simpa using hi) hn hk0 hk).mono ?_
  rintro e w1 ⟨rfl, h1⟩
  have h2 : Led w0 w1 L := h1.drop 1
  go_wp2_with fail
  go_ret
  exact ⟨rfl, h2⟩
theorem eqR_led2 {w : World} (h : Led w0 w L) (i j : Nat) (hi : L[i]? = some (tOwns elInt base 3 (.slice A ids.length c) ids)) (hj : L[j]? = some (tOwns elInt base' 3 (.slice A' ids.length c') ids)) (s : Int) (hn : ids.length ≤ 1048576) :
    Calls Try.prog 16 #[.agg #[.int .i64 s, .slice A ids.length c], .agg #[.int .i64 s, .slice A' ids.length c']] w fun e w' => e = .returned (.bool true) ∧ Led w0 w' L ∧ Below w.heap.size w w' :=
  (eqRoute_any s w (h.seesI i hi) (h.seesI j hj) hn).mono fun _ _ ⟨he, hw⟩ => ⟨he, h.step hw, hw⟩
theorem eqR_led {w : World} (h : Led w0 w L) (i j : Nat) (hi : L[i]? = some (tOwns elInt base 3 (.slice A ids.length c) ids)) (hj : L[j]? = some (tOwns elInt base' 3 (.slice A' ids.length c') ids)) (s : Int) (hn : ids.length ≤ 1048576) :
    Calls Try.prog 16 #[.agg #[.int .i64 s, .slice A ids.length c], .agg #[.int .i64 s, .slice A' ids.length c']] w fun e w' => e = .returned (.bool true) ∧ Led w0 w' L :=
  (eqR_led2 h i j hi hj s hn).mono fun _ _ ⟨he, hw, _⟩ => ⟨he, hw⟩
end Go.Proofs.Ytndmffmbkcagmaa
/- A route that came in. Conditions: none. -/
namespace Go.Proofs.Ytndmffmbkcagmaa
open Go.ChangeShapes Go.WideShapes Go.ChangeAt Go.RowKit Go.Deep Go.Joins
section
variable {H : Type} {enc : TypeId × Value → H} {W : World} {spare : Nat → Bool} {held : Bool}
theorem cellsR : Try.prog.cellsOf 28 = 2 := by kernel_rfl
/-- A route that came in. -/
def RouteArg (W : World) (s : Int) (A : Option Addr) (n c : Nat) (xs : List Int) : Prop := (-9223372036854775808 ≤ s ∧ s ≤ 9223372036854775807) ∧ IntsArg W A n c xs
set_option maxRecDepth 100000 in
theorem open_route {base : Nat} {v : Value} {d : DataW H} {p : List MemPlace} (hv : Value.okWide Try.prog W .any base 28 v) (h : DataW.Trod enc Try.prog W 0 spare held 28 v d p) :
    ∃ s A n c xs, v = .agg #[.int .i64 s, .slice A n c] ∧ RouteArg W s A n c xs := by
  obtain ⟨v0, v1, y0, y1, k, rfl, _, _, h0, h1⟩ := open_agg2 Try.underlying28 (by kernel_rfl) cellsR hv h
  obtain ⟨s, e0, hs⟩ := el_int Try.underlying3 _ _ _ h0
  obtain ⟨A, n, c, xs, e1, b1, b2, b3, b4⟩ := open_sl elInt _ Try.underlying26 cellsI (el_int Try.underlying3) h1
  simp [elInt] at e0 e1
  exact ⟨s, A, n, c, xs, by rw [e0, e1], hs, ⟨b1, b2, b3, b4⟩⟩
end
end Go.Proofs.Ytndmffmbkcagmaa
/- FnExactRiskDisjoint, walked. Conditions: none. -/
namespace Go.Proofs.Ytndmffmbkcagmaa.fnExactRiskDisjoint
open Go.RowKit
set_option maxHeartbeats 2000000 in
set_option maxRecDepth 100000 in
theorem walk (w : World) {A0 E0 : Option Addr} {n0 c0 m0 d0 : Nat} {xs0 : List ByteArray} {fs0 : List Fib} (h0 : NetArg w A0 n0 c0 E0 m0 d0 xs0 fs0) {s1 : Int} {A1 : Option Addr} {k1 c1 : Nat} {l1 : List Int} (h1 : RouteArg w s1 A1 k1 c1 l1) {s2 : Int} {A2 : Option Addr} {k2 c2 : Nat} {l2 : List Int} (h2 : RouteArg w s2 A2 k2 c2 l2) :
    Calls Try.prog 8 #[.agg #[.slice A0 n0 c0, .slice E0 m0 d0], .agg #[.int .i64 s1, .slice A1 k1 c1], .agg #[.int .i64 s2, .slice A2 k2 c2]] w fun e w' => e = .returned (.bool true) ∧ Below w.heap.size w w' := by
  obtain ⟨⟨h0nc, h0cm, h0A, h0x⟩, ⟨h0md, h0dm, h0F, _⟩⟩ := h0
  obtain ⟨_, h1nc, h1cm, h1A, _⟩ := h1
  obtain rfl := h1A.len
  obtain ⟨_, h2nc, h2cm, h2A, _⟩ := h2
  obtain rfl := h2A.len
  have hS := Led.nil w
  replace hS := hS.blk_ (w.heap.size) (by simp) 25 #[.slice A0 n0 c0, .slice E0 m0 d0]
  replace hS := hS.blk_ (w.heap.size + 1) (by simp) 28 #[.int .i64 s1, .slice A1 l1.length c1]
  replace hS := hS.blk_ (w.heap.size + 1 + 1) (by simp) 28 #[.int .i64 s2, .slice A2 l2.length c2]
  obtain ⟨r0, hr0⟩ : ∃ r, r = lessI 1048576 (netTot xs0 fs0) := ⟨_, rfl⟩
  have hlb0 := lessI_bd (left := 1048576) (t := (netTot xs0 fs0))
  rw [← hr0] at hlb0
  have HR0 := hid hr0
  clear hr0
  rcases hlb0 with ⟨hz0, _⟩ | ⟨hz0, hy0, hx0⟩
  case inl =>
    subst hz0
    go_enter Try.func8, Try.ntmps8
    go_wp2_with fail
    refine (szNetwork_any 1048576 _ (h0A.below hS.bl) (h0F.below hS.bl) hS.bl.size (by omega) (by omega) h0x (by omega) (by omega)).mono ?_
    rintro e W1 ⟨rfl, hb⟩; replace hS := hS.step hb; clear hb
    rw [← HR0.out]
    go_wp2_with fail
    go_ret
    exact ⟨rfl, hS.bl⟩
  have h0n : n0 ≤ 1048576 := by have := h0A.len; unfold netTot strTot at hx0; omega
  have h0m : m0 ≤ 1048576 := by have := h0F.len; unfold netTot strTot at hx0; omega
  have h0I := hid (show NetIs w A0 n0 c0 E0 m0 d0 xs0 fs0 from ⟨⟨h0nc, h0n⟩, ⟨h0md, h0m⟩, h0A, h0F, h0x⟩)
  clear hx0
  obtain ⟨r1, hr1⟩ : ∃ r, r = lessI r0 l1.length := ⟨_, rfl⟩
  have hlb1 := lessI_bd (left := r0) (t := l1.length)
  rw [← hr1] at hlb1
  have HR1 := hid hr1
  clear hr1
  rcases hlb1 with ⟨hz1, _⟩ | ⟨hz1, hy1, hx1⟩
  case inl =>
    subst hz1
    go_enter Try.func8, Try.ntmps8
    go_wp2_with fail
    refine (szNetwork_any 1048576 _ (h0A.below hS.bl) (h0F.below hS.bl) hS.bl.size (by omega) (by omega) h0x (by omega) (by omega)).mono ?_
    rintro e W1 ⟨rfl, hb⟩; replace hS := hS.step hb; clear hb
    rw [← HR0.out]
    have q0 := hS.cell 1 0 rfl rfl
    have q1 := hS.cell 1 1 rfl rfl
    go_wp2_with fail
    refine (szRoute_any s1 r0 _ (by omega) (by omega) (by omega)).mono ?_
    rintro e W2 ⟨rfl, hb⟩; replace hS := hS.step hb; clear hb
    rw [← HR1.out]
    clear q0 q1
    go_wp2_with fail
    go_ret
    exact ⟨rfl, hS.bl⟩
  have h1n : l1.length ≤ 1048576 := by omega
  have h1I := hid (show RtIs w A1 l1.length c1 l1 from ⟨⟨h1nc, h1n⟩, h1A⟩)
  clear hx1
  obtain ⟨r2, hr2⟩ : ∃ r, r = lessI r1 l2.length := ⟨_, rfl⟩
  have hlb2 := lessI_bd (left := r1) (t := l2.length)
  rw [← hr2] at hlb2
  have HR2 := hid hr2
  clear hr2
  rcases hlb2 with ⟨hz2, _⟩ | ⟨hz2, hy2, hx2⟩
  case inl =>
    subst hz2
    go_enter Try.func8, Try.ntmps8
    go_wp2_with fail
    refine (szNetwork_any 1048576 _ (h0A.below hS.bl) (h0F.below hS.bl) hS.bl.size (by omega) (by omega) h0x (by omega) (by omega)).mono ?_
    rintro e W1 ⟨rfl, hb⟩; replace hS := hS.step hb; clear hb
    rw [← HR0.out]
    have q0 := hS.cell 1 0 rfl rfl
    have q1 := hS.cell 1 1 rfl rfl
    go_wp2_with fail
    refine (szRoute_any s1 r0 _ (by omega) (by omega) (by omega)).mono ?_
    rintro e W2 ⟨rfl, hb⟩; replace hS := hS.step hb; clear hb
    rw [← HR1.out]
    clear q0 q1
    have q0 := hS.cell 0 0 rfl rfl
    have q1 := hS.cell 0 1 rfl rfl
    go_wp2_with fail
    refine (szRoute_any s2 r1 _ (by omega) (by omega) (by omega)).mono ?_
    rintro e W3 ⟨rfl, hb⟩; replace hS := hS.step hb; clear hb
    rw [← HR2.out]
    clear q0 q1
    go_wp2_with fail
    go_ret
    exact ⟨rfl, hS.bl⟩
  have h2n : l2.length ≤ 1048576 := by omega
  have h2I := hid (show RtIs w A2 l2.length c2 l2 from ⟨⟨h2nc, h2n⟩, h2A⟩)
  clear hx2
  go_enter Try.func8, Try.ntmps8
  go_wp2_with fail
  refine (szNetwork_any 1048576 _ (h0A.below hS.bl) (h0F.below hS.bl) hS.bl.size (by omega) (by omega) h0x (by omega) (by omega)).mono ?_
  rintro e W1 ⟨rfl, hb⟩; replace hS := hS.step hb; clear hb
  rw [← HR0.out]
  have q0 := hS.cell 1 0 rfl rfl
  have q1 := hS.cell 1 1 rfl rfl
  go_wp2_with fail
  refine (szRoute_any s1 r0 _ (by omega) (by omega) (by omega)).mono ?_
  rintro e W2 ⟨rfl, hb⟩; replace hS := hS.step hb; clear hb
  rw [← HR1.out]
  clear q0 q1
  have q0 := hS.cell 0 0 rfl rfl
  have q1 := hS.cell 0 1 rfl rfl
  go_wp2_with fail
  refine (szRoute_any s2 r1 _ (by omega) (by omega) (by omega)).mono ?_
  rintro e W3 ⟨rfl, hb⟩; replace hS := hS.step hb; clear hb
  rw [← HR2.out]
  clear q0 q1
  -- the reference
  have C0 : ∀ w', Cls W3 w' → w'.cell? ⟨w.heap.size, 0, none⟩ = some (.slice A0 n0 c0) := fun _ h => h.cell (hS.cell 2 0 rfl rfl)
  have C1 : ∀ w', Cls W3 w' → w'.cell? ⟨w.heap.size, 1, none⟩ = some (.slice E0 m0 d0) := fun _ h => h.cell (hS.cell 2 1 rfl rfl)
  have C2 : ∀ w', Cls W3 w' → w'.cell? ⟨w.heap.size + 1, 0, none⟩ = some (.int .i64 s1) := fun _ h => h.cell (hS.cell 1 0 rfl rfl)
  have C3 : ∀ w', Cls W3 w' → w'.cell? ⟨w.heap.size + 1, 1, none⟩ = some (.slice A1 l1.length c1) := fun _ h => h.cell (hS.cell 1 1 rfl rfl)
  have C4 : ∀ w', Cls W3 w' → w'.cell? ⟨w.heap.size + 1 + 1, 0, none⟩ = some (.int .i64 s2) := fun _ h => h.cell (hS.cell 0 0 rfl rfl)
  have C5 : ∀ w', Cls W3 w' → w'.cell? ⟨w.heap.size + 1 + 1, 1, none⟩ = some (.slice A2 l2.length c2) := fun _ h => h.cell (hS.cell 0 1 rfl rfl)
  have HL := hid (fun w' (h : Cls W3 w') => hS.step h)
  go_wp2_with fail
  go_region_held3 (fun w' => Cls W3 w') (first | exact Cls.drew _ | exact Cls.next (by assumption) (by assumption))
    (first
      | (go_at_call 13; refine (toNetwork_own _ (h0I.out.grow (HL.out _ (by assumption)).bl).strs (h0I.out.grow (HL.out _ (by assumption)).bl).fibs (Nat.le_refl _) h0n h0m).mono ?_; rintro e w' ⟨Aw0, cw0, Ew0, dw0, rfl, ho_w0, hb_w0⟩; have hLw0 := (HL.out _ (by assumption)).net hb_w0 ho_w0)
      | (go_at_call_of 14 (Value.slice A1 l1.length c1); refine (toRoute_any s1 _ (h1I.out.grow hLw0.bl).2 (Nat.le_refl _) h1n).mono ?_; rintro e w' ⟨Aw1, cw1, rfl, _, ho_w1, hb_w1⟩; have hLw1 := hLw0.owns hb_w1 ho_w1)
      | (go_at_call_of 14 (Value.slice A2 l2.length c2); refine (toRoute_any s2 _ (h2I.out.grow hLw1.bl).2 (Nat.le_refl _) h2n).mono ?_; rintro e w' ⟨Aw2, cw2, rfl, _, ho_w2, hb_w2⟩; have hLw2 := hLw1.owns hb_w2 ho_w2)
      | (go_at_call 32; refine (specRiskDisjoint _ (hLw2.netIs 2 rfl h0n h0m h0x) (hLw2.rt 1 rfl h1n) (hLw2.rt 0 rfl h2n)).mono ?_; rintro e w' ⟨rfl, hb⟩))
  have hS2 := hLw2
  clear HL C0 C1 C2 C3 C4 C5
  replace hS2 := hS2.step hb
  clear hS
  have hS := hS2
  clear hS2 hb hLw0 hb_w0 ho_w0 hLw1 hb_w1 ho_w1 hLw2 hb_w2 ho_w2
  generalize w' = W4 at *
  -- the program on copies that are kept
  have q0 := hS.cell 5 0 rfl rfl
  have q1 := hS.cell 5 1 rfl rfl
  go_wp2_with fail
  refine (toNetwork_own _ (h0I.out.grow hS.bl).strs (h0I.out.grow hS.bl).fibs (Nat.le_refl _) h0n h0m).mono ?_
  rintro e W5 ⟨Ax0, cx0, Ex0, dx0, rfl, ho, hb⟩
  replace hS := hS.net hb ho
  clear hb ho
  clear q0 q1
  replace hS := hS.blk_ (W5.heap.size) (by simp) 36 #[.slice Ax0 n0 cx0, .slice Ex0 m0 dx0]
  have q0 := hS.cell 6 0 rfl rfl
  have q1 := hS.cell 6 1 rfl rfl
  go_wp2_with fail
  refine (toRoute_any s1 _ (h1I.out.grow hS.bl).2 (Nat.le_refl _) h1n).mono ?_
  rintro e W6 ⟨Ax1, cx1, rfl, _, ho, hb⟩
  replace hS := hS.owns hb ho
  clear hb ho
  clear q0 q1
  replace hS := hS.blk_ (W6.heap.size) (by simp) 31 #[.int .i64 s1, .slice Ax1 l1.length cx1]
  have q0 := hS.cell 7 0 rfl rfl
  have q1 := hS.cell 7 1 rfl rfl
  go_wp2_with fail
  refine (toRoute_any s2 _ (h2I.out.grow hS.bl).2 (Nat.le_refl _) h2n).mono ?_
  rintro e W7 ⟨Ax2, cx2, rfl, _, ho, hb⟩
  replace hS := hS.owns hb ho
  clear hb ho
  clear q0 q1
  replace hS := hS.blk_ (W7.heap.size) (by simp) 31 #[.int .i64 s2, .slice Ax2 l2.length cx2]
  have q0 := hS.cell 4 0 rfl rfl
  have q1 := hS.cell 4 1 rfl rfl
  have q2 := hS.cell 2 0 rfl rfl
  have q3 := hS.cell 2 1 rfl rfl
  go_wp2_with fail
  refine (implRiskDisjoint _ (hS.netIs 5 rfl h0n h0m h0x) (hS.rt 3 rfl h1n) (hS.rt 1 rfl h2n)).mono ?_
  rintro e W8 ⟨rfl, hb⟩
  replace hS := hS.step hb
  clear hb
  clear q0 q1 q2 q3
  -- the results are equal
  -- the arguments are as they were
  have C0 : ∀ w', Cls W8 w' → w'.cell? ⟨w.heap.size, 0, none⟩ = some (.slice A0 n0 c0) := fun _ h => h.cell (hS.cell 11 0 rfl rfl)
  have C1 : ∀ w', Cls W8 w' → w'.cell? ⟨w.heap.size, 1, none⟩ = some (.slice E0 m0 d0) := fun _ h => h.cell (hS.cell 11 1 rfl rfl)
  have C2 : ∀ w', Cls W8 w' → w'.cell? ⟨W5.heap.size, 0, none⟩ = some (.slice Ax0 n0 cx0) := fun _ h => h.cell (hS.cell 4 0 rfl rfl)
  have C3 : ∀ w', Cls W8 w' → w'.cell? ⟨W5.heap.size, 1, none⟩ = some (.slice Ex0 m0 dx0) := fun _ h => h.cell (hS.cell 4 1 rfl rfl)
  have HL := hid (fun w' (h : Cls W8 w') => hS.step h)
  go_wp2_with fail
  go_region_held3 (fun w' => Cls W8 w') (first | exact Cls.drew _ | exact Cls.next (by assumption) (by assumption))
    (first
      | (go_at_call 13; refine (toNetwork_own _ (h0I.out.grow (HL.out _ (by assumption)).bl).strs (h0I.out.grow (HL.out _ (by assumption)).bl).fibs (Nat.le_refl _) h0n h0m).mono ?_; rintro e w' ⟨Ay0, cy0, Ey0, dy0, rfl, ho1, hb1⟩; have hL1 := (HL.out _ (by assumption)).net hb1 ho1)
      | (go_at_call 17; refine (eqN_led2 hL1 6 0 rfl rfl h0n h0m).mono ?_; rintro e w' ⟨rfl, hS2, hb2⟩))
  clear HL hL1 ho1 hb1 hb2 C0 C1 C2 C3
  replace hS := hS2.drop 1
  clear hS2
  dsimp only [List.drop] at hS
  generalize w' = W9 at *
  have C0 : ∀ w', Cls W9 w' → w'.cell? ⟨w.heap.size + 1, 0, none⟩ = some (.int .i64 s1) := fun _ h => h.cell (hS.cell 10 0 rfl rfl)
  have C1 : ∀ w', Cls W9 w' → w'.cell? ⟨w.heap.size + 1, 1, none⟩ = some (.slice A1 l1.length c1) := fun _ h => h.cell (hS.cell 10 1 rfl rfl)
  have C2 : ∀ w', Cls W9 w' → w'.cell? ⟨W6.heap.size, 0, none⟩ = some (.int .i64 s1) := fun _ h => h.cell (hS.cell 2 0 rfl rfl)
  have C3 : ∀ w', Cls W9 w' → w'.cell? ⟨W6.heap.size, 1, none⟩ = some (.slice Ax1 l1.length cx1) := fun _ h => h.cell (hS.cell 2 1 rfl rfl)
  have HL := hid (fun w' (h : Cls W9 w') => hS.step h)
  go_wp2_with fail
  go_region_held3 (fun w' => Cls W9 w') (first | exact Cls.drew _ | exact Cls.next (by assumption) (by assumption))
    (first
      | (go_at_call 14; refine (toRoute_any s1 _ (h1I.out.grow (HL.out _ (by assumption)).bl).2 (Nat.le_refl _) h1n).mono ?_; rintro e w' ⟨Ay1, cy1, rfl, _, ho1, hb1⟩; have hL1 := (HL.out _ (by assumption)).owns hb1 ho1)
      | (go_at_call 16; refine (eqR_led2 hL1 4 0 rfl rfl s1 h1n).mono ?_; rintro e w' ⟨rfl, hS2, hb2⟩))
  clear HL hL1 ho1 hb1 hb2 C0 C1 C2 C3
  replace hS := hS2.drop 1
  clear hS2
  dsimp only [List.drop] at hS
  generalize w' = W10 at *
  have C0 : ∀ w', Cls W10 w' → w'.cell? ⟨w.heap.size + 1 + 1, 0, none⟩ = some (.int .i64 s2) := fun _ h => h.cell (hS.cell 9 0 rfl rfl)
  have C1 : ∀ w', Cls W10 w' → w'.cell? ⟨w.heap.size + 1 + 1, 1, none⟩ = some (.slice A2 l2.length c2) := fun _ h => h.cell (hS.cell 9 1 rfl rfl)
  have C2 : ∀ w', Cls W10 w' → w'.cell? ⟨W7.heap.size, 0, none⟩ = some (.int .i64 s2) := fun _ h => h.cell (hS.cell 0 0 rfl rfl)
  have C3 : ∀ w', Cls W10 w' → w'.cell? ⟨W7.heap.size, 1, none⟩ = some (.slice Ax2 l2.length cx2) := fun _ h => h.cell (hS.cell 0 1 rfl rfl)
  have HL := hid (fun w' (h : Cls W10 w') => hS.step h)
  go_wp2_with fail
  go_region_held3 (fun w' => Cls W10 w') (first | exact Cls.drew _ | exact Cls.next (by assumption) (by assumption))
    (first
      | (go_at_call 14; refine (toRoute_any s2 _ (h2I.out.grow (HL.out _ (by assumption)).bl).2 (Nat.le_refl _) h2n).mono ?_; rintro e w' ⟨Ay2, cy2, rfl, _, ho1, hb1⟩; have hL1 := (HL.out _ (by assumption)).owns hb1 ho1)
      | (go_at_call 16; refine (eqR_led2 hL1 2 0 rfl rfl s2 h2n).mono ?_; rintro e w' ⟨rfl, hS2, hb2⟩))
  clear HL hL1 ho1 hb1 hb2 C0 C1 C2 C3
  replace hS := hS2.drop 1
  clear hS2
  dsimp only [List.drop] at hS
  generalize w' = W11 at *
  go_wp2_with fail
  go_ret
  exact ⟨rfl, hS.bl⟩
end Go.Proofs.Ytndmffmbkcagmaa.fnExactRiskDisjoint
