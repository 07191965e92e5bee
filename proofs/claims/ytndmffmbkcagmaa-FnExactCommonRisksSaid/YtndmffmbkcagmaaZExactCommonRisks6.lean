/- Lemmas and walks that the claim rests on, laid together. Conditions: none. -/
import Derived.Test.YtndmffmbkcagmaaZExactCommonRisks5
import Derived.Test.YtndmffmbkcagmaaZExactCommonRisks0
import Derived.Deep.RegionHeld3
import Derived.Test.YtndmffmbkcagmaaZExactCommonRisks3
import Derived.Test.YtndmffmbkcagmaaZExactCommonRisks4
import Derived.Deep.RegionLaw
/- The order of routes, walked: slices.Compare, compareRoutes, l4Compare, CompareRoutes of both sides. Conditions: as each states. -/
namespace Go.Proofs.Ytndmffmbkcagmaa
open Go.RowKit
theorem Cls.onto {w w1 w2 : World} (h : Cls w w1) (k : Cls w1 w2) : Cls w w2 := bl_then h k
theorem sgn_cmp (x y : Int) : sgnI (x - y) = cmpB x y := by
  unfold sgnI cmpB
  split
  · rw [if_pos (by omega)]
  · split
    · rw [if_neg (by omega), if_pos (by omega)]
    · rw [if_neg (by omega), if_neg (by omega)]
/-- Two routes in their order. -/
def ordR (fs : List Fib) (s : Int) (a : List Int) (t : Int) (b : List Int) : Int := orI [cmpB (lenR fs a) (lenR fs b), cmpB (a.length : Int) (b.length : Int), cmpL a b, cmpB s t]
theorem ordR_len {fs : List Fib} {s t : Int} {a b : List Int} (h : lenR fs a ≠ lenR fs b) : ordR fs s a t b = sgnI (lenR fs a - lenR fs b) := by
  unfold ordR orI; rw [sgn_cmp, if_neg (by rw [cmpB_zero]; exact h)]
theorem ordR_num {fs : List Fib} {s t : Int} {a b : List Int} (h : lenR fs a = lenR fs b) (h2 : (a.length : Int) ≠ b.length) : ordR fs s a t b = sgnI ((a.length : Int) - b.length) := by
  unfold ordR orI orI; rw [sgn_cmp, if_pos (by rw [cmpB_zero]; exact h), if_neg (by rw [cmpB_zero]; exact h2)]
theorem ordR_list {fs : List Fib} {s t : Int} {a b : List Int} (h : lenR fs a = lenR fs b) (h2 : a.length = b.length) (h3 : cmpL a b ≠ 0) : ordR fs s a t b = cmpL a b := by
  unfold ordR orI orI orI; rw [if_pos (by rw [cmpB_zero]; exact h), if_pos (by rw [cmpB_zero]; omega), if_neg h3]
theorem ordR_start {fs : List Fib} {s t : Int} {a : List Int} : ordR fs s a t a = sgnI (s - t) := by
  unfold ordR orI orI orI orI orI; rw [if_pos (by rw [cmpB_zero]), if_pos (by rw [cmpB_zero]), if_pos (cmpL_same a), sgn_cmp]
  split
  · rename_i h; exact h.symm
  · rfl
section
variable {n c m d er eq : Nat} {A A' R Q : Option Addr} {xs : List ByteArray} {fs : List Fib} {s t : Int} {ids jds : List Int}
set_option maxHeartbeats 2000000 in
set_option maxRecDepth 100000 in
theorem areRoutes_any (w : World) (h : NetIs w A n c A' m d xs fs) (hr : RtIs w R ids.length er ids) (hq : RtIs w Q jds.length eq jds) :
    Calls Try.prog 57 #[.agg #[.slice A n c, .slice A' m d], .agg #[.int .i64 s, .slice R ids.length er], .agg #[.int .i64 t, .slice Q jds.length eq]] w fun e w' => e = .returned (.bool (routeB xs fs s ids && routeB xs fs t jds)) ∧ Below w.heap.size w w' := by
  have hS := (((Led.nil w).blk_ w.heap.size rfl 36 #[.slice A n c, .slice A' m d]).blk_ (w.heap.size + 1) (by simp) 31 #[.int .i64 s, .slice R ids.length er]).blk_ (w.heap.size + 1 + 1) (by simp) 31 #[.int .i64 t, .slice Q jds.length eq]
  cases g : routeB xs fs s ids
  · go_enter Try.func57, Try.ntmps57
    go_wp2_with fail
    refine (implIsValidRoute s _ (h.grow hS.bl) (hr.grow hS.bl)).mono ?_
    rintro e w1 ⟨rfl, hb⟩
    replace hS := hS.step hb
    rw [g]
    have q0 := hS.cell 2 0 rfl rfl
    have q1 := hS.cell 2 1 rfl rfl
    have q2 := hS.cell 1 0 rfl rfl
    have q3 := hS.cell 1 1 rfl rfl
    have q4 := hS.cell 0 0 rfl rfl
    have q5 := hS.cell 0 1 rfl rfl
    go_wp2_with fail
    go_ret
    exact ⟨rfl, hS.bl⟩
  · go_enter Try.func57, Try.ntmps57
    go_wp2_with fail
    refine (implIsValidRoute s _ (h.grow hS.bl) (hr.grow hS.bl)).mono ?_
    rintro e w1 ⟨rfl, hb⟩
    replace hS := hS.step hb
    rw [g]
    have q0 := hS.cell 2 0 rfl rfl
    have q1 := hS.cell 2 1 rfl rfl
    have q2 := hS.cell 1 0 rfl rfl
    have q3 := hS.cell 1 1 rfl rfl
    have q4 := hS.cell 0 0 rfl rfl
    have q5 := hS.cell 0 1 rfl rfl
    go_wp2_with fail
    refine (implIsValidRoute t _ (h.grow hS.bl) (hq.grow hS.bl)).mono ?_
    rintro e w2 ⟨rfl, hb2⟩
    go_wp2_with fail
    go_ret
    exact ⟨rfl, bl_then hS.bl hb2⟩
/-- CompareRoutes. -/
def crB (xs : List ByteArray) (fs : List Fib) (s : Int) (a : List Int) (t : Int) (b : List Int) : Bool := routeB xs fs s a && routeB xs fs t b
def crI (xs : List ByteArray) (fs : List Fib) (s : Int) (a : List Int) (t : Int) (b : List Int) : Int := if crB xs fs s a t b then ordR fs s a t b else 0
theorem routeB_start {xs : List ByteArray} {fs : List Fib} {s : Int} {a : List Int} (h : routeB xs fs s a = true) : 0 ≤ s ∧ s ≤ 1048576 := by
  obtain ⟨hg, hr⟩ := routeB_good h
  have h1 := inB_idx (rtB_parts hr).1
  have := (goodB_bd hg).2.1
  omega
end
end Go.Proofs.Ytndmffmbkcagmaa
/- SharedFibers of both sides, walked. Conditions: none. -/
namespace Go.Proofs.Ytndmffmbkcagmaa
open Go.RowKit
def shB (xs : List ByteArray) (fs : List Fib) (s : Int) (a : List Int) (t : Int) (b : List Int) : Bool := routeB xs fs s a && routeB xs fs t b
def shL (xs : List ByteArray) (fs : List Fib) (s : Int) (a : List Int) (t : Int) (b : List Int) : List Int := if shB xs fs s a t b then comL a b else []
section
variable {n c m d er eq : Nat} {A A' R Q : Option Addr} {xs : List ByteArray} {fs : List Fib} {ids jds : List Int} {s t : Int}
set_option maxHeartbeats 2000000 in
set_option maxRecDepth 100000 in
theorem implShared (w : World) (h : NetIs w A n c A' m d xs fs) (hr : RtIs w R ids.length er ids) (hq : RtIs w Q jds.length eq jds) :
    Calls Try.prog 24 #[.agg #[.slice A n c, .slice A' m d], .agg #[.int .i64 s, .slice R ids.length er], .agg #[.int .i64 t, .slice Q jds.length eq]] w fun e w' => ∃ v, e = .returned (.tuple #[v, .bool (shB xs fs s ids t jds)]) ∧ Owns elInt w' w.heap.size 3 v (shL xs fs s ids t jds) ∧ Below w.heap.size w w' := by
  have hS := (((Led.nil w).blk_ w.heap.size rfl 36 #[.slice A n c, .slice A' m d]).blk_ (w.heap.size + 1) (by simp) 31 #[.int .i64 s, .slice R ids.length er]).blk_ (w.heap.size + 1 + 1) (by simp) 31 #[.int .i64 t, .slice Q jds.length eq]
  have HB : Hid (shB xs fs s ids t jds = (routeB xs fs s ids && routeB xs fs t jds)) := rfl
  cases g : (routeB xs fs s ids && routeB xs fs t jds)
  · have H : Hid (shL xs fs s ids t jds = []) := by unfold Hid shL shB; rw [g]; rfl
    rw [HB.out, g]
    go_enter Try.func24, Try.ntmps24
    go_wp2_with fail
    refine (areRoutes_any _ (h.grow hS.bl) (hr.grow hS.bl) (hq.grow hS.bl)).mono ?_
    rintro e w1 ⟨rfl, hb⟩
    rw [g]
    go_wp2_with fail
    go_ret2
    exact ⟨_, rfl, by rw [H.out]; exact World.ownsRow_nil _ _ _ _, bl_then hS.bl hb⟩
  · have H : Hid (shL xs fs s ids t jds = comL ids jds) := by unfold Hid shL shB; rw [g]; rfl
    rw [HB.out, g]
    go_enter Try.func24, Try.ntmps24
    go_wp2_with fail
    refine (areRoutes_any _ (h.grow hS.bl) (hr.grow hS.bl) (hq.grow hS.bl)).mono ?_
    rintro e w1 ⟨rfl, hb⟩
    rw [g]
    replace hS := hS.step hb
    have q1 := hS.cell 0 1 rfl rfl
    have q3 := hS.cell 1 1 rfl rfl
    go_wp2_with fail
    refine (common_any _ (hr.grow hS.bl).2 (hq.grow hS.bl).2 hr.le hq.le).mono ?_
    rintro e w2 ⟨v, rfl, ho, hb2⟩
    have HO := hid (ho.base (base' := w.heap.size) hS.bl.size)
    have HZ := hid (bl_then hS.bl hb2)
    clear ho hb2 hb hS
    go_wp2_with fail
    go_ret2
    exact ⟨_, rfl, by rw [H.out]; exact HO.out, HZ.out⟩
end
end Go.Proofs.Ytndmffmbkcagmaa
/- slices.IndexFunc over rows, groupOf, walked. Conditions: none. -/
namespace Go.Proofs.Ytndmffmbkcagmaa
open Go.RowKit
section
variable {n c : Nat} {A : Option Addr} {ss : List Sl} {rows : List (List Int)} {F : FuncId} {cap : Array Value}
set_option maxHeartbeats 1000000 in
set_option maxRecDepth 100000 in
theorem indexFuncSS_any (p : List Int → Bool) (w : World) (hA : SeesSS w A n ss rows) (hn : n ≤ 1048576)
    (hcall : ∀ args wr, (callFunc F args).run Try.prog wr = .ok (.enter F args) wr)
    (hF : ∀ (i : Nat) s r w', ss[i]? = some s → rows[i]? = some r → Cls w w' → Calls Try.prog F (#[.slice s.A s.n s.c] ++ cap) w' fun e w2 => e = .returned (.bool (p r)) ∧ Below w'.heap.size w' w2) :
    Calls Try.prog 110 #[.slice A n c, .func (.func F) #[] cap] w fun e w' => e = .returned (.int .i64 (findP p rows)) ∧ Below w.heap.size w w' := by
  have HF := hid hF
  have hlr : rows.length = n := by rw [← hA.2.1]; exact hA.1.len
  have HLR := hid hlr
  clear hF hlr
  go_enter Try.func110, Try.ntmps110
  go_wp2
  go_loopw [8] (fun i wr => ∃ k : Nat, k ≤ n ∧ i = .int .i64 k ∧ Hid (noneP p rows k) ∧ Below w.heap.size w wr) (fun i _ => n - (intOf i).toNat)
  case atStart => exact ⟨0, Nat.zero_le _, rfl, noneP_zero _ _, Below.refl _ _⟩
  case round =>
    obtain ⟨k, hk, rfl, hno, hb⟩ := hrel
    by_cases hlt : k < n
    · obtain ⟨b, o, rfl, _, hc⟩ := hA.1.at_ hlt
      obtain ⟨x, hxk⟩ := get_of (k := k) HLR.out hlt
      obtain ⟨s, hsk⟩ := get_of (k := k) hA.1.len hlt
      have hcx := bl_cell hb (hc k s hsk 0 _ rfl)
      simp only [elSl, Nat.mul_one, Nat.add_zero, slV] at hcx
      have HC := hid (HF.out k s x wr hsk hxk hb)
      clear hc
      go_wp2_with fail
      refine HC.out.mono ?_
      rintro e w' ⟨rfl, hb2⟩
      have hbb : Below w.heap.size w w' := bl_then hb hb2
      clear HC hcx hb hb2
      by_cases hp : p x = true
      · have HR := hid (findP_at hno.out hxk hp)
        clear hno hxk
        rw [hp]
        go_wp2_with fail
        go_ret
        exact ⟨by rw [HR.out]; rfl, hbb⟩
      · have hp' : p x = false := by simpa using hp
        have HR := hid (noneP_succ hno.out hxk hp')
        clear hno hxk
        rw [hp']
        go_wp2_with fail
        exact ⟨⟨k + 1, by omega, by go_num, HR, hbb⟩, by simp [intOf]; omega⟩
    · have HN := hid (findP_none (p := p) HLR.out (by obtain rfl : k = n := (by omega); exact hno.out))
      clear hno
      go_wp2
      go_ret
      exact ⟨by rw [HN.out]; rfl, hb⟩
end
section
variable {n c m d : Nat} {A A' : Option Addr} {xs : List ByteArray} {fs : List Fib}
set_option maxRecDepth 100000 in
theorem groupOfC (i : Int) {n c : Nat} {A : Option Addr} {r : List Int} (w : World) (g : Nat) (hg : Blk w g 3 #[.int .i64 i]) (hs : Sees elInt w w.heap.size A n r) (hn : n ≤ maxLen) :
    Calls Try.prog 112 #[.slice A n c, .pointer (some ⟨g, 0, none⟩)] w fun e w' => e = .returned (.bool (hasB r i)) ∧ Below w.heap.size w w' := by
  have q0 := hg.cell 0
  simp at q0
  go_enter Try.func112, Try.ntmps112
  go_wp2_with fail
  refine (containsI_any i _ hs hn).mono ?_
  rintro e w2 ⟨rfl, rfl⟩
  go_wp2_with fail
  go_ret
  exact ⟨rfl, Below.refl _ _⟩
theorem grp_small {r : List Int} (h : r ∈ groupsL fs) (hf : fs.length ≤ 1048576) : r.length ≤ 1048577 := by
  have := groups_row h; omega
set_option maxHeartbeats 1000000 in
set_option maxRecDepth 100000 in
theorem groupOf_any (i : Int) (w : World) (h : NetIs w A n c A' m d xs fs) (hm : m ≤ 1000000) :
    Calls Try.prog 90 #[.agg #[.slice A n c, .slice A' m d], .int .i64 i] w fun e w' => e = .returned (.int .i64 (grpI fs i)) ∧ Below w.heap.size w w' := by
  have hb0 := bl_alloc (bl_alloc (Below.refl w.heap.size w) (.cells #[.slice A n c, .slice A' m d] 36)) (.cells #[.int .i64 i] 3)
  have hx0 : Blk ((w.alloc (.cells #[.slice A n c, .slice A' m d] 36)).alloc (.cells #[.int .i64 i] 3)) (w.heap.size + 1) 3 #[.int .i64 i] := by
    have := Blk.new (w.alloc (.cells #[.slice A n c, .slice A' m d] 36)) 3 #[.int .i64 i]
    simpa using this
  have h0 := h.grow hb0
  have hfl := hid h.flen
  have HG : Hid (grpI fs i = findP (fun r => hasB r i) (groupsL fs)) := rfl
  go_enter Try.func90, Try.ntmps90
  go_wp2_with fail
  refine (groups_any _ h0).mono ?_
  rintro e w2 ⟨⟨A2, n2, c2⟩, ss, rfl, hs, hb2⟩
  dsimp only [slV] at hs ⊢
  have hx2 := hid (hx0.below hb2 hx0.lt)
  have hbw := bl_then hb0 hb2
  have hsees := hs.sees
  have hn2 : n2 = ss.length := by
    obtain ⟨_, _, hv, _⟩ := hs.1.form
    injection hv
  have hgl : Hid ((groupsL fs).length = ss.length) := hs.2.1.symm
  have hgb := groups_len fs
  rw [hgl.out, hfl.out] at hgb
  subst hn2
  have HS := hid hsees
  clear hs hsees
  go_wp2_with fail
  refine (indexFuncSS_any (cap := #[.pointer (some ⟨w.heap.size + 1, 0, none⟩)]) (fun r => hasB r i) _ HS.out (by omega) (fun _ _ => by rfl) (fun k s r w' h1 h2 hw' => by
    have a1 := (HS.out.grow hw').2.2 k s r h1 h2
    have a3 := grp_small (List.mem_of_getElem? h2) (by rw [hfl.out]; omega)
    exact groupOfC i w' (w.heap.size + 1) (hx2.out.below hw' hx2.out.lt) a1.2 (by rw [a1.1]; unfold maxLen; omega))).mono ?_
  rintro e w3 ⟨rfl, hb3⟩
  go_wp2_with fail
  go_ret
  exact ⟨by rw [HG.out]; rfl, bl_then hbw hb3⟩
end
end Go.Proofs.Ytndmffmbkcagmaa
/- The indices of risk groups, and RiskDisjoint and CommonRisks of the program, walked. Conditions: at most 1048576 numbers. -/
namespace Go.Proofs.Ytndmffmbkcagmaa
open Go.RowKit
def rdV (xs : List ByteArray) (fs : List Fib) (s : Int) (a : List Int) (t : Int) (b : List Int) : Bool := shB xs fs s a t b && apB fs a b
def crL (xs : List ByteArray) (fs : List Fib) (s : Int) (a : List Int) (t : Int) (b : List Int) : List Int := if shB xs fs s a t b then comL (rskL fs a) (rskL fs b) else []
section
variable {n c m d er eq k : Nat} {A A' R Q : Option Addr} {xs : List ByteArray} {fs : List Fib} {ids jds l : List Int} {s t : Int}
set_option maxHeartbeats 2000000 in
set_option maxRecDepth 100000 in
theorem risksOf_any {B : Nat} (w : World) (h : NetIs w A n c A' m d xs fs) (ha : Sees elInt w B R k l) (hk : k ≤ 1048576) (hm : m ≤ 1000000) :
    Calls Try.prog 64 #[.agg #[.slice A n c, .slice A' m d], .slice R k er] w fun e w' => ∃ v, e = .returned v ∧ Owns elInt w' w.heap.size 3 v (rskL fs l) ∧ Below w.heap.size w w' := by
  have hS := ((Led.nil w).blk_ w.heap.size rfl 36 #[.slice A n c, .slice A' m d]).empty elInt 3 (w.heap.size + 1) (by simp) w.heap.size (by omega)
  rw [← rskTo_zero fs l] at hS
  have HS := hid hS
  have HA := hid ha
  have HN := hid h
  have HL := hid ha.len
  obtain ⟨i0, hi, hz0, hz1, hz2⟩ := info_parts int_info
  clear hS ha h
  go_enter Try.func64, Try.ntmps64
  go_wp2_with fail
  go_loopw [5, 11] (fun v i wr => ∃ j : Nat, j ≤ k ∧ i = .int .i64 j ∧ Hid (Led w wr [tOwns elInt w.heap.size 3 v (rskTo fs l j), tBlk w.heap.size 36 #[.slice A n c, .slice A' m d]])) (fun _ i _ => k - (intOf i).toNat)
  case atStart => exact ⟨0, Nat.zero_le _, rfl, HS⟩
  case round =>
    clear HS
    obtain ⟨j, hj, rfl, HS⟩ := hrel
    obtain ⟨A1, c1, rfl, _⟩ := HS.out.form 0 rfl
    by_cases hlt : j < k
    · obtain ⟨g, o, rfl, _, hx⟩ := HA.out.at_ hlt
      obtain ⟨x, hxk⟩ := get_of (k := j) HL.out hlt
      have f0 := bl_cell HS.out.bl (hx j x hxk 0 _ rfl)
      simp only [elInt, Nat.mul_one, Nat.add_zero] at f0
      have q0 := HS.out.cell 1 0 rfl rfl
      have q1 := HS.out.cell 1 1 rfl rfl
      have hll := rskTo_len fs l j
      have HX := hid (rskTo_succ (fs := fs) hxk)
      clear hx hxk
      go_wp2_with fail
      refine (groupOf_any x _ (HN.out.grow HS.out.bl) hm).mono ?_
      rintro e w5 ⟨rfl, hb5⟩
      have HS2 := hid ((HS.out.step hb5).blk_ w5.heap.size rfl 3 #[.int .i64 (grpI fs x)])
      clear f0 q0 q1 HS hb5
      go_wp2_with (first
        | (at_builtin; refine wpList_append_led rfl _ _ 26 rfl HS2.out 1 rfl Try.underlying26 hi hz0 hz1 (by rw [hz2]; decide) rfl rfl rfl (show Sees elInt _ _ _ 1 [grpI fs x] from sees_new elInt _ _ _ _ rfl) (by omega) HS2.out.bl.size ?_)
        | go_in)
      intro A2 c2 w7 hS5
      have hS6 := hid (hS5.drop 1)
      clear HS2 hS5
      go_wp2
      go_roundw
      case rel => exact ⟨j + 1, by omega, by go_num, by rw [HX.out]; exact hS6⟩
      case measure => simp [intOf]; omega
    · have hkn : j = k := by omega
      subst hkn
      have HE := hid (rskTo_all (fs := fs) HL.out)
      clear hlt
      go_wp2
      go_ret
      exact ⟨_, rfl, by rw [← HE.out]; exact HS.out.own 0 rfl, HS.out.bl⟩
set_option maxHeartbeats 2000000 in
set_option maxRecDepth 100000 in
theorem apart_any (w : World) (h : NetIs w A n c A' m d xs fs) (ha : RtIs w R ids.length er ids) (hb : RtIs w Q jds.length eq jds) (hm : m ≤ 1000000) :
    Calls Try.prog 70 #[.agg #[.slice A n c, .slice A' m d], .slice R ids.length er, .slice Q jds.length eq] w fun e w' => e = .returned (.bool (apB fs ids jds)) ∧ Below w.heap.size w w' := by
  have hS := (Led.nil w).blk_ w.heap.size rfl 36 #[.slice A n c, .slice A' m d]
  have H : Hid (apB fs ids jds = (((comL (rskL fs ids) (rskL fs jds)).length : Int) == 0)) := rfl
  have la : Hid ((rskL fs ids).length ≤ 1048576) := by rw [rskL_len]; exact ha.le
  have lb : Hid ((rskL fs jds).length ≤ 1048576) := by rw [rskL_len]; exact hb.le
  go_enter Try.func70, Try.ntmps70
  go_wp2_with fail
  have HN := hid h
  have HA := hid ha
  have HB := hid hb
  clear h ha hb
  generalize w.alloc (.cells #[.slice A n c, .slice A' m d] 36) = W0 at *
  have C0 : ∀ w', Cls W0 w' → w'.cell? ⟨w.heap.size, 0, none⟩ = some (.slice A n c) := fun _ h => h.cell (hS.cell 0 0 rfl rfl)
  have C1 : ∀ w', Cls W0 w' → w'.cell? ⟨w.heap.size, 1, none⟩ = some (.slice A' m d) := fun _ h => h.cell (hS.cell 0 1 rfl rfl)
  have HL := hid (fun w' (h : Cls W0 w') => hS.step h)
  go_region_held3 (fun w' => Cls W0 w') (first | exact Cls.drew _ | exact Cls.next (by assumption) (by assumption))
    (first
      | (go_at_call_of 64 (Value.slice R ids.length er); refine (risksOf_any _ (HN.out.grow (HL.out _ (by assumption)).bl) (HA.out.grow (HL.out _ (by assumption)).bl).2 HA.out.le hm).mono ?_; rintro e w' ⟨v1, rfl, ho1, hb1⟩; obtain ⟨A1, c1, rfl, _⟩ := ho1.form; have hL1 := (HL.out _ (by assumption)).owns hb1 ho1)
      | (go_at_call_of 64 (Value.slice Q jds.length eq); refine (risksOf_any _ (HN.out.grow hL1.bl) (HB.out.grow hL1.bl).2 HB.out.le hm).mono ?_; rintro e w' ⟨v2, rfl, ho2, hb2⟩; obtain ⟨A2, c2, rfl, _⟩ := ho2.form; have hL2 := hL1.owns hb2 ho2)
      | (go_at_call 61; refine (common_any _ (hL2.sees 1 rfl rfl) (hL2.sees 0 rfl rfl) la.out lb.out).mono ?_; rintro e w' ⟨v3, rfl, ho3, hb3⟩; obtain ⟨A3, c3, rfl, _⟩ := ho3.form))
  have HZ := hid (hL2.step hb3).bl
  clear HL C0 C1 hL1 hL2 hb1 hb2 hb3 ho1 ho2 ho3
  go_wp2
  go_ret
  exact ⟨by rw [H.out]; rfl, HZ.out⟩
set_option maxHeartbeats 2000000 in
set_option maxRecDepth 100000 in
theorem implRiskDisjoint (w : World) (h : NetIs w A n c A' m d xs fs) (hr : RtIs w R ids.length er ids) (hq : RtIs w Q jds.length eq jds) :
    Calls Try.prog 33 #[.agg #[.slice A n c, .slice A' m d], .agg #[.int .i64 s, .slice R ids.length er], .agg #[.int .i64 t, .slice Q jds.length eq]] w fun e w' => e = .returned (.tuple #[.bool (rdV xs fs s ids t jds), .bool (shB xs fs s ids t jds)]) ∧ Below w.heap.size w w' := by
  have hS := (((Led.nil w).blk_ w.heap.size rfl 36 #[.slice A n c, .slice A' m d]).blk_ (w.heap.size + 1) (by simp) 31 #[.int .i64 s, .slice R ids.length er]).blk_ (w.heap.size + 1 + 1) (by simp) 31 #[.int .i64 t, .slice Q jds.length eq]
  have HB : Hid (shB xs fs s ids t jds = (routeB xs fs s ids && routeB xs fs t jds)) := rfl
  cases g : (routeB xs fs s ids && routeB xs fs t jds)
  · have H : Hid (rdV xs fs s ids t jds = false) := by unfold Hid rdV shB; rw [g]; rfl
    rw [H.out]
    rw [HB.out, g]
    go_enter Try.func33, Try.ntmps33
    go_wp2_with fail
    refine (areRoutes_any _ (h.grow hS.bl) (hr.grow hS.bl) (hq.grow hS.bl)).mono ?_
    rintro e w1 ⟨rfl, hb⟩
    rw [g]
    go_wp2_with fail
    go_ret2
    exact ⟨rfl, bl_then hS.bl hb⟩
  · have H : Hid (rdV xs fs s ids t jds = apB fs ids jds) := by unfold Hid rdV shB; rw [g]; rfl
    rw [H.out]
    rw [HB.out, g]
    go_enter Try.func33, Try.ntmps33
    go_wp2_with fail
    refine (areRoutes_any _ (h.grow hS.bl) (hr.grow hS.bl) (hq.grow hS.bl)).mono ?_
    rintro e w1 ⟨rfl, hb⟩
    rw [g]
    have hm : m ≤ 1000000 := by
      rw [Bool.and_eq_true] at g
      have := (goodB_bd (routeB_good g.1).1).2.2
      rw [h.flen] at this; omega
    replace hS := hS.step hb
    clear hb
    have q0 := hS.cell 2 0 rfl rfl
    have q1 := hS.cell 2 1 rfl rfl
    have q2 := hS.cell 1 1 rfl rfl
    have q3 := hS.cell 0 1 rfl rfl
    go_wp2_with fail
    refine (apart_any _ (h.grow hS.bl) (hr.grow hS.bl) (hq.grow hS.bl) hm).mono ?_
    rintro e w2 ⟨rfl, hb2⟩
    have HZ := hid (bl_then hS.bl hb2)
    clear hb2 hS
    go_wp2_with fail
    go_ret2
    exact ⟨rfl, HZ.out⟩
set_option maxHeartbeats 2000000 in
set_option maxRecDepth 100000 in
theorem implCommonRisks (w : World) (h : NetIs w A n c A' m d xs fs) (hr : RtIs w R ids.length er ids) (hq : RtIs w Q jds.length eq jds) :
    Calls Try.prog 29 #[.agg #[.slice A n c, .slice A' m d], .agg #[.int .i64 s, .slice R ids.length er], .agg #[.int .i64 t, .slice Q jds.length eq]] w fun e w' => ∃ v, e = .returned (.tuple #[v, .bool (shB xs fs s ids t jds)]) ∧ Owns elInt w' w.heap.size 3 v (crL xs fs s ids t jds) ∧ Below w.heap.size w w' := by
  have hS := (((Led.nil w).blk_ w.heap.size rfl 36 #[.slice A n c, .slice A' m d]).blk_ (w.heap.size + 1) (by simp) 31 #[.int .i64 s, .slice R ids.length er]).blk_ (w.heap.size + 1 + 1) (by simp) 31 #[.int .i64 t, .slice Q jds.length eq]
  have HB : Hid (shB xs fs s ids t jds = (routeB xs fs s ids && routeB xs fs t jds)) := rfl
  cases g : (routeB xs fs s ids && routeB xs fs t jds)
  · have H : Hid (crL xs fs s ids t jds = []) := by unfold Hid crL shB; rw [g]; rfl
    rw [HB.out, g]
    go_enter Try.func29, Try.ntmps29
    go_wp2_with fail
    refine (areRoutes_any _ (h.grow hS.bl) (hr.grow hS.bl) (hq.grow hS.bl)).mono ?_
    rintro e w1 ⟨rfl, hb⟩
    rw [g]
    go_wp2_with fail
    go_ret2
    exact ⟨_, rfl, by rw [H.out]; exact World.ownsRow_nil _ _ _ _, bl_then hS.bl hb⟩
  · have H : Hid (crL xs fs s ids t jds = comL (rskL fs ids) (rskL fs jds)) := by unfold Hid crL shB; rw [g]; rfl
    rw [HB.out, g]
    go_enter Try.func29, Try.ntmps29
    go_wp2_with fail
    refine (areRoutes_any _ (h.grow hS.bl) (hr.grow hS.bl) (hq.grow hS.bl)).mono ?_
    rintro e w1 ⟨rfl, hb⟩
    rw [g]
    have hm : m ≤ 1000000 := by
      rw [Bool.and_eq_true] at g
      have := (goodB_bd (routeB_good g.1).1).2.2
      rw [h.flen] at this; omega
    replace hS := hS.step hb
    clear hb
    have la : Hid ((rskL fs ids).length ≤ 1048576) := by rw [rskL_len]; exact hr.le
    have lb : Hid ((rskL fs jds).length ≤ 1048576) := by rw [rskL_len]; exact hq.le
    have HN := hid h
    have HA := hid hr
    have HQ := hid hq
    clear h hr hq
    have C0 : ∀ w', Cls w1 w' → w'.cell? ⟨w.heap.size, 0, none⟩ = some (.slice A n c) := fun _ h => h.cell (hS.cell 2 0 rfl rfl)
    have C1 : ∀ w', Cls w1 w' → w'.cell? ⟨w.heap.size, 1, none⟩ = some (.slice A' m d) := fun _ h => h.cell (hS.cell 2 1 rfl rfl)
    have C2 : ∀ w', Cls w1 w' → w'.cell? ⟨w.heap.size + 1, 1, none⟩ = some (.slice R ids.length er) := fun _ h => h.cell (hS.cell 1 1 rfl rfl)
    have C3 : ∀ w', Cls w1 w' → w'.cell? ⟨w.heap.size + 1 + 1, 1, none⟩ = some (.slice Q jds.length eq) := fun _ h => h.cell (hS.cell 0 1 rfl rfl)
    have HL := hid (fun w' (h : Cls w1 w') => hS.step h)
    go_wp2_with fail
    go_region_held3 (fun w' => Cls w1 w') (first | exact Cls.drew _ | exact Cls.next (by assumption) (by assumption))
      (first
        | (go_at_call_of 64 (Value.slice R ids.length er); refine (risksOf_any _ (HN.out.grow (HL.out _ (by assumption)).bl) (HA.out.grow (HL.out _ (by assumption)).bl).2 HA.out.le hm).mono ?_; rintro e w' ⟨v1, rfl, ho1, hb1⟩; obtain ⟨A1, c1, rfl, _⟩ := ho1.form; have hL1 := (HL.out _ (by assumption)).owns hb1 ho1)
        | (go_at_call_of 64 (Value.slice Q jds.length eq); refine (risksOf_any _ (HN.out.grow hL1.bl) (HQ.out.grow hL1.bl).2 HQ.out.le hm).mono ?_; rintro e w' ⟨v2, rfl, ho2, hb2⟩; obtain ⟨A2, c2, rfl, _⟩ := ho2.form; have hL2 := hL1.owns hb2 ho2)
        | (go_at_call 61; refine (common_any _ (hL2.sees 1 rfl rfl) (hL2.sees 0 rfl rfl) la.out lb.out).mono ?_; rintro e w' ⟨v3, rfl, ho3, hb3⟩))
    have HZ := hid (hL2.step hb3).bl
    have HO := hid (ho3.base (base' := w.heap.size) hL2.bl.size)
    clear HL C0 C1 C2 C3 hL1 hL2 hb1 hb2 hb3 ho1 ho2 ho3
    go_wp2
    go_ret2
    exact ⟨_, rfl, by rw [H.out]; exact HO.out, HZ.out⟩
end
end Go.Proofs.Ytndmffmbkcagmaa
/- RiskDisjoint of the reference, walked. Conditions: none. -/
namespace Go.Proofs.Ytndmffmbkcagmaa
open Go.RowKit
section
variable {n c m d er eq : Nat} {A A' R Q : Option Addr} {xs : List ByteArray} {fs : List Fib} {ids jds : List Int} {s t : Int}
theorem apAt_of {k j : Nat} (hx : ids[k]? = some (j : Int)) : apAt fs ids jds k = allB (fun i => !hasB (groupL fs j) (jds.getD i 0)) jds.length := by
  unfold apAt apRow; rw [getD_at hx, Int.toNat_natCast]
theorem groupL_len (hg : goodB xs fs = true) {j : Nat} (hj : j < fs.length) : (groupL fs j).length ≤ 15 := by
  have := groups_row (groupL_in hg hj)
  have := (goodB_bd hg).2.2
  omega
theorem own_n {α : Type} {E : El α} {w : World} {base n c : Nat} {e : TypeId} {A : Option Addr} {xs : List α} (h : Owns E w base e (.slice A n c) xs) : n = xs.length := by
  obtain ⟨_, _, hv, _⟩ := h.form
  injection hv
set_option maxHeartbeats 2000000 in
set_option maxRecDepth 100000 in
theorem l4Apart_any (w : World) (h : NetIs w A n c A' m d xs fs) (hr : RtIs w R ids.length er ids) (hq : RtIs w Q jds.length eq jds) (hin : ∀ x ∈ ids, 0 ≤ x ∧ x < fs.length) (hg : goodB xs fs = true) :
    Calls Try.prog 69 #[.agg #[.slice A n c, .slice A' m d], .agg #[.int .i64 s, .slice R ids.length er], .agg #[.int .i64 t, .slice Q jds.length eq]] w fun e w' => e = .returned (.bool (apS fs ids jds)) ∧ Below w.heap.size w w' := by
  have hS := (((Led.nil w).blk_ w.heap.size rfl 36 #[.slice A n c, .slice A' m d]).blk_ (w.heap.size + 1) (by simp) 31 #[.int .i64 s, .slice R ids.length er]).blk_ (w.heap.size + 1 + 1) (by simp) 31 #[.int .i64 t, .slice Q jds.length eq]
  have HS := hid hS
  have HN := hid h
  have HR := hid hr
  have HQ := hid hq
  have hlr := hr.le
  have hlq := hq.le
  have HF := hid h.flen
  have HI := hid hin
  have HG := hid hg
  clear hS h hr hq hin hg
  go_enter Try.func69, Try.ntmps69
  go_wp2_with fail
  go_loopw [7] (fun i wr => ∃ k : Nat, k ≤ ids.length ∧ i = .int .i64 k ∧ Hid (Led w wr [tBlk (w.heap.size + 1 + 1) 31 #[.int .i64 t, .slice Q jds.length eq], tBlk (w.heap.size + 1) 31 #[.int .i64 s, .slice R ids.length er], tBlk w.heap.size 36 #[.slice A n c, .slice A' m d]]) ∧ Hid (allTo (apAt fs ids jds) k)) (fun i _ => ids.length - (intOf i).toNat)
  case atStart => exact ⟨0, Nat.zero_le _, rfl, HS, allTo_zero _⟩
  case round =>
    clear HS
    obtain ⟨k, hk, rfl, HS, HT⟩ := hrel
    have q2 := HS.out.cell 1 1 rfl rfl
    by_cases hlt : k < ids.length
    · obtain ⟨b, o, rfl, _, hx⟩ := HR.out.2.at_ hlt
      obtain ⟨x, hxk⟩ := get_of (k := k) rfl hlt
      have hin := HI.out x (List.mem_of_getElem? hxk)
      obtain ⟨j, rfl⟩ : ∃ j : Nat, x = (j : Int) := ⟨x.toNat, by omega⟩
      have hjm : j < m := by have := HF.out; omega
      have f0 := bl_cell HS.out.bl (hx k _ hxk 0 _ rfl)
      simp only [elInt, Nat.mul_one, Nat.add_zero] at f0
      have HX := hid (apAt_of (fs := fs) (jds := jds) hxk)
      have T0 : ∀ w', Cls wr w' → w'.cell? ⟨b, o + k, none⟩ = some (.int .i64 (j : Int)) := fun _ h => h.cell f0
      have C0 : ∀ w', Cls wr w' → w'.cell? ⟨w.heap.size, 0, none⟩ = some (.slice A n c) := fun _ h => h.cell (HS.out.cell 2 0 rfl rfl)
      have C1 : ∀ w', Cls wr w' → w'.cell? ⟨w.heap.size, 1, none⟩ = some (.slice A' m d) := fun _ h => h.cell (HS.out.cell 2 1 rfl rfl)
      have C2 : ∀ w', Cls wr w' → w'.cell? ⟨w.heap.size + 1, 1, none⟩ = some (.slice (some ⟨b, o, none⟩) ids.length er) := fun _ h => h.cell q2
      have HL := hid (fun w' (h : Cls wr w') => HS.out.step h)
      have iz : (k : Int) < (ids.length : Int) := by omega
      have hgl := groupL_len HG.out (j := j) (by omega)
      clear hx hxk f0 hin
      go_wp2_with fail
      go_region_held3 (fun w' => Cls wr w') (first | exact Cls.drew _ | exact Cls.next (by assumption) (by assumption))
        (first
          | (go_at_call 89; refine (l2Group_any j _ (HN.out.grow (HL.out _ (by assumption)).bl) hjm).mono ?_; rintro e w' ⟨⟨A1, n1, c1⟩, rfl, ho1, hb1⟩; dsimp only [slV] at ho1 ⊢; obtain rfl := own_n ho1; have hL1 := (HL.out _ (by assumption)).owns hb1 ho1))
      have HS1 := hid hL1
      clear HL C0 C1 C2 T0 hL1 hb1 ho1 HS
      generalize w' = w5 at *
      go_wp2_with fail
      go_loop [9] (fun i => ∃ k2 : Nat, k2 ≤ jds.length ∧ i = .int .i64 k2 ∧ Hid (allTo (fun i => !hasB (groupL fs j) (jds.getD i 0)) k2)) (fun i => jds.length - (intOf i).toNat)
      case atStart => exact ⟨0, Nat.zero_le _, rfl, allTo_zero _⟩
      case round =>
        obtain ⟨k2, hk2, rfl, HT2⟩ := hrel
        have q3 := HS1.out.cell 1 1 rfl rfl
        by_cases hlt2 : k2 < jds.length
        · obtain ⟨b2, o2, rfl, _, hx⟩ := HQ.out.2.at_ hlt2
          obtain ⟨y, hyk⟩ := get_of (k := k2) rfl hlt2
          have f1 := bl_cell HS1.out.bl (hx k2 y hyk 0 _ rfl)
          simp only [elInt, Nat.mul_one, Nat.add_zero] at f1
          have HY := hid (getD_at hyk)
          clear hx hyk
          go_wp2_with fail
          refine (l1Has_any y _ (HS1.out.sees 0 rfl rfl) (by unfold maxLen; omega)).mono ?_
          rintro e w6 ⟨rfl, rfl⟩
          cases gk : hasB (groupL fs j) y
          · have HT3 : Hid (allTo (fun i => !hasB (groupL fs j) (jds.getD i 0)) (k2 + 1)) := allTo_succ HT2 (by rw [HY.out, gk]; rfl)
            clear HT2
            go_wp2
            go_round
            case rel => exact ⟨k2 + 1, by omega, by go_num, HT3⟩
            case measure => simp [intOf]; omega
          · have HE : Hid (apS fs ids jds = false) := allB_no hlt (by rw [HX.out]; exact allB_no hlt2 (by rw [HY.out, gk]; rfl))
            clear HT2
            go_wp2
            go_ret
            exact ⟨by rw [HE.out]; rfl, HS1.out.bl⟩
        · have HT3 : Hid (allTo (apAt fs ids jds) (k + 1)) := allTo_succ HT (by rw [HX.out]; exact allB_yes HT2 (by omega))
          have HS2 := hid (HS1.out.drop 1)
          obtain rfl : k2 = jds.length := by omega
          clear HT2 hlt2 HT
          go_wp2
          refine ⟨?_, by simp [intOf]; omega⟩
          first
            | exact ⟨k + 1, by omega, by go_num, HS2, HT3⟩
            | ((repeat apply Exists.intro); exact ⟨⟨k + 1, by omega, by go_num, HS2, HT3⟩, rfl⟩)
    · have hkn : k = ids.length := by omega
      have HE : Hid (apS fs ids jds = true) := allB_yes HT hkn
      clear hlt
      go_wp2
      go_ret
      exact ⟨by rw [HE.out]; rfl, HS.out.bl⟩
set_option maxHeartbeats 2000000 in
set_option maxRecDepth 100000 in
theorem specRiskDisjoint (w : World) (h : NetIs w A n c A' m d xs fs) (hr : RtIs w R ids.length er ids) (hq : RtIs w Q jds.length eq jds) :
    Calls Try.prog 32 #[.agg #[.slice A n c, .slice A' m d], .agg #[.int .i64 s, .slice R ids.length er], .agg #[.int .i64 t, .slice Q jds.length eq]] w fun e w' => e = .returned (.tuple #[.bool (rdV xs fs s ids t jds), .bool (shB xs fs s ids t jds)]) ∧ Below w.heap.size w w' := by
  have hS := (((Led.nil w).blk_ w.heap.size rfl 36 #[.slice A n c, .slice A' m d]).blk_ (w.heap.size + 1) (by simp) 31 #[.int .i64 s, .slice R ids.length er]).blk_ (w.heap.size + 1 + 1) (by simp) 31 #[.int .i64 t, .slice Q jds.length eq]
  have HB : Hid (shB xs fs s ids t jds = (routeB xs fs s ids && routeB xs fs t jds)) := rfl
  cases g : routeB xs fs s ids
  · have H : Hid (rdV xs fs s ids t jds = false) := by unfold Hid rdV shB; rw [g]; rfl
    rw [HB.out, g]
    go_enter Try.func32, Try.ntmps32
    go_wp2_with fail
    refine (l4Good_any s _ (h.grow hS.bl) (hr.grow hS.bl)).mono ?_
    rintro e w1 ⟨rfl, hb⟩
    replace hS := hS.step hb
    clear hb
    rw [g]
    have q0 := hS.cell 2 0 rfl rfl
    have q1 := hS.cell 2 1 rfl rfl
    have q2 := hS.cell 0 0 rfl rfl
    have q3 := hS.cell 0 1 rfl rfl
    have HS := hid hS
    clear hS
    go_wp2_with fail
    go_ret2
    exact ⟨by rw [H.out]; rfl, HS.out.bl⟩
  · cases g2 : routeB xs fs t jds
    · have H : Hid (rdV xs fs s ids t jds = false) := by unfold Hid rdV shB; rw [g, g2]; rfl
      rw [HB.out, g, g2]
      go_enter Try.func32, Try.ntmps32
      go_wp2_with fail
      refine (l4Good_any s _ (h.grow hS.bl) (hr.grow hS.bl)).mono ?_
      rintro e w1 ⟨rfl, hb⟩
      replace hS := hS.step hb
      clear hb
      rw [g]
      have q0 := hS.cell 2 0 rfl rfl
      have q1 := hS.cell 2 1 rfl rfl
      have q2 := hS.cell 0 0 rfl rfl
      have q3 := hS.cell 0 1 rfl rfl
      go_wp2_with fail
      refine (l4Good_any t _ (h.grow hS.bl) (hq.grow hS.bl)).mono ?_
      rintro e w2 ⟨rfl, hb⟩
      replace hS := hS.step hb
      clear hb
      rw [g2]
      have HS := hid hS
      clear hS
      go_wp2_with fail
      go_ret2
      exact ⟨by rw [H.out]; rfl, HS.out.bl⟩
    · have H : Hid (rdV xs fs s ids t jds = apB fs ids jds) := by unfold Hid rdV shB; rw [g, g2]; rfl
      rw [HB.out, g, g2]
      go_enter Try.func32, Try.ntmps32
      go_wp2_with fail
      refine (l4Good_any s _ (h.grow hS.bl) (hr.grow hS.bl)).mono ?_
      rintro e w1 ⟨rfl, hb⟩
      replace hS := hS.step hb
      clear hb
      rw [g]
      have q0 := hS.cell 2 0 rfl rfl
      have q1 := hS.cell 2 1 rfl rfl
      have q2 := hS.cell 0 0 rfl rfl
      have q3 := hS.cell 0 1 rfl rfl
      go_wp2_with fail
      refine (l4Good_any t _ (h.grow hS.bl) (hq.grow hS.bl)).mono ?_
      rintro e w2 ⟨rfl, hb⟩
      replace hS := hS.step hb
      clear hb
      rw [g2]
      clear q0 q1 q2 q3
      have hin := rtB_mem (routeB_good g).2
      have hjn := rtB_mem (routeB_good g2).2
      have HA := hid (ap_same (routeB_good g).1 hin hjn)
      have q0 := hS.cell 2 0 rfl rfl
      have q1 := hS.cell 2 1 rfl rfl
      have q2 := hS.cell 1 0 rfl rfl
      have q3 := hS.cell 1 1 rfl rfl
      have q4 := hS.cell 0 0 rfl rfl
      have q5 := hS.cell 0 1 rfl rfl
      go_wp2_with fail
      refine (l4Apart_any _ (h.grow hS.bl) (hr.grow hS.bl) (hq.grow hS.bl) hin (routeB_good g).1).mono ?_
      rintro e w3 ⟨rfl, hb⟩
      have HZ := hid (bl_then hS.bl hb)
      clear hb hS q0 q1 q2 q3 q4 q5
      go_wp2_with fail
      go_ret2
      exact ⟨by rw [H.out, HA.out]; rfl, HZ.out⟩
end
end Go.Proofs.Ytndmffmbkcagmaa
/- FailingWith of both sides, walked. Conditions: none. -/
namespace Go.Proofs.Ytndmffmbkcagmaa
open Go.RowKit
variable {n c m d : Nat} {A A' : Option Addr} {xs : List ByteArray} {fs : List Fib}
theorem OwnsSS.at_ {w : World} {base n c k : Nat} {A : Option Addr} {ss : List Sl} {rows : List (List Int)} {r : List Int} (h : OwnsSS w base (.slice A n c) ss rows) (hk : rows[k]? = some r) :
    ∃ g s, A = some ⟨g, 0, none⟩ ∧ n = rows.length ∧ ss[k]? = some s ∧ w.cell? ⟨g, k, none⟩ = some (.slice s.A s.n s.c) ∧ Owns elInt w base 3 (.slice s.A s.n s.c) r := by
  have hl := h.2.1
  obtain ⟨s, hs⟩ := get_of (l := ss) (k := k) hl (List.getElem?_eq_some_iff.1 hk).1
  rcases h.1.cases with ⟨_, e⟩ | ⟨g, cap, cur, hv, _, hb, _, _, _, hf⟩
  · rw [e] at hs; simp at hs
  · injection hv with e1 e2 e3
    refine ⟨g, s, e1, by rw [e2, hl], hs, ?_, h.2.2.1 k s r hs hk⟩
    have := hf k s (List.getElem?_eq_some_iff.1 hs).1 hs 0 _ rfl
    rw [hb.cell]
    simpa [elSl, slV] using this
theorem fwL_small (i : Int) : (fwL xs fs i).length ≤ 15 := by
  unfold fwL
  cases g : fwB xs fs i
  · simp
  · unfold fwB at g
    rw [Bool.and_eq_true] at g
    have hi := inB_idx g.2
    have := groups_row (groupL_in g.1 (i := i.toNat) (by omega))
    have := (goodB_bd g.1).2.2
    simp; omega
end Go.Proofs.Ytndmffmbkcagmaa
/- l1Put, walked. Conditions: at most 1048576 numbers. -/
namespace Go.Proofs.Ytndmffmbkcagmaa
open Go.RowKit
theorem putL_at {x : Int} : ∀ {l : List Int} {k : Nat}, k ≤ l.length → (∀ j y, j < k → l[j]? = some y → y < x) → (∀ y, l[k]? = some y → x ≤ y) → putL l x = if l[k]? = some x then l else l.take k ++ x :: l.drop k
  | [], k, hk, _, _ => by
    have : k = 0 := by simpa using hk
    subst this; simp [putL]
  | y :: t, 0, _, _, hge => by
    have h := hge y rfl
    unfold putL
    rw [if_neg (by omega)]
    by_cases e : y = x
    · simp [e]
    · simp [e]
  | y :: t, k + 1, hk, hlt, hge => by
    have h := hlt 0 y (by omega) rfl
    have ih := putL_at (x := x) (l := t) (k := k) (by simpa using hk) (fun j z hj hz => hlt (j + 1) z (by omega) (by simpa using hz)) (fun z hz => hge z (by simpa using hz))
    unfold putL
    rw [if_pos h, ih]
    simp only [List.getElem?_cons_succ, List.take_succ_cons, List.drop_succ_cons]
    split <;> simp
/-- All of the first k are below x. -/
def lowTo (l : List Int) (x : Int) (k : Nat) : Prop := ∀ j y, j < k → l[j]? = some y → y < x
theorem lowTo_succ {l : List Int} {x y : Int} {k : Nat} (h : lowTo l x k) (hy : l[k]? = some y) (hlt : y < x) : lowTo l x (k + 1) := by
  intro j z hj hz
  by_cases e : j = k
  · subst e; rw [hy] at hz; injection hz with hz; omega
  · exact h j z (by omega) hz
/-- A back part. -/
theorem Sees.back {w : World} {B b o n k : Nat} {l : List Int} (h : Sees elInt w B (some ⟨b, o, none⟩) n l) (hk : k ≤ n) : Sees elInt w B (some ⟨b, o + k, none⟩) (n - k) (l.drop k) := by
  refine ⟨by rw [List.length_drop, h.1], ?_⟩
  rcases Nat.eq_zero_or_pos n with h0 | h0
  · exact .inl (by omega)
  · refine .inr ⟨b, o + k, rfl, h.blt h0, fun j x hx i u hu => ?_⟩
    rw [List.getElem?_drop] at hx
    have := h.cell hx hu
    have e : o + (k + j) * elInt.sz + i = o + k + j * elInt.sz + i := by show o + (k + j) * 1 + i = o + k + j * 1 + i; omega
    rw [e] at this; exact this
theorem sees_one {w : World} {b : Nat} {x : Int} (h : w.cell? ⟨b, 0, none⟩ = some (.int .i64 x)) : Sees elInt w (b + 1) (some ⟨b, 0, none⟩) 1 [x] := by
  refine ⟨rfl, .inr ⟨b, 0, rfl, Nat.lt_succ_self _, fun k y hy j u hu => ?_⟩⟩
  have hk : k = 0 := by have := (List.getElem?_eq_some_iff.1 hy).1; simp at this; omega
  subst hk
  simp at hy; subst hy
  have hu' : [Value.int .i64 x][j]? = some u := hu
  match j, hu' with
  | 0, hu' => simp at hu'; subst hu'; exact h
  | j + 1, hu' => simp at hu'
section
variable {base c n : Nat} {A : Option Addr} {l : List Int}
set_option maxHeartbeats 2000000 in
set_option maxRecDepth 100000 in
theorem l1Put_any (x : Int) (w : World) (ho : Owns elInt w base 3 (.slice A n c) l) (hln : l.length = n) (hb : base ≤ w.heap.size) (hn : n ≤ 1048576) :
    Calls Try.prog 60 #[.slice A n c, .int .i64 x] w fun e w' => ∃ v, e = .returned v ∧ Owns elInt w' base 3 v (putL l x) ∧ Below w.heap.size w w' := by
  have HA : Hid (Sees elInt w w.heap.size A n l) := by
    subst hln; exact ho.sees
  have HO := hid ho
  have HL := hid hln
  obtain ⟨i0, hi, hz0, hz1, hz2⟩ := info_parts int_info
  clear ho
  go_enter Try.func60, Try.ntmps60
  go_wp2_with fail
  go_loop [5] (fun i => ∃ k : Nat, k ≤ n ∧ i = .int .i64 k ∧ Hid (lowTo l x k)) (fun i => n - (intOf i).toNat)
  case atStart => exact ⟨0, Nat.zero_le _, rfl, fun j y hj => absurd hj (Nat.not_lt_zero _)⟩
  case round =>
    obtain ⟨k, hk, rfl, hno⟩ := hrel
    by_cases hlt : k < n
    · obtain ⟨b, o, rfl, hbb, hx⟩ := HA.out.at_ hlt
      obtain ⟨y, hyk⟩ := get_of (k := k) HL.out hlt
      have hc := hx k y hyk 0 _ rfl
      simp only [elInt, Nat.mul_one, Nat.add_zero] at hc
      have HY := hid hyk
      clear hx hyk
      by_cases hyx : y < x
      · have HN := hid (lowTo_succ hno HY.out hyx)
        clear hno
        go_wp2
        go_round
        case rel => exact ⟨k + 1, by omega, by go_num, HN⟩
        case measure => simp [intOf]; omega
      · have HP := hid (putL_at (by have := HL.out; omega) hno (fun z hz => by rw [HY.out] at hz; injection hz with hz; omega))
        by_cases heq : y = x
        · subst heq
          have HP2 : Hid (putL l y = l) := by
            have := HP.out
            rw [if_pos HY.out] at this; exact this
          clear HP hno
          go_wp2_with fail
          go_ret
          exact ⟨_, rfl, by rw [HP2.out]; exact HO.out, Below.refl _ _⟩
        · have HP2 : Hid (putL l x = l.take k ++ x :: l.drop k) := by
            have := HP.out
            rw [if_neg (by rw [HY.out]; intro e; injection e with e; exact heq e)] at this; exact this
          clear HP hno
          go_wp2_with fail
          have hnc : n ≤ c := by
            obtain ⟨_, _, e, h1, _⟩ := HO.out.form
            injection e with _ e2 e3
            have := HL.out
            omega
          have hkc : k ≤ c := by omega
          have hck : ¬ c = k := by omega
          have HSa := hid (((Led.nil w).step (Cls.drew w)).empty elInt 3 w.heap.size rfl base hb)
          have HSb := hid (HSa.out.blk_ (w.heap.size + 1) (by simp) 3 #[.int .i64 x])
          have HSc := hid ((((Led.nil w).step (Cls.drew w)).blk_ w.heap.size rfl 3 #[.int .i64 x]).empty elInt 3 (w.heap.size + 1) (by simp) base (by omega))
          have HT := hid (HA.out.take hk)
          have HD := hid (HA.out.back hk)
          have htl : (l.take k).length = k := by rw [List.length_take]; have := HL.out; omega
          go_region_law (first
            | (refine step_append_led rfl _ _ 26 rfl HSa.out 0 rfl Try.underlying26 hi hz0 hz1 (by rw [hz2]; decide) rfl rfl rfl (HT.out.grow HSa.out.bl) (by simp; omega) (Nat.le_trans hb HSa.out.bl.size) ?_; intro A1 c1 w6 h6; simp only [List.length_nil, Nat.zero_add, List.nil_append] at h6; have h7 := hid (h6.blk_ w6.heap.size rfl 3 #[.int .i64 x]); have hx7 := hid (sees_one (h7.out.cell 0 0 rfl rfl)))
            | (refine step_append_led rfl _ _ 26 rfl HSb.out 1 rfl Try.underlying26 hi hz0 hz1 (by rw [hz2]; decide) rfl rfl rfl (HT.out.grow HSb.out.bl) (by simp; omega) (Nat.le_trans hb HSb.out.bl.size) ?_; intro A1 c1 w6 h6; simp only [List.length_nil, Nat.zero_add, List.nil_append] at h6; have h7 := hid h6; have hx7 := hid (sees_one (h6.cell 0 0 rfl rfl)))
            | (refine step_append_led rfl _ _ 26 rfl HSc.out 0 rfl Try.underlying26 hi hz0 hz1 (by rw [hz2]; decide) rfl rfl rfl (HT.out.grow HSc.out.bl) (by simp; omega) (Nat.le_trans hb HSc.out.bl.size) ?_; intro A1 c1 w6 h6; simp only [List.length_nil, Nat.zero_add, List.nil_append] at h6; have h7 := hid h6; have hx7 := hid (sees_one (h6.cell 1 0 rfl rfl)))
            | (refine step_append_led rfl _ _ 26 rfl h7.out 1 rfl Try.underlying26 hi hz0 hz1 (by rw [hz2]; decide) rfl rfl rfl hx7.out (by omega) (Nat.le_trans hb h7.out.bl.size) ?_; intro A2 c2 w7 h8; rw [htl] at h8; have h9 := hid h8)
            | (refine step_append_led rfl _ _ 26 rfl h7.out 0 rfl Try.underlying26 hi hz0 hz1 (by rw [hz2]; decide) rfl rfl rfl hx7.out (by omega) (Nat.le_trans hb h7.out.bl.size) ?_; intro A2 c2 w7 h8; rw [htl] at h8; have h9 := hid h8)
            | (refine step_append_led rfl _ _ 26 rfl h9.out 1 rfl Try.underlying26 hi hz0 hz1 (by rw [hz2]; decide) rfl rfl rfl (HD.out.grow h9.out.bl) (by simp only [List.length_append, htl, List.length_singleton]; omega) (Nat.le_trans hb h9.out.bl.size) ?_; intro A3 c3 w8 h10)
            | (refine step_append_led rfl _ _ 26 rfl h9.out 0 rfl Try.underlying26 hi hz0 hz1 (by rw [hz2]; decide) rfl rfl rfl (HD.out.grow h9.out.bl) (by simp only [List.length_append, htl, List.length_singleton]; omega) (Nat.le_trans hb h9.out.bl.size) ?_; intro A3 c3 w8 h10))
          all_goals
            go_wp2
            go_ret
            have hv : Hid (Owns elInt w8 base 3 (.slice A3 (k + 1 + (n - k)) c3) (putL l x)) := by
              rw [show (l.take k ++ [x]).length + (n - k) = k + 1 + (n - k) from by rw [List.length_append, htl]; rfl] at h10
              rw [HP2.out, show l.take k ++ x :: l.drop k = l.take k ++ [x] ++ l.drop k from by simp]; first | exact h10.own 1 rfl | exact h10.own 0 rfl
            exact ⟨.slice A3 (k + 1 + (n - k)) c3, rfl, hv.out, h10.bl⟩
    · have HP := hid (putL_at (by have := HL.out; omega) hno (fun z hz => by rw [List.getElem?_eq_none (by have := HL.out; omega)] at hz; cases hz))
      have HP2 : Hid (putL l x = l.take k ++ x :: l.drop k) := by
        have := HP.out
        rw [if_neg (by rw [List.getElem?_eq_none (by have := HL.out; omega)]; intro e; cases e)] at this; exact this
      obtain rfl : k = n := by omega
      clear HP hno
      have HT := hid (HA.out.take hk)
      have htl : (l.take k).length = k := by rw [List.length_take]; have := HL.out; omega
      have HSa := hid (((Led.nil w).step (Cls.drew w)).empty elInt 3 w.heap.size rfl base hb)
      have HSb := hid (HSa.out.blk_ (w.heap.size + 1) (by simp) 3 #[.int .i64 x])
      have HSc := hid ((((Led.nil w).step (Cls.drew w)).blk_ w.heap.size rfl 3 #[.int .i64 x]).empty elInt 3 (w.heap.size + 1) (by simp) base (by omega))
      have hAc : (A = none ∧ k = 0 ∧ c = 0) ∨ ∃ g, A = some ⟨g, 0, none⟩ := by
        rcases Owns.cases HO.out with ⟨h, _⟩ | ⟨g, _, _, h, _⟩
        · injection h with e1 e2 e3; exact .inl ⟨e1, e2, e3⟩
        · injection h with e1 _ _; exact .inr ⟨g, e1⟩
      have hkc : k ≤ c := by
        obtain ⟨_, _, e, h1, _⟩ := HO.out.form
        injection e with _ e2 e3
        have := HL.out
        omega
      rcases hAc with ⟨rfl, hk0, hc0⟩ | ⟨g, rfl⟩
      · have hck : c = k := by omega
        clear hk0 hc0
        go_wp2_with fail
        go_region_law (first
          | (refine step_append_led rfl _ _ 26 rfl HSa.out 0 rfl Try.underlying26 hi hz0 hz1 (by rw [hz2]; decide) rfl rfl rfl (HT.out.grow HSa.out.bl) (by simp; omega) (Nat.le_trans hb HSa.out.bl.size) ?_; intro A1 c1 w6 h6; simp only [List.length_nil, Nat.zero_add, List.nil_append] at h6; have h7 := hid (h6.blk_ w6.heap.size rfl 3 #[.int .i64 x]); have hx7 := hid (sees_one (h7.out.cell 0 0 rfl rfl)))
          | (refine step_append_led rfl _ _ 26 rfl HSb.out 1 rfl Try.underlying26 hi hz0 hz1 (by rw [hz2]; decide) rfl rfl rfl (HT.out.grow HSb.out.bl) (by simp; omega) (Nat.le_trans hb HSb.out.bl.size) ?_; intro A1 c1 w6 h6; simp only [List.length_nil, Nat.zero_add, List.nil_append] at h6; have h7 := hid h6; have hx7 := hid (sees_one (h6.cell 0 0 rfl rfl)))
          | (refine step_append_led rfl _ _ 26 rfl HSc.out 0 rfl Try.underlying26 hi hz0 hz1 (by rw [hz2]; decide) rfl rfl rfl (HT.out.grow HSc.out.bl) (by simp; omega) (Nat.le_trans hb HSc.out.bl.size) ?_; intro A1 c1 w6 h6; simp only [List.length_nil, Nat.zero_add, List.nil_append] at h6; have h7 := hid h6; have hx7 := hid (sees_one (h6.cell 1 0 rfl rfl)))
          | (refine step_append_led rfl _ _ 26 rfl h7.out 1 rfl Try.underlying26 hi hz0 hz1 (by rw [hz2]; decide) rfl rfl rfl hx7.out (by omega) (Nat.le_trans hb h7.out.bl.size) ?_; intro A2 c2 w7 h8; rw [htl] at h8; have h9 := hid h8)
          | (refine step_append_led rfl _ _ 26 rfl h7.out 0 rfl Try.underlying26 hi hz0 hz1 (by rw [hz2]; decide) rfl rfl rfl hx7.out (by omega) (Nat.le_trans hb h7.out.bl.size) ?_; intro A2 c2 w7 h8; rw [htl] at h8; have h9 := hid h8)
          | (refine step_append_led rfl _ _ 26 rfl h9.out 1 rfl Try.underlying26 hi hz0 hz1 (by rw [hz2]; decide) rfl rfl rfl (Sees.nil elInt _ 0 _) (by simp only [List.length_append, htl, List.length_singleton]; omega) (Nat.le_trans hb h9.out.bl.size) ?_; intro A3 c3 w8 h10)
          | (refine step_append_led rfl _ _ 26 rfl h9.out 0 rfl Try.underlying26 hi hz0 hz1 (by rw [hz2]; decide) rfl rfl rfl (Sees.nil elInt _ 0 _) (by simp only [List.length_append, htl, List.length_singleton]; omega) (Nat.le_trans hb h9.out.bl.size) ?_; intro A3 c3 w8 h10))
        all_goals
          go_wp2
          go_ret
          have hv : Hid (Owns elInt w8 base 3 (.slice A3 (k + 1) c3) (putL l x)) := by
            rw [show (l.take k ++ [x]).length + 0 = k + 1 from by rw [List.length_append, htl]; rfl] at h10
            rw [HP2.out, show l.take k ++ x :: l.drop k = l.take k ++ [x] ++ [] from by rw [List.drop_eq_nil_of_le (by have := HL.out; omega)]; simp]; first | exact h10.own 1 rfl | exact h10.own 0 rfl
          exact ⟨.slice A3 (k + 1) c3, rfl, hv.out, h10.bl⟩
      · by_cases hck : c = k
        · go_wp2_with fail
          go_region_law (first
            | (refine step_append_led rfl _ _ 26 rfl HSa.out 0 rfl Try.underlying26 hi hz0 hz1 (by rw [hz2]; decide) rfl rfl rfl (HT.out.grow HSa.out.bl) (by simp; omega) (Nat.le_trans hb HSa.out.bl.size) ?_; intro A1 c1 w6 h6; simp only [List.length_nil, Nat.zero_add, List.nil_append] at h6; have h7 := hid (h6.blk_ w6.heap.size rfl 3 #[.int .i64 x]); have hx7 := hid (sees_one (h7.out.cell 0 0 rfl rfl)))
            | (refine step_append_led rfl _ _ 26 rfl HSb.out 1 rfl Try.underlying26 hi hz0 hz1 (by rw [hz2]; decide) rfl rfl rfl (HT.out.grow HSb.out.bl) (by simp; omega) (Nat.le_trans hb HSb.out.bl.size) ?_; intro A1 c1 w6 h6; simp only [List.length_nil, Nat.zero_add, List.nil_append] at h6; have h7 := hid h6; have hx7 := hid (sees_one (h6.cell 0 0 rfl rfl)))
            | (refine step_append_led rfl _ _ 26 rfl HSc.out 0 rfl Try.underlying26 hi hz0 hz1 (by rw [hz2]; decide) rfl rfl rfl (HT.out.grow HSc.out.bl) (by simp; omega) (Nat.le_trans hb HSc.out.bl.size) ?_; intro A1 c1 w6 h6; simp only [List.length_nil, Nat.zero_add, List.nil_append] at h6; have h7 := hid h6; have hx7 := hid (sees_one (h6.cell 1 0 rfl rfl)))
            | (refine step_append_led rfl _ _ 26 rfl h7.out 1 rfl Try.underlying26 hi hz0 hz1 (by rw [hz2]; decide) rfl rfl rfl hx7.out (by omega) (Nat.le_trans hb h7.out.bl.size) ?_; intro A2 c2 w7 h8; rw [htl] at h8; have h9 := hid h8)
            | (refine step_append_led rfl _ _ 26 rfl h7.out 0 rfl Try.underlying26 hi hz0 hz1 (by rw [hz2]; decide) rfl rfl rfl hx7.out (by omega) (Nat.le_trans hb h7.out.bl.size) ?_; intro A2 c2 w7 h8; rw [htl] at h8; have h9 := hid h8)
            | (refine step_append_led rfl _ _ 26 rfl h9.out 1 rfl Try.underlying26 hi hz0 hz1 (by rw [hz2]; decide) rfl rfl rfl (Sees.nil elInt _ 0 _) (by simp only [List.length_append, htl, List.length_singleton]; omega) (Nat.le_trans hb h9.out.bl.size) ?_; intro A3 c3 w8 h10)
            | (refine step_append_led rfl _ _ 26 rfl h9.out 0 rfl Try.underlying26 hi hz0 hz1 (by rw [hz2]; decide) rfl rfl rfl (Sees.nil elInt _ 0 _) (by simp only [List.length_append, htl, List.length_singleton]; omega) (Nat.le_trans hb h9.out.bl.size) ?_; intro A3 c3 w8 h10))
          all_goals
            go_wp2
            go_ret
            have hv : Hid (Owns elInt w8 base 3 (.slice A3 (k + 1) c3) (putL l x)) := by
              rw [show (l.take k ++ [x]).length + 0 = k + 1 from by rw [List.length_append, htl]; rfl] at h10
              rw [HP2.out, show l.take k ++ x :: l.drop k = l.take k ++ [x] ++ [] from by rw [List.drop_eq_nil_of_le (by have := HL.out; omega)]; simp]; first | exact h10.own 1 rfl | exact h10.own 0 rfl
            exact ⟨.slice A3 (k + 1) c3, rfl, hv.out, h10.bl⟩
        · go_wp2_with fail
          go_region_law (first
            | (refine step_append_led rfl _ _ 26 rfl HSa.out 0 rfl Try.underlying26 hi hz0 hz1 (by rw [hz2]; decide) rfl rfl rfl (HT.out.grow HSa.out.bl) (by simp; omega) (Nat.le_trans hb HSa.out.bl.size) ?_; intro A1 c1 w6 h6; simp only [List.length_nil, Nat.zero_add, List.nil_append] at h6; have h7 := hid (h6.blk_ w6.heap.size rfl 3 #[.int .i64 x]); have hx7 := hid (sees_one (h7.out.cell 0 0 rfl rfl)))
            | (refine step_append_led rfl _ _ 26 rfl HSb.out 1 rfl Try.underlying26 hi hz0 hz1 (by rw [hz2]; decide) rfl rfl rfl (HT.out.grow HSb.out.bl) (by simp; omega) (Nat.le_trans hb HSb.out.bl.size) ?_; intro A1 c1 w6 h6; simp only [List.length_nil, Nat.zero_add, List.nil_append] at h6; have h7 := hid h6; have hx7 := hid (sees_one (h6.cell 0 0 rfl rfl)))
            | (refine step_append_led rfl _ _ 26 rfl HSc.out 0 rfl Try.underlying26 hi hz0 hz1 (by rw [hz2]; decide) rfl rfl rfl (HT.out.grow HSc.out.bl) (by simp; omega) (Nat.le_trans hb HSc.out.bl.size) ?_; intro A1 c1 w6 h6; simp only [List.length_nil, Nat.zero_add, List.nil_append] at h6; have h7 := hid h6; have hx7 := hid (sees_one (h6.cell 1 0 rfl rfl)))
            | (refine step_append_led rfl _ _ 26 rfl h7.out 1 rfl Try.underlying26 hi hz0 hz1 (by rw [hz2]; decide) rfl rfl rfl hx7.out (by omega) (Nat.le_trans hb h7.out.bl.size) ?_; intro A2 c2 w7 h8; rw [htl] at h8; have h9 := hid h8)
            | (refine step_append_led rfl _ _ 26 rfl h7.out 0 rfl Try.underlying26 hi hz0 hz1 (by rw [hz2]; decide) rfl rfl rfl hx7.out (by omega) (Nat.le_trans hb h7.out.bl.size) ?_; intro A2 c2 w7 h8; rw [htl] at h8; have h9 := hid h8)
            | (refine step_append_led rfl _ _ 26 rfl h9.out 1 rfl Try.underlying26 hi hz0 hz1 (by rw [hz2]; decide) rfl rfl rfl (Sees.nil elInt _ 0 _) (by simp only [List.length_append, htl, List.length_singleton]; omega) (Nat.le_trans hb h9.out.bl.size) ?_; intro A3 c3 w8 h10)
            | (refine step_append_led rfl _ _ 26 rfl h9.out 0 rfl Try.underlying26 hi hz0 hz1 (by rw [hz2]; decide) rfl rfl rfl (Sees.nil elInt _ 0 _) (by simp only [List.length_append, htl, List.length_singleton]; omega) (Nat.le_trans hb h9.out.bl.size) ?_; intro A3 c3 w8 h10))
          all_goals
            go_wp2
            go_ret
            have hv : Hid (Owns elInt w8 base 3 (.slice A3 (k + 1) c3) (putL l x)) := by
              rw [show (l.take k ++ [x]).length + 0 = k + 1 from by rw [List.length_append, htl]; rfl] at h10
              rw [HP2.out, show l.take k ++ x :: l.drop k = l.take k ++ [x] ++ [] from by rw [List.drop_eq_nil_of_le (by have := HL.out; omega)]; simp]; first | exact h10.own 1 rfl | exact h10.own 0 rfl
            exact ⟨.slice A3 (k + 1) c3, rfl, hv.out, h10.bl⟩
end
end Go.Proofs.Ytndmffmbkcagmaa
/- What l1Put makes of two lists, number by number. Conditions: none. -/
namespace Go.Proofs.Ytndmffmbkcagmaa
open Go.RowKit
theorem putL_len : ∀ {l : List Int} {n : Int}, (putL l n).length ≤ l.length + 1
  | [], n => by simp [putL]
  | x :: l, n => by
    have := putL_len (l := l) (n := n)
    unfold putL
    split
    · simp; omega
    · split <;> simp
/-- Those of the first k numbers of a that b has, each put to its place. -/
def putTo (a b : List Int) (k : Nat) : List Int := (comTo a b k).foldl putL []
theorem putTo_zero (a b : List Int) : putTo a b 0 = [] := by unfold putTo; rw [comTo_zero]; rfl
theorem putTo_yes {a b : List Int} {k : Nat} {x : Int} (hx : a[k]? = some x) (h : hasB b x = true) : putTo a b (k + 1) = putL (putTo a b k) x := by
  unfold putTo; rw [comTo_yes hx h, List.foldl_append]; rfl
theorem putTo_no {a b : List Int} {k : Nat} {x : Int} (hx : a[k]? = some x) (h : hasB b x = false) : putTo a b (k + 1) = putTo a b k := by
  unfold putTo; rw [comTo_no hx h]
theorem put_fold : ∀ (m l : List Int), ascL l → ascL (m.foldl putL l) ∧ (∀ x, x ∈ m.foldl putL l ↔ x ∈ l ∨ x ∈ m) ∧ (m.foldl putL l).length ≤ l.length + m.length
  | [], l, h => ⟨h, fun x => by simp, by simp⟩
  | y :: m, l, h => by
    obtain ⟨h1, h2, h3⟩ := put_fold m (putL l y) (putL_asc h)
    refine ⟨h1, fun x => ?_, ?_⟩
    · rw [List.foldl_cons, h2, putL_mem, List.mem_cons, or_assoc]
    · have := putL_len (l := l) (n := y)
      simp at h3 ⊢; omega
theorem asc_nil : ascL [] := List.Pairwise.nil
theorem putTo_len (a b : List Int) (k : Nat) : (putTo a b k).length ≤ k := by
  have h := (put_fold (comTo a b k) [] asc_nil).2.2
  have := comTo_len a b k
  unfold putTo; simp at h; omega
theorem putTo_all {a b : List Int} {n : Nat} (h : a.length = n) : putTo a b n = comL a b := by
  obtain ⟨h1, h2, _⟩ := put_fold (comTo a b n) [] asc_nil
  obtain ⟨c1, c2⟩ := comL_asc a b
  refine asc_ext h1 c1 fun x => ?_
  show x ∈ (comTo a b n).foldl putL [] ↔ _
  rw [h2, c2]
  unfold comTo
  rw [List.take_of_length_le (by omega), List.mem_filter, hasB_iff]
  simp
end Go.Proofs.Ytndmffmbkcagmaa
/- SharedFibers of the reference, walked. Conditions: none. -/
namespace Go.Proofs.Ytndmffmbkcagmaa
open Go.RowKit
theorem Owns.split {α : Type} {E : El α} {w : World} {base : Nat} {e : TypeId} {v : Value} {xs : List α} (h : Owns E w base e v xs) : ∃ A c, v = .slice A xs.length c := by
  obtain ⟨A, c, hv, _⟩ := h.form
  exact ⟨A, c, hv⟩
section
variable {n c m d er eq : Nat} {A A' R Q : Option Addr} {xs : List ByteArray} {fs : List Fib} {ids jds : List Int} {s t : Int}
set_option maxHeartbeats 2000000 in
set_option maxRecDepth 100000 in
theorem specShared (w : World) (h : NetIs w A n c A' m d xs fs) (hr : RtIs w R ids.length er ids) (hq : RtIs w Q jds.length eq jds) :
    Calls Try.prog 23 #[.agg #[.slice A n c, .slice A' m d], .agg #[.int .i64 s, .slice R ids.length er], .agg #[.int .i64 t, .slice Q jds.length eq]] w fun e w' => ∃ v, e = .returned (.tuple #[v, .bool (shB xs fs s ids t jds)]) ∧ Owns elInt w' w.heap.size 3 v (shL xs fs s ids t jds) ∧ Below w.heap.size w w' := by
  have hS := ((((Led.nil w).blk_ w.heap.size rfl 36 #[.slice A n c, .slice A' m d]).blk_ (w.heap.size + 1) (by simp) 31 #[.int .i64 s, .slice R ids.length er]).blk_ (w.heap.size + 1 + 1) (by simp) 31 #[.int .i64 t, .slice Q jds.length eq]).empty elInt 3 (w.heap.size + 1 + 1 + 1) (by simp) w.heap.size (by omega)
  have HB : Hid (shB xs fs s ids t jds = (routeB xs fs s ids && routeB xs fs t jds)) := rfl
  cases g : routeB xs fs s ids
  · have H : Hid (shL xs fs s ids t jds = []) := by unfold Hid shL shB; rw [g]; rfl
    rw [HB.out, g]
    go_enter Try.func23, Try.ntmps23
    go_wp2_with fail
    refine (l4Good_any s _ (h.grow hS.bl) (hr.grow hS.bl)).mono ?_
    rintro e w1 ⟨rfl, hb⟩
    replace hS := hS.step hb
    clear hb
    rw [g]
    have q0 := hS.cell 3 0 rfl rfl
    have q1 := hS.cell 3 1 rfl rfl
    have q2 := hS.cell 1 0 rfl rfl
    have q3 := hS.cell 1 1 rfl rfl
    have HS := hid hS
    clear hS
    go_wp2_with fail
    go_ret2
    exact ⟨_, rfl, by rw [H.out]; exact HS.out.own 0 rfl, HS.out.bl⟩
  · cases g2 : routeB xs fs t jds
    · have H : Hid (shL xs fs s ids t jds = []) := by unfold Hid shL shB; rw [g, g2]; rfl
      rw [HB.out, g, g2]
      go_enter Try.func23, Try.ntmps23
      go_wp2_with fail
      refine (l4Good_any s _ (h.grow hS.bl) (hr.grow hS.bl)).mono ?_
      rintro e w1 ⟨rfl, hb⟩
      replace hS := hS.step hb
      clear hb
      rw [g]
      have q0 := hS.cell 3 0 rfl rfl
      have q1 := hS.cell 3 1 rfl rfl
      have q2 := hS.cell 1 0 rfl rfl
      have q3 := hS.cell 1 1 rfl rfl
      go_wp2_with fail
      refine (l4Good_any t _ (h.grow hS.bl) (hq.grow hS.bl)).mono ?_
      rintro e w2 ⟨rfl, hb⟩
      replace hS := hS.step hb
      clear hb
      rw [g2]
      have HS := hid hS
      clear hS
      go_wp2_with fail
      go_ret2
      exact ⟨_, rfl, by rw [H.out]; exact HS.out.own 0 rfl, HS.out.bl⟩
    · have H : Hid (shL xs fs s ids t jds = comL ids jds) := by unfold Hid shL shB; rw [g, g2]; rfl
      rw [HB.out, g, g2]
      go_enter Try.func23, Try.ntmps23
      go_wp2_with fail
      refine (l4Good_any s _ (h.grow hS.bl) (hr.grow hS.bl)).mono ?_
      rintro e w1 ⟨rfl, hb⟩
      replace hS := hS.step hb
      clear hb
      rw [g]
      have q0 := hS.cell 3 0 rfl rfl
      have q1 := hS.cell 3 1 rfl rfl
      have q2 := hS.cell 1 0 rfl rfl
      have q3 := hS.cell 1 1 rfl rfl
      go_wp2_with fail
      refine (l4Good_any t _ (h.grow hS.bl) (hq.grow hS.bl)).mono ?_
      rintro e w2 ⟨rfl, hb⟩
      replace hS := hS.step hb
      clear hb
      rw [g2]
      clear q0 q1 q2 q3
      have HS := hid (hS.drop 1)
      have HO := hid (hS.own 0 rfl)
      rw [← putTo_zero ids jds] at HO
      dsimp only [List.drop] at HS
      clear hS
      have hLn := hr.le
      have HQn := hid hq.le
      go_wp2_with fail
      go_loopw [8, 9] (fun v i wr => ∃ k : Nat, k ≤ ids.length ∧ i = .int .i64 k ∧ Hid (Led w wr [tBlk (w.heap.size + 1 + 1) 31 #[.int .i64 t, .slice Q jds.length eq], tBlk (w.heap.size + 1) 31 #[.int .i64 s, .slice R ids.length er], tBlk w.heap.size 36 #[.slice A n c, .slice A' m d]]) ∧ Hid (Owns elInt wr w.heap.size 3 v (putTo ids jds k))) (fun _ i _ => ids.length - (intOf i).toNat)
      case atStart => exact ⟨0, Nat.zero_le _, rfl, HS, HO⟩
      case round =>
        clear HS HO
        obtain ⟨k, hk, rfl, HS, HO⟩ := hrel
        have q2 := HS.out.cell 1 1 rfl rfl
        by_cases hlt : k < ids.length
        · have HR := hid hr
          have HQ := hid hq
          clear hr hq
          obtain ⟨b, o, rfl, _, hx⟩ := HR.out.2.at_ hlt
          obtain ⟨x, hxk⟩ := get_of (k := k) rfl hlt
          have f0 := bl_cell HS.out.bl (hx k x hxk 0 _ rfl)
          simp only [elInt, Nat.mul_one, Nat.add_zero] at f0
          have T0 : ∀ w', Cls wr w' → w'.cell? ⟨b, o + k, none⟩ = some (.int .i64 x) := fun _ h => h.cell f0
          have C0 : ∀ w', Cls wr w' → w'.cell? ⟨w.heap.size + 1, 1, none⟩ = some (.slice (some ⟨b, o, none⟩) ids.length er) := fun _ h => h.cell q2
          have C1 : ∀ w', Cls wr w' → w'.cell? ⟨w.heap.size + 1 + 1, 1, none⟩ = some (.slice Q jds.length eq) := fun _ h => h.cell (HS.out.cell 0 1 rfl rfl)
          have iz : (k : Int) < (ids.length : Int) := by omega
          have HX := hid hxk
          have HQ2 := hid (HQ.out.grow HS.out.bl)
          have hll := putTo_len ids jds k
          clear hx hxk
          go_wp2_with fail
          refine region_cls (by kernel_rfl) (by kernel_rfl) ?_
          repeat (first
            | ((with_reducible refine quiet_pos ?_ (fun K hK => ?_))
               · rfl
               apply Exists.intro
               refine ⟨fun w' hw' => ?_, ?_⟩
               · go_simp
                 first
                   | with_reducible rfl
                   | (go_at_call 59; exact hw'.same (l1Has_any _ _ (HQ2.out.2.grow hw') (by have := HQn.out; unfold maxLen; omega)))
               simp only [Act.put, List.setIfInBounds_toArray, List.set_cons_zero, List.set_cons_succ]
               refine hK _ ?_; clear hK K)
            | ((with_reducible refine quiet_neg ?_ (fun K hK => ?_))
               · rfl
               simp only [Act.put, List.setIfInBounds_toArray, List.set_cons_zero, List.set_cons_succ]
               refine hK _ ?_; clear hK K))
          with_reducible refine wpQuiet_nil ?_
          intro wz hwz'
          have HS2 := hid (HS.out.step hwz')
          have HO2 := hid (HO.out.below hwz')
          have f1 := bl_cell hwz' f0
          clear HS HO f0 q2 T0 C0 C1
          cases gk : hasB jds x
          · have HN := hid (putTo_no HX.out gk)
            clear HX
            go_wp2
            exact ⟨⟨k + 1, by omega, by go_num, HS2, by rw [HN.out]; exact HO2⟩, by simp [intOf]; omega⟩
          · have HN := hid (putTo_yes HX.out gk)
            obtain ⟨A1, c1, rfl⟩ := HO2.out.split
            have q3 := HS2.out.cell 1 1 rfl rfl
            clear HX
            go_wp2_with fail
            refine (l1Put_any x _ HO2.out rfl HS2.out.bl.size (by omega)).mono ?_
            rintro e w5 ⟨v5, rfl, ho5, hb5⟩
            have HS3 := hid (HS2.out.step hb5)
            have HO3 := hid ho5
            clear HS2 HO2 hb5 ho5
            go_wp2
            go_roundw
            case rel => exact ⟨k + 1, by omega, by go_num, HS3, by rw [HN.out]; exact HO3⟩
            case measure => simp [intOf]; omega
        · have hkn : k = ids.length := by omega
          subst hkn
          have HE := hid (putTo_all (a := ids) (b := jds) rfl)
          clear hlt
          go_wp2
          go_ret2
          exact ⟨_, rfl, by rw [H.out, ← HE.out]; exact HO.out, HS.out.bl⟩
theorem asc_len {l : List Int} {n : Nat} (h : ascL l) (hb : ∀ x ∈ l, 0 ≤ x ∧ x < n) : l.length ≤ n :=
  nodup_bd n l (List.Pairwise.imp (fun {a b} (h : a < b) => by omega) h) hb
theorem shL_len : (shL xs fs s ids t jds).length ≤ 1048576 := by
  unfold shL
  cases g : shB xs fs s ids t jds
  · simp
  · rw [if_pos rfl]
    unfold shB at g
    rw [Bool.and_eq_true] at g
    have h1 := rtB_mem (routeB_good g.1).2
    have hm := (goodB_bd (routeB_good g.1).1).2.2
    obtain ⟨c1, c2⟩ := comL_asc ids jds
    have := asc_len (n := fs.length) c1 (fun x hx => h1 x ((c2 x).1 hx).1)
    omega
end
end Go.Proofs.Ytndmffmbkcagmaa
/- CommonRisks of the reference, walked. Conditions: none. -/
namespace Go.Proofs.Ytndmffmbkcagmaa
open Go.RowKit
/-- A number of the one list, but for so many at its ends, is in the other. -/
def shG (k : Nat) (l r : List Int) : Bool := !(allB (fun j => !hasB r (l.getD (k + j) 0)) (l.length - 2 * k))
theorem shG_zero (l r : List Int) : shG 0 l r = shAt l r := by simp [shG, shAt]
theorem calls_val {P : Program} {f : FuncId} {args : Array Value} {w : World} {b b' : Bool} (h : Calls P f args w fun e w' => e = .returned (.bool b) ∧ Below w.heap.size w w') (e : b = b') : Calls P f args w fun e w' => e = .returned (.bool b') ∧ Below w.heap.size w w' := by subst e; exact h
section
variable {n c m d er eq : Nat} {A A' R Q : Option Addr} {xs : List ByteArray} {fs : List Fib} {ids jds l r : List Int} {s t : Int}
set_option maxHeartbeats 2000000 in
set_option maxRecDepth 100000 in
theorem l7Share_any {B B' : Nat} (k : Nat) (hk1 : k ≤ 1) {b : Bool} (w : World) (hl : Sees elInt w B R l.length l) (hr : Sees elInt w B' Q r.length r) (ln : l.length ≤ 1048576) (rn : r.length ≤ 1048576) (hv : shG k l r = b) :
    Calls Try.prog 63 #[.slice R l.length er, .slice Q r.length eq, .int .i64 (k : Int)] w fun e w' => e = .returned (.bool b) ∧ w = w' := by
  have HL := hid hl
  have HR := hid hr
  have HV := hid hv
  clear hl hr hv
  go_enter Try.func63, Try.ntmps63
  go_wp2_with fail
  go_loop [7] (fun i => ∃ j : Nat, j ≤ l.length - 2 * k ∧ i = .int .i64 ((k + j : Nat) : Int) ∧ Hid (allTo (fun j => !hasB r (l.getD (k + j) 0)) j)) (fun i => l.length + 2 - (intOf i).toNat)
  case atStart => exact ⟨0, Nat.zero_le _, rfl, allTo_zero _⟩
  case round =>
    obtain ⟨j, hj, rfl, HT⟩ := hrel
    by_cases hlt : j < l.length - 2 * k
    · obtain ⟨g, o, rfl, _, hx⟩ := HL.out.at_ (k := k + j) (by omega)
      obtain ⟨x, hxk⟩ := get_of (l := l) (k := k + j) rfl (by omega)
      have f0 := hx (k + j) x hxk 0 _ rfl
      simp only [elInt, Nat.mul_one, Nat.add_zero] at f0
      have HX := hid (getD_at hxk)
      clear hx hxk
      go_wp2_with fail
      refine (l1Has_any x _ HR.out (by unfold maxLen; omega)).mono ?_
      rintro e w6 ⟨rfl, rfl⟩
      cases gk : hasB r x
      · have HT3 : Hid (allTo (fun j => !hasB r (l.getD (k + j) 0)) (j + 1)) := allTo_succ HT (by rw [HX.out, gk]; rfl)
        clear HT HX
        go_wp2
        go_round
        case rel => exact ⟨j + 1, by omega, by go_num, HT3⟩
        case measure => simp [intOf]; omega
      · have HE : Hid (b = true) := by
          unfold Hid; rw [← HV.out]; unfold shG
          rw [allB_no hlt (by rw [HX.out, gk]; rfl)]; rfl
        clear HT HX
        go_wp2
        go_ret
        exact ⟨by rw [HE.out]; rfl, rfl⟩
    · have HE : Hid (b = false) := by
        unfold Hid; rw [← HV.out]; unfold shG
        rw [allB_yes HT (by omega)]; rfl
      have hjk : ¬ ((k + j : Nat) : Int) < (l.length : Int) - (k : Int) := by omega
      clear HT
      go_wp2
      go_ret
      exact ⟨by rw [HE.out]; rfl, rfl⟩
end
end Go.Proofs.Ytndmffmbkcagmaa
/- CommonRisks of the reference, walked. Conditions: none. -/
namespace Go.Proofs.Ytndmffmbkcagmaa
open Go.RowKit
theorem crAt_of {fs : List Fib} {a b r : List Int} {k : Nat} (hr : (groupsL fs)[k]? = some r) : crAt fs a b k = (shG 0 r a && shG 0 r b) := by
  unfold crAt; rw [show (groupsL fs).getD k [] = r from by simp [List.getD, hr], shG_zero, shG_zero]
theorem groupsL_len (fs : List Fib) : (groupsL fs).length ≤ 9 + fs.length := by
  unfold groupsL
  have := rkTo_len fs 9
  have := zrTo_len fs fs.length
  simp; omega
section
variable {n c m d er eq : Nat} {A A' R Q : Option Addr} {xs : List ByteArray} {fs : List Fib} {ids jds : List Int} {s t : Int}
set_option maxHeartbeats 2000000 in
set_option maxRecDepth 100000 in
theorem specCommonRisks (w : World) (h : NetIs w A n c A' m d xs fs) (hr : RtIs w R ids.length er ids) (hq : RtIs w Q jds.length eq jds) :
    Calls Try.prog 28 #[.agg #[.slice A n c, .slice A' m d], .agg #[.int .i64 s, .slice R ids.length er], .agg #[.int .i64 t, .slice Q jds.length eq]] w fun e w' => ∃ v, e = .returned (.tuple #[v, .bool (shB xs fs s ids t jds)]) ∧ Owns elInt w' w.heap.size 3 v (crL xs fs s ids t jds) ∧ Below w.heap.size w w' := by
  have hS := ((((Led.nil w).blk_ w.heap.size rfl 36 #[.slice A n c, .slice A' m d]).blk_ (w.heap.size + 1) (by simp) 31 #[.int .i64 s, .slice R ids.length er]).blk_ (w.heap.size + 1 + 1) (by simp) 31 #[.int .i64 t, .slice Q jds.length eq]).empty elInt 3 (w.heap.size + 1 + 1 + 1) (by simp) w.heap.size (by omega)
  have HB : Hid (shB xs fs s ids t jds = (routeB xs fs s ids && routeB xs fs t jds)) := rfl
  cases g : routeB xs fs s ids
  · have H : Hid (crL xs fs s ids t jds = []) := by unfold Hid crL shB; rw [g]; rfl
    rw [HB.out, g]
    go_enter Try.func28, Try.ntmps28
    go_wp2_with fail
    refine (l4Good_any s _ (h.grow hS.bl) (hr.grow hS.bl)).mono ?_
    rintro e w1 ⟨rfl, hb⟩
    replace hS := hS.step hb
    clear hb
    rw [g]
    have q0 := hS.cell 3 0 rfl rfl
    have q1 := hS.cell 3 1 rfl rfl
    have q2 := hS.cell 1 0 rfl rfl
    have q3 := hS.cell 1 1 rfl rfl
    have HS := hid hS
    clear hS
    go_wp2_with fail
    go_ret2
    exact ⟨_, rfl, by rw [H.out]; exact HS.out.own 0 rfl, HS.out.bl⟩
  · cases g2 : routeB xs fs t jds
    · have H : Hid (crL xs fs s ids t jds = []) := by unfold Hid crL shB; rw [g, g2]; rfl
      rw [HB.out, g, g2]
      go_enter Try.func28, Try.ntmps28
      go_wp2_with fail
      refine (l4Good_any s _ (h.grow hS.bl) (hr.grow hS.bl)).mono ?_
      rintro e w1 ⟨rfl, hb⟩
      replace hS := hS.step hb
      clear hb
      rw [g]
      have q0 := hS.cell 3 0 rfl rfl
      have q1 := hS.cell 3 1 rfl rfl
      have q2 := hS.cell 1 0 rfl rfl
      have q3 := hS.cell 1 1 rfl rfl
      go_wp2_with fail
      refine (l4Good_any t _ (h.grow hS.bl) (hq.grow hS.bl)).mono ?_
      rintro e w2 ⟨rfl, hb⟩
      replace hS := hS.step hb
      clear hb
      rw [g2]
      have HS := hid hS
      clear hS
      go_wp2_with fail
      go_ret2
      exact ⟨_, rfl, by rw [H.out]; exact HS.out.own 0 rfl, HS.out.bl⟩
    · have H : Hid (crL xs fs s ids t jds = comL (rskL fs ids) (rskL fs jds)) := by unfold Hid crL shB; rw [g, g2]; rfl
      rw [HB.out, g, g2]
      go_enter Try.func28, Try.ntmps28
      go_wp2_with fail
      refine (l4Good_any s _ (h.grow hS.bl) (hr.grow hS.bl)).mono ?_
      rintro e w1 ⟨rfl, hb⟩
      replace hS := hS.step hb
      clear hb
      rw [g]
      have q0 := hS.cell 3 0 rfl rfl
      have q1 := hS.cell 3 1 rfl rfl
      have q2 := hS.cell 1 0 rfl rfl
      have q3 := hS.cell 1 1 rfl rfl
      go_wp2_with fail
      refine (l4Good_any t _ (h.grow hS.bl) (hq.grow hS.bl)).mono ?_
      rintro e w2 ⟨rfl, hb⟩
      replace hS := hS.step hb
      clear hb
      rw [g2]
      clear q0 q1 q2 q3
      have hin := rtB_mem (routeB_good g).2
      have hjn := rtB_mem (routeB_good g2).2
      have hgl := groupsL_len fs
      have hm14 := (goodB_bd (routeB_good g).1).2.2
      have HE := hid (cr_same (routeB_good g).1 hin hjn)
      have hlr := hr.le
      have hlq := hq.le
      have HG := hid (routeB_good g).1
      obtain ⟨i0, hi, hz0, hz1, hz2⟩ := info_parts int_info
      have q0 := hS.cell 3 0 rfl rfl
      have q1 := hS.cell 3 1 rfl rfl
      go_wp2_with fail
      refine (l2Groups_any _ (h.grow hS.bl)).mono ?_
      rintro e w3 ⟨⟨A2, n2, c2⟩, ss, rfl, hs, hb3⟩
      dsimp only [slV] at hs ⊢
      obtain rfl := ss_n hs
      replace hS := hS.ss hb3 hs
      rw [← idsTo_zero (crAt fs ids jds)] at hS
      have HS := hid hS
      have HR := hid hr
      have HQ := hid hq
      clear hS hb3 hs q0 q1 h hr hq hin hjn
      go_wp2_with fail
      go_loopw [8, 10] (fun v i wr => ∃ k : Nat, k ≤ (groupsL fs).length ∧ i = .int .i64 k ∧ Hid (Led w wr [tSS w2.heap.size (.slice A2 (groupsL fs).length c2) ss (groupsL fs), tOwns elInt w.heap.size 3 v (idsTo (crAt fs ids jds) k), tBlk (w.heap.size + 1 + 1) 31 #[.int .i64 t, .slice Q jds.length eq], tBlk (w.heap.size + 1) 31 #[.int .i64 s, .slice R ids.length er], tBlk w.heap.size 36 #[.slice A n c, .slice A' m d]])) (fun _ i _ => (groupsL fs).length - (intOf i).toNat)
      case atStart => exact ⟨0, Nat.zero_le _, rfl, HS⟩
      case round =>
        clear HS
        obtain ⟨k, hk, rfl, HS⟩ := hrel
        obtain ⟨A1, c1, rfl, _⟩ := HS.out.form 1 rfl
        by_cases hlt : k < (groupsL fs).length
        · obtain ⟨r, hrk⟩ := get_of (l := groupsL fs) (k := k) rfl hlt
          have hrl : r.length ≤ 15 := by have := groups_row (List.mem_of_getElem? hrk); omega
          obtain ⟨gb, ⟨sA, sn, sc⟩, rfl, _, hsk, hcell, hor⟩ := OwnsSS.at_ (HS.out.get 0 rfl) hrk
          dsimp only at hcell hor
          obtain rfl := own_n hor
          have HV := hid (Owns.sees hor)
          have HP := hid (crAt_of (a := ids) (b := jds) hrk)
          have T0 : ∀ w', Cls wr w' → w'.cell? ⟨gb, k, none⟩ = some (.slice sA r.length sc) := fun _ h => h.cell hcell
          have C1 : ∀ w', Cls wr w' → w'.cell? ⟨w.heap.size + 1, 1, none⟩ = some (.slice R ids.length er) := fun _ h => h.cell (HS.out.cell 3 1 rfl rfl)
          have C2 : ∀ w', Cls wr w' → w'.cell? ⟨w.heap.size + 1 + 1, 1, none⟩ = some (.slice Q jds.length eq) := fun _ h => h.cell (HS.out.cell 2 1 rfl rfl)
          have HA := hid (HR.out.grow HS.out.bl)
          have HB2 := hid (HQ.out.grow HS.out.bl)
          have iz : (k : Int) < ((groupsL fs).length : Int) := by omega
          have hll := idsTo_len (crAt fs ids jds) k
          clear hcell hor hsk hrk
          go_wp2_with fail
          cases ga : shG 0 r ids
          · refine region_cls (by kernel_rfl) (by kernel_rfl) ?_
            repeat (first
              | ((with_reducible refine quiet_pos ?_ (fun K hK => ?_))
                 · rfl
                 apply Exists.intro
                 refine ⟨fun w' hw' => ?_, ?_⟩
                 · go_simp
                   first
                     | with_reducible rfl
                     | (go_at_call_of 63 (Value.slice R ids.length er); exact hw'.same (l7Share_any 0 (by omega) _ (HV.out.grow hw') (HA.out.2.grow hw') (by omega) hlr ga))
                 simp only [Act.put, List.setIfInBounds_toArray, List.set_cons_zero, List.set_cons_succ]
                 refine hK _ ?_; clear hK K)
              | ((with_reducible refine quiet_neg ?_ (fun K hK => ?_))
                 · rfl
                 simp only [Act.put, List.setIfInBounds_toArray, List.set_cons_zero, List.set_cons_succ]
                 refine hK _ ?_; clear hK K))
            with_reducible refine wpQuiet_nil ?_
            intro wz hwz'
            have HS2 := hid (HS.out.step hwz')
            have HN := hid (idsTo_no (p := crAt fs ids jds) (k := k) (by rw [HP.out, ga]; rfl))
            clear HS T0 C1 C2 HV HA HB2
            go_wp2
            exact ⟨⟨k + 1, by omega, by go_num, by rw [HN.out]; exact HS2⟩, by simp [intOf]; omega⟩
          · cases gb2 : shG 0 r jds
            · refine region_cls (by kernel_rfl) (by kernel_rfl) ?_
              repeat (first
                | ((with_reducible refine quiet_pos ?_ (fun K hK => ?_))
                   · rfl
                   apply Exists.intro
                   refine ⟨fun w' hw' => ?_, ?_⟩
                   · go_simp
                     first
                       | with_reducible rfl
                       | (go_at_call_of 63 (Value.slice R ids.length er); exact hw'.same (l7Share_any 0 (by omega) _ (HV.out.grow hw') (HA.out.2.grow hw') (by omega) hlr ga))
                       | (go_at_call_of 63 (Value.slice Q jds.length eq); exact hw'.same (l7Share_any 0 (by omega) _ (HV.out.grow hw') (HB2.out.2.grow hw') (by omega) hlq gb2))
                   simp only [Act.put, List.setIfInBounds_toArray, List.set_cons_zero, List.set_cons_succ]
                   refine hK _ ?_; clear hK K)
                | ((with_reducible refine quiet_neg ?_ (fun K hK => ?_))
                   · rfl
                   simp only [Act.put, List.setIfInBounds_toArray, List.set_cons_zero, List.set_cons_succ]
                   refine hK _ ?_; clear hK K))
              with_reducible refine wpQuiet_nil ?_
              intro wz hwz'
              have HS2 := hid (HS.out.step hwz')
              have HN := hid (idsTo_no (p := crAt fs ids jds) (k := k) (by rw [HP.out, ga, gb2]; rfl))
              clear HS T0 C1 C2 HV HA HB2
              go_wp2
              exact ⟨⟨k + 1, by omega, by go_num, by rw [HN.out]; exact HS2⟩, by simp [intOf]; omega⟩
            · refine region_cls (by kernel_rfl) (by kernel_rfl) ?_
              repeat (first
                | ((with_reducible refine quiet_pos ?_ (fun K hK => ?_))
                   · rfl
                   apply Exists.intro
                   refine ⟨fun w' hw' => ?_, ?_⟩
                   · go_simp
                     first
                       | with_reducible rfl
                       | (go_at_call_of 63 (Value.slice R ids.length er); exact hw'.same (l7Share_any 0 (by omega) _ (HV.out.grow hw') (HA.out.2.grow hw') (by omega) hlr ga))
                       | (go_at_call_of 63 (Value.slice Q jds.length eq); exact hw'.same (l7Share_any 0 (by omega) _ (HV.out.grow hw') (HB2.out.2.grow hw') (by omega) hlq gb2))
                   simp only [Act.put, List.setIfInBounds_toArray, List.set_cons_zero, List.set_cons_succ]
                   refine hK _ ?_; clear hK K)
                | ((with_reducible refine quiet_neg ?_ (fun K hK => ?_))
                   · rfl
                   simp only [Act.put, List.setIfInBounds_toArray, List.set_cons_zero, List.set_cons_succ]
                   refine hK _ ?_; clear hK K))
              with_reducible refine wpQuiet_nil ?_
              intro wz hwz'
              have HN := hid (idsTo_yes (p := crAt fs ids jds) (k := k) (by rw [HP.out, ga, gb2]; rfl))
              have HS2 := hid ((HS.out.step hwz').blk_ wz.heap.size rfl 3 #[.int .i64 (k : Int)])
              clear HS T0 C1 C2 HV HA HB2
              go_wp2_with (first
                | (at_builtin; refine wpList_append_led rfl _ _ 26 rfl HS2.out 2 rfl Try.underlying26 hi hz0 hz1 (by rw [hz2]; decide) rfl rfl rfl (show Sees elInt _ _ _ 1 [(k : Int)] from sees_new elInt _ _ _ _ rfl) (by omega) HS2.out.bl.size ?_)
                | go_in)
              intro A3 c3 w7 hS5
              have hS6 := hid (hS5.drop 1)
              clear HS2 hS5
              go_wp2
              go_roundw
              case rel => exact ⟨k + 1, by omega, by go_num, by rw [HN.out]; exact hS6⟩
              case measure => simp [intOf]; omega
        · have hkn : k = (groupsL fs).length := by omega
          subst hkn
          clear hlt
          go_wp2
          go_ret2
          exact ⟨_, rfl, by rw [H.out, HE.out]; exact HS.out.own 1 rfl, HS.out.bl⟩
theorem crL_len : (crL xs fs s ids t jds).length ≤ 1048576 := by
  unfold crL
  cases g : shB xs fs s ids t jds
  · simp
  · rw [if_pos rfl]
    unfold shB at g
    rw [Bool.and_eq_true] at g
    have h1 := rtB_mem (routeB_good g.1).2
    have h2 := rtB_mem (routeB_good g.2).2
    have hm := (goodB_bd (routeB_good g.1).1).2.2
    rw [cr_same (routeB_good g.1).1 h1 h2]
    have := idsTo_len (crAt fs ids jds) (groupsL fs).length
    have := groupsL_len fs
    omega
end
end Go.Proofs.Ytndmffmbkcagmaa
/- Routes in the ledger: equal, marked, held. Conditions: at most 1048576 fibers; marks below 2^40. -/
namespace Go.Proofs.Ytndmffmbkcagmaa
open Go.RowKit
variable {w0 : World} {L : List Thing} {base base' c c' : Nat} {A A' : Option Addr} {ids : List Int}
set_option maxHeartbeats 1000000 in
set_option maxRecDepth 100000 in
theorem markR_led {w : World} (h : Led w0 w L) (i : Nat) (hi : L[i]? = some (tOwns elInt base 3 (.slice A ids.length c) ids)) (s k : Int) (hn : ids.length ≤ 1048576) (hk0 : 0 ≤ k) (hk : k ≤ 1099511627776) :
    Calls Try.prog 19 #[.agg #[.int .i64 s, .slice A ids.length c], .int .i64 k] w fun e w' => e = .returned (.int .i64 (k + ids.length)) ∧ Led w0 w' (L.set i (tOwns elInt base 3 (.slice A ids.length c) (marks k ids.length))) := by
  have h0 := h.blk 31 #[.int .i64 s, .slice A ids.length c]
  go_enter Try.func19, Try.ntmps19
  go_wp2_with fail
  refine (markI_led h0 (i + 1) (by simpa using hi) k hn hk0 hk).mono ?_
  rintro e w1 ⟨rfl, h1⟩
  have h2 : Led w0 w1 (L.set i (tOwns elInt base 3 (.slice A ids.length c) (marks k ids.length))) := h1.drop 1
  go_wp2_with fail
  go_ret
  exact ⟨rfl, h2⟩
set_option maxHeartbeats 1000000 in
set_option maxRecDepth 100000 in
theorem heldR_led {w : World} (h : Led w0 w L) (i : Nat) (s k : Int) {n : Nat} (hi : L[i]? = some (tOwns elInt base 3 (.slice A n c) (marks k n))) (hn : n ≤ 1048576) (hk0 : 0 ≤ k) (hk : k ≤ 1099511627776) :
    Calls Try.prog 20 #[.agg #[.int .i64 s, .slice A n c], .int .i64 k] w fun e w' => e = .returned (.int .i64 (k + n)) ∧ Led w0 w' L := by
  have h0 := h.blk 31 #[.int .i64 s, .slice A n c]
  go_enter Try.func20, Try.ntmps20
  go_wp2_with fail
  refine (heldI_led h0 (i + 1) k (by simpa using hi) hn hk0 hk).mono ?_
  rintro e w1 ⟨rfl, h1⟩
  have h2 : Led w0 w1 L := h1.drop 1
  go_wp2_with fail
  go_ret
  exact ⟨rfl, h2⟩
theorem eqR_led2 {w : World} (h : Led w0 w L) (i j : Nat) (hi : L[i]? = some (tOwns elInt base 3 (.slice A ids.length c) ids)) (hj : L[j]? = some (tOwns elInt base' 3 (.slice A' ids.length c') ids)) (s : Int) (hn : ids.length ≤ 1048576) :
    Calls Try.prog 16 #[.agg #[.int .i64 s, .slice A ids.length c], .agg #[.int .i64 s, .slice A' ids.length c']] w fun e w' => e = .returned (.bool true) ∧ Led w0 w' L ∧ Below w.heap.size w w' :=
  (eqRoute_any s w (h.seesI i hi) (h.seesI j hj) hn).mono fun _ _ ⟨he, hw⟩ => ⟨he, h.step hw, hw⟩
theorem eqR_led {w : World} (h : Led w0 w L) (i j : Nat) (hi : L[i]? = some (tOwns elInt base 3 (.slice A ids.length c) ids)) (hj : L[j]? = some (tOwns elInt base' 3 (.slice A' ids.length c') ids)) (s : Int) (hn : ids.length ≤ 1048576) :
    Calls Try.prog 16 #[.agg #[.int .i64 s, .slice A ids.length c], .agg #[.int .i64 s, .slice A' ids.length c']] w fun e w' => e = .returned (.bool true) ∧ Led w0 w' L :=
  (eqR_led2 h i j hi hj s hn).mono fun _ _ ⟨he, hw, _⟩ => ⟨he, hw⟩
end Go.Proofs.Ytndmffmbkcagmaa
/- A route that came in. Conditions: none. -/
namespace Go.Proofs.Ytndmffmbkcagmaa
open Go.ChangeShapes Go.WideShapes Go.ChangeAt Go.RowKit Go.Deep Go.Joins
section
variable {H : Type} {enc : TypeId × Value → H} {W : World} {spare : Nat → Bool} {held : Bool}
theorem cellsR : Try.prog.cellsOf 28 = 2 := by kernel_rfl
/-- A route that came in. -/
def RouteArg (W : World) (s : Int) (A : Option Addr) (n c : Nat) (xs : List Int) : Prop := (-9223372036854775808 ≤ s ∧ s ≤ 9223372036854775807) ∧ IntsArg W A n c xs
set_option maxRecDepth 100000 in
theorem open_route {base : Nat} {v : Value} {d : DataW H} {p : List MemPlace} (hv : Value.okWide Try.prog W .any base 28 v) (h : DataW.Trod enc Try.prog W 0 spare held 28 v d p) :
    ∃ s A n c xs, v = .agg #[.int .i64 s, .slice A n c] ∧ RouteArg W s A n c xs := by
  obtain ⟨v0, v1, y0, y1, k, rfl, _, _, h0, h1⟩ := open_agg2 Try.underlying28 (by kernel_rfl) cellsR hv h
  obtain ⟨s, e0, hs⟩ := el_int Try.underlying3 _ _ _ h0
  obtain ⟨A, n, c, xs, e1, b1, b2, b3, b4⟩ := open_sl elInt _ Try.underlying26 cellsI (el_int Try.underlying3) h1
  simp [elInt] at e0 e1
  exact ⟨s, A, n, c, xs, by rw [e0, e1], hs, ⟨b1, b2, b3, b4⟩⟩
end
end Go.Proofs.Ytndmffmbkcagmaa
