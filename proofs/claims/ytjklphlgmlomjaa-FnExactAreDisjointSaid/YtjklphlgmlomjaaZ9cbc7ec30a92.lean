/- Lemmas and walks that the claim rests on, laid together. Conditions: none. -/
import Derived.Test.YtjklphlgmlomjaaZ7f0815c46365
import Derived.Test.YtjklphlgmlomjaaZ8a8eb45d3b41
import Derived.Deep.RegionHeld3
/- SharedFibers of the reference, walked. Conditions: none. -/
namespace Go.Proofs.Ytjklphlgmlomjaa
open Go.RowKit
theorem Owns.split {α : Type} {E : El α} {w : World} {base : Nat} {e : TypeId} {v : Value} {xs : List α} (h : Owns E w base e v xs) : ∃ A c, v = .slice A xs.length c := by
  obtain ⟨A, c, hv, _⟩ := h.form
  exact ⟨A, c, hv⟩
section
variable {n c m d er eq : Nat} {A A' R Q : Option Addr} {xs : List ByteArray} {fs : List Fib} {ids jds : List Int} {s t : Int}
theorem asc_len {l : List Int} {n : Nat} (h : ascL l) (hb : ∀ x ∈ l, 0 ≤ x ∧ x < n) : l.length ≤ n :=
  nodup_bd n l (List.Pairwise.imp (fun {a b} (h : a < b) => by omega) h) hb
theorem shL_len : (shL xs fs s ids t jds).length ≤ 1048576 := by
  unfold shL
  cases g : shB xs fs s ids t jds
  · simp
  · rw [if_pos rfl]
    unfold shB at g
    rw [Bool.and_eq_true] at g
    have h1 := rtB_mem (routeB_good g.1).2
    have hm := (goodB_bd (routeB_good g.1).1).2.2
    obtain ⟨c1, c2⟩ := comL_asc ids jds
    have := asc_len (n := fs.length) c1 (fun x hx => h1 x ((c2 x).1 hx).1)
    omega
end
end Go.Proofs.Ytjklphlgmlomjaa
/- CommonRisks of the reference, walked. Conditions: none. -/
namespace Go.Proofs.Ytjklphlgmlomjaa
open Go.RowKit
/-- A number of the one list, but for so many at its ends, is in the other. -/
def shG (k : Nat) (l r : List Int) : Bool := !(allB (fun j => !hasB r (l.getD (k + j) 0)) (l.length - 2 * k))
theorem shG_zero (l r : List Int) : shG 0 l r = shAt l r := by simp [shG, shAt]
theorem calls_val {P : Program} {f : FuncId} {args : Array Value} {w : World} {b b' : Bool} (h : Calls P f args w fun e w' => e = .returned (.bool b) ∧ Below w.heap.size w w') (e : b = b') : Calls P f args w fun e w' => e = .returned (.bool b') ∧ Below w.heap.size w w' := by subst e; exact h
section
variable {n c m d er eq : Nat} {A A' R Q : Option Addr} {xs : List ByteArray} {fs : List Fib} {ids jds l r : List Int} {s t : Int}
set_option maxHeartbeats 2000000 in
set_option maxRecDepth 100000 in
theorem l7Share_any {B B' : Nat} (k : Nat) (hk1 : k ≤ 1) {b : Bool} (w : World) (hl : Sees elInt w B R l.length l) (hr : Sees elInt w B' Q r.length r) (ln : l.length ≤ 1048576) (rn : r.length ≤ 1048576) (hv : shG k l r = b) :
    Calls Try.prog 108 #[.slice R l.length er, .slice Q r.length eq, .int .i64 (k : Int)] w fun e w' => e = .returned (.bool b) ∧ w = w' := by
  have HL := hid hl
  have HR := hid hr
  have HV := hid hv
  clear hl hr hv
  go_enter Try.func108, Try.ntmps108
  go_wp2_with fail
  go_loop [7] (fun i => ∃ j : Nat, j ≤ l.length - 2 * k ∧ i = .int .i64 ((k + j : Nat) : Int) ∧ Hid (allTo (fun j => !hasB r (l.getD (k + j) 0)) j)) (fun i => l.length + 2 - (intOf i).toNat)
  case atStart => exact ⟨0, Nat.zero_le _, rfl, allTo_zero _⟩
  case round =>
    obtain ⟨j, hj, rfl, HT⟩ := hrel
    by_cases hlt : j < l.length - 2 * k
    · obtain ⟨g, o, rfl, _, hx⟩ := HL.out.at_ (k := k + j) (by omega)
      obtain ⟨x, hxk⟩ := get_of (l := l) (k := k + j) rfl (by omega)
      have f0 := hx (k + j) x hxk 0 _ rfl
      simp only [elInt, Nat.mul_one, Nat.add_zero] at f0
      have HX := hid (getD_at hxk)
      clear hx hxk
      go_wp2_with fail
      refine (l1Has_any x _ HR.out (by unfold maxLen; omega)).mono ?_
      rintro e w6 ⟨rfl, rfl⟩
      cases gk : hasB r x
      · have HT3 : Hid (allTo (fun j => !hasB r (l.getD (k + j) 0)) (j + 1)) := allTo_succ HT (by rw [HX.out, gk]; rfl)
        clear HT HX
        go_wp2
        go_round
        case rel => exact ⟨j + 1, by omega, by go_num, HT3⟩
        case measure => simp [intOf]; omega
      · have HE : Hid (b = true) := by
          unfold Hid; rw [← HV.out]; unfold shG
          rw [allB_no hlt (by rw [HX.out, gk]; rfl)]; rfl
        clear HT HX
        go_wp2
        go_ret
        exact ⟨by rw [HE.out]; rfl, rfl⟩
    · have HE : Hid (b = false) := by
        unfold Hid; rw [← HV.out]; unfold shG
        rw [allB_yes HT (by omega)]; rfl
      have hjk : ¬ ((k + j : Nat) : Int) < (l.length : Int) - (k : Int) := by omega
      clear HT
      go_wp2
      go_ret
      exact ⟨by rw [HE.out]; rfl, rfl⟩
end
end Go.Proofs.Ytjklphlgmlomjaa
/- Two routes with the same ends: which nodes they share, in plain Lean. Conditions: none. -/
namespace Go.Proofs.Ytjklphlgmlomjaa
/-- Three members are more than two. -/
theorem not_two {L : List Int} {p q z : Int} (h1 : p ∈ L) (h2 : q ∈ L) (h3 : z ∈ L) (a : p ≠ q) (b : z ≠ p) (c : z ≠ q) : L.length ≠ 2 := by
  intro h
  match L, h with
  | [u, v], _ =>
    simp only [List.mem_cons, List.not_mem_nil, or_false] at h1 h2 h3
    omega
theorem asc_two {L : List Int} {p q : Int} (hL : ascL L) (a : p < q) (h : ∀ x, x ∈ L ↔ x = p ∨ x = q) : L.length = 2 := by
  have : L = [p, q] := asc_ext hL (by unfold ascL; simp [a]) (fun x => by rw [h]; simp)
  rw [this]; rfl
theorem com_two {x y : List Int} {p q : Int} (hx : x.Nodup) (hl : 2 ≤ x.length) (hp : x[0]? = some p) (hq : x[x.length - 1]? = some q) (hpy : p ∈ y) (hqy : q ∈ y) : (((comL x y).length : Int) == 2) = !shG 1 x y := by
  obtain ⟨c1, c2⟩ := comL_asc x y
  have hpq : p ≠ q := fun e => by subst e; have := nodup_at hx hp hq; omega
  have hpc := (c2 p).2 ⟨List.mem_of_getElem? hp, hpy⟩
  have hqc := (c2 q).2 ⟨List.mem_of_getElem? hq, hqy⟩
  cases g : shG 1 x y
  · unfold shG at g
    rw [Bool.not_eq_false', allB_iff] at g
    have hm : ∀ z, z ∈ comL x y ↔ z = p ∨ z = q := by
      intro z
      constructor
      · intro hz
        obtain ⟨hzx, hzy⟩ := (c2 z).1 hz
        obtain ⟨i, hi⟩ := List.getElem?_of_mem hzx
        have hil := (List.getElem?_eq_some_iff.1 hi).1
        rcases Nat.eq_zero_or_pos i with rfl | h0
        · left; rw [hp] at hi; injection hi with hi; exact hi.symm
        · by_cases h9 : i = x.length - 1
          · right; subst h9; rw [hq] at hi; injection hi with hi; exact hi.symm
          · exfalso
            have h1 := g (i - 1) (by omega)
            dsimp only at h1
            rw [getD_at (l := x) (j := 1 + (i - 1)) (x := z) (by rw [show 1 + (i - 1) = i by omega]; exact hi), hasB_iff.2 hzy] at h1
            cases h1
      · rintro (rfl | rfl)
        · exact hpc
        · exact hqc
    have : (comL x y).length = 2 := by
      rcases Int.lt_or_gt_of_ne hpq with h | h
      · exact asc_two c1 h hm
      · exact asc_two c1 h (fun z => by rw [hm]; exact Or.comm)
    rw [this]; rfl
  · unfold shG at g
    rw [Bool.not_eq_true', ← Bool.not_eq_true, allB_iff] at g
    have : (comL x y).length ≠ 2 := by
      apply Classical.byContradiction
      intro h2
      refine g (fun j hj => ?_)
      dsimp only
      have hj' := List.getElem?_eq_getElem (l := x) (i := 1 + j) (by omega)
      rw [getD_at hj']
      have : ¬ x[1 + j] ∈ y := fun hm => by
        refine not_two hpc hqc ((c2 _).2 ⟨List.getElem_mem _, hm⟩) hpq ?_ ?_ (by omega)
        · intro e; rw [← e] at hp; have := nodup_at hx hp hj'; omega
        · intro e; rw [← e] at hq; have := nodup_at hx hq hj'; omega
      rw [← hasB_iff] at this
      simpa using this
    rw [Bool.not_true, beq_eq_false_iff_ne]
    omega
section
variable {xs : List ByteArray} {fs : List Fib} {a b : List Int} {s t k : Int}
/-- Disjoint, the program's way. -/
def dsB (fs : List Fib) (s : Int) (a : List Int) (t : Int) (b : List Int) (k : Int) : Bool :=
  if k = 2 then apB fs a b else (((comL a b).length : Int) == 0) && (decide (k = 1) || (((comL (outW fs s a a.length) (outW fs t b b.length)).length : Int) == 2))
/-- .. the reference's. -/
def dsS (fs : List Fib) (s : Int) (a : List Int) (t : Int) (b : List Int) (k : Int) : Bool :=
  if k = 1 then !shG 0 a b else if k = 2 then apS fs a b else !shG 0 a b && !shG 1 (outW fs s a a.length) (outW fs t b b.length)
theorem com_zero {a b : List Int} : (((comL a b).length : Int) == 0) = !shG 0 a b := by
  rw [shG_zero]
  apply Bool.eq_iff_iff.2
  rw [com_nil, Bool.not_eq_true', ← Bool.not_eq_true, shAt_iff]
  constructor
  · rintro h ⟨x, h1, h2⟩; exact h x h1 h2
  · intro h x h1 h2; exact h ⟨x, h1, h2⟩
theorem outW_first (fs : List Fib) (s : Int) (a : List Int) (k : Nat) : (outW fs s a k)[0]? = some s := by simp [outW, atW]
theorem ds_same (ha : routeB xs fs s a = true) (hb : routeB xs fs t b = true) (hst : s = t) (he : atW fs s a a.length = atW fs t b b.length) : dsB fs s a t b k = dsS fs s a t b k := by
  have ha2 := (routeB_good ha).2
  have hb2 := (routeB_good hb).2
  unfold dsB dsS
  rw [com_zero]
  by_cases h1 : k = 1
  · subst h1; simp
  · by_cases h2 : k = 2
    · subst h2
      rw [if_pos rfl, if_neg (by decide), if_pos rfl]
      exact ap_same (routeB_good ha).1 (rtB_mem ha2) (rtB_mem hb2)
    · rw [if_neg h2, if_neg h1, if_neg h2]
      have hl := (routeB_short ha).2
      have hn := outW_nodup (rtB_parts ha2).2.2 a.length (Nat.le_refl _)
      have h3 := com_two (x := outW fs s a a.length) (y := outW fs t b b.length) (p := s) (q := atW fs s a a.length) hn (by rw [outW_len]; omega) (outW_first _ _ _ _) (by rw [outW_len, Nat.add_sub_cancel]; exact outW_get _ _ _ _)
        (by rw [hst]; exact List.mem_of_getElem? (outW_first _ _ _ _)) (by rw [he]; exact List.mem_of_getElem? (outW_get _ _ _ _))
      rw [h3, decide_eq_false h1, Bool.false_or]
def adB (xs : List ByteArray) (fs : List Fib) (s : Int) (a : List Int) (t : Int) (b : List Int) (k : Int) : Bool :=
  (((routeB xs fs s a && routeB xs fs t b) && inB 1 3 k) && decide (s = t)) && decide (atW fs s a a.length = atW fs t b b.length)
def adV (xs : List ByteArray) (fs : List Fib) (s : Int) (a : List Int) (t : Int) (b : List Int) (k : Int) : Bool := adB xs fs s a t b k && dsB fs s a t b k
end
end Go.Proofs.Ytjklphlgmlomjaa
/- AreDisjoint of the program, walked. Conditions: none. -/
namespace Go.Proofs.Ytjklphlgmlomjaa
open Go.RowKit
theorem calls_num {P : Program} {f : FuncId} {args : Array Value} {w : World} {b b' : Int} (h : Calls P f args w fun e w' => e = .returned (.int .i64 b) ∧ Below w.heap.size w w') (e : b = b') : Calls P f args w fun e w' => e = .returned (.int .i64 b') ∧ Below w.heap.size w w' := by subst e; exact h
set_option maxRecDepth 100000 in
theorem isKind_any (k : Int) {b : Bool} (hv : inB 1 3 k = b) (w : World) : Calls Try.prog 64 #[.int .i64 k] w fun e w' => e = .returned (.bool b) ∧ w = w' := by
  have HV := hid hv
  clear hv
  go_enter Try.func64, Try.ntmps64
  go_wp2_with fail
  refine (within_any _ _ _ _).mono ?_
  rintro e w1 ⟨rfl, rfl⟩
  rw [HV.out]
  go_wp2
  go_ret
  exact ⟨rfl, rfl⟩
section
variable {n c m d er eq : Nat} {A A' R Q : Option Addr} {xs : List ByteArray} {fs : List Fib} {ids jds : List Int} {s t k : Int}
set_option maxHeartbeats 2000000 in
set_option maxRecDepth 100000 in
theorem disjoint_any (w : World) (h : NetIs w A n c A' m d xs fs) (hr : RtIs w R ids.length er ids) (hq : RtIs w Q jds.length eq jds) (ga : routeB xs fs s ids = true) (gb : routeB xs fs t jds = true) :
    Calls Try.prog 66 #[.agg #[.slice A n c, .slice A' m d], .agg #[.int .i64 s, .slice R ids.length er], .agg #[.int .i64 t, .slice Q jds.length eq], .int .i64 k] w fun e w' => e = .returned (.bool (dsB fs s ids t jds k)) ∧ Below w.heap.size w w' := by
  have hm : m ≤ 1000000 := by
    have := (goodB_bd (routeB_good ga).1).2.2
    rw [h.flen] at this; omega
  have HRa : Hid (rtB n fs s ids = true) := by have := (routeB_good ga).2; rw [h.xlen] at this; exact this
  have HRb : Hid (rtB n fs t jds = true) := by have := (routeB_good gb).2; rw [h.xlen] at this; exact this
  have hla := (routeB_short ga).1
  have hlb := (routeB_short gb).1
  have hS := (((Led.nil w).blk_ w.heap.size rfl 35 #[.slice A n c, .slice A' m d]).blk_ (w.heap.size + 1) (by simp) 37 #[.int .i64 s, .slice R ids.length er]).blk_ (w.heap.size + 1 + 1) (by simp) 37 #[.int .i64 t, .slice Q jds.length eq]
  by_cases hk2 : k = 2
  · subst hk2
    have H : Hid (dsB fs s ids t jds 2 = apB fs ids jds) := rfl
    rw [H.out]
    have q0 := hS.cell 2 0 rfl rfl
    have q1 := hS.cell 2 1 rfl rfl
    have q2 := hS.cell 1 0 rfl rfl
    have q3 := hS.cell 1 1 rfl rfl
    have q4 := hS.cell 0 0 rfl rfl
    have q5 := hS.cell 0 1 rfl rfl
    go_enter Try.func66, Try.ntmps66
    go_wp2_with fail
    refine (apart_any _ (h.grow hS.bl) (hr.grow hS.bl) (hq.grow hS.bl) hm).mono ?_
    rintro e w2 ⟨rfl, hb2⟩
    have HZ := hid (bl_then hS.bl hb2)
    clear hb2 hS
    go_wp2
    go_ret
    exact ⟨rfl, HZ.out⟩
  · have H : Hid (dsB fs s ids t jds k = ((((comL ids jds).length : Int) == 0) && (decide (k = 1) || (((comL (outW fs s ids ids.length) (outW fs t jds jds.length)).length : Int) == 2)))) := by unfold Hid dsB; rw [if_neg hk2]
    rw [H.out]
    go_enter Try.func66, Try.ntmps66
    go_wp2_with fail
    refine (visited_any s _ (h.grow hS.bl) (hr.grow hS.bl)).mono ?_
    rintro e w1 ⟨v1, rfl, ho1, hb1⟩
    rw [HRa.out]
    rw [rtL_yes HRa.out] at ho1
    obtain ⟨A1, c1, rfl, _⟩ := ho1.form
    replace hS := hS.owns hb1 ho1
    clear ho1 hb1
    have q0 := hS.cell 3 0 rfl rfl
    have q1 := hS.cell 3 1 rfl rfl
    have q2 := hS.cell 2 0 rfl rfl
    have q3 := hS.cell 2 1 rfl rfl
    have q4 := hS.cell 1 0 rfl rfl
    have q5 := hS.cell 1 1 rfl rfl
    go_wp2_with fail
    refine (visited_any t _ (h.grow hS.bl) (hq.grow hS.bl)).mono ?_
    rintro e w2 ⟨v2, rfl, ho2, hb2⟩
    rw [HRb.out]
    rw [rtL_yes HRb.out] at ho2
    obtain ⟨A2, c2, rfl, _⟩ := ho2.form
    replace hS := hS.owns hb2 ho2
    clear ho2 hb2 q0 q1 q2 q3 q4 q5
    have q0 := hS.cell 4 0 rfl rfl
    have q1 := hS.cell 4 1 rfl rfl
    have q2 := hS.cell 3 0 rfl rfl
    have q3 := hS.cell 3 1 rfl rfl
    have q4 := hS.cell 2 0 rfl rfl
    have q5 := hS.cell 2 1 rfl rfl
    go_wp2_with fail
    refine (common_any _ (hr.grow hS.bl).2 (hq.grow hS.bl).2 (by omega) (by omega)).mono ?_
    rintro e w3 ⟨v3, rfl, ho3, hb3⟩
    obtain ⟨A3, c3, rfl, _⟩ := ho3.form
    replace hS := hS.owns hb3 ho3
    clear ho3 hb3 q0 q1 q2 q3 q4 q5
    have HS := hid hS
    clear hS
    generalize hz : (comL ids jds).length = z at *
    have HZl := hid hz
    clear hz
    rcases z with _ | z
    · by_cases hk1 : k = 1
      · subst hk1
        go_wp2
        go_ret
        exact ⟨by show Ending.returned (Value.bool true) = _; rw [HZl.out]; rfl, HS.out.bl⟩
      · have hk1d := decide_eq_false hk1
        go_wp2_with fail
        refine (common_any _ (HS.out.sees 2 rfl rfl) (HS.out.sees 1 rfl rfl) (by rw [outW_len]; omega) (by rw [outW_len]; omega)).mono ?_
        rintro e w4 ⟨v4, rfl, ho4, hb4⟩
        obtain ⟨A4, c4, rfl, _⟩ := ho4.form
        have HZ := hid (HS.out.step hb4).bl
        clear HS ho4 hb4
        go_wp2
        go_ret
        exact ⟨by rw [HZl.out, hk1d]; go_simp, HZ.out⟩
    · go_wp2
      go_ret
      have hz1 : (((z + 1 : Nat) : Int) == 0) = false := by rw [beq_eq_false_iff_ne]; omega
      exact ⟨by show Ending.returned (Value.bool false) = _; rw [HZl.out, hz1]; rfl, HS.out.bl⟩
theorem and_l {a b : Bool} (h : (a && b) = true) : a = true := by revert h; cases a <;> simp
theorem and_r {a b : Bool} (h : (a && b) = true) : b = true := by revert h; cases a <;> simp
set_option maxHeartbeats 2000000 in
set_option maxRecDepth 100000 in
theorem implAreDisjoint (w : World) (h : NetIs w A n c A' m d xs fs) (hr : RtIs w R ids.length er ids) (hq : RtIs w Q jds.length eq jds) :
    Calls Try.prog 20 #[.agg #[.slice A n c, .slice A' m d], .agg #[.int .i64 s, .slice R ids.length er], .agg #[.int .i64 t, .slice Q jds.length eq], .int .i64 k] w fun e w' => e = .returned (.tuple #[.bool (adV xs fs s ids t jds k), .bool (adB xs fs s ids t jds k)]) ∧ Below w.heap.size w w' := by
  have hS := (((Led.nil w).blk_ w.heap.size rfl 35 #[.slice A n c, .slice A' m d]).blk_ (w.heap.size + 1) (by simp) 37 #[.int .i64 s, .slice R ids.length er]).blk_ (w.heap.size + 1 + 1) (by simp) 37 #[.int .i64 t, .slice Q jds.length eq]
  have HB : Hid (adB xs fs s ids t jds k = ((((routeB xs fs s ids && routeB xs fs t jds) && inB 1 3 k) && decide (s = t)) && decide (atW fs s ids ids.length = atW fs t jds jds.length))) := rfl
  have HV : Hid (adV xs fs s ids t jds k = (adB xs fs s ids t jds k && dsB fs s ids t jds k)) := rfl
  have HN := hid h
  have HR := hid hr
  have HQ := hid hq
  clear h hr hq
  cases g1 : (routeB xs fs s ids && routeB xs fs t jds)
  · have H : Hid (adB xs fs s ids t jds k = false) := by unfold Hid; rw [HB.out, g1]; rfl
    rw [HV.out, H.out]
    go_enter Try.func20, Try.ntmps20
    go_wp2_with fail
    generalize ((w.alloc (.cells #[.slice A n c, .slice A' m d] 35)).alloc (.cells #[.int .i64 s, .slice R ids.length er] 37)).alloc (.cells #[.int .i64 t, .slice Q jds.length eq] 37) = W0 at *
    have C0 : ∀ w', Cls W0 w' → w'.cell? ⟨w.heap.size, 0, none⟩ = some (.slice A n c) := fun _ h => h.cell (hS.cell 2 0 rfl rfl)
    have C1 : ∀ w', Cls W0 w' → w'.cell? ⟨w.heap.size, 1, none⟩ = some (.slice A' m d) := fun _ h => h.cell (hS.cell 2 1 rfl rfl)
    have C2 : ∀ w', Cls W0 w' → w'.cell? ⟨w.heap.size + 1, 0, none⟩ = some (.int .i64 s) := fun _ h => h.cell (hS.cell 1 0 rfl rfl)
    have C3 : ∀ w', Cls W0 w' → w'.cell? ⟨w.heap.size + 1, 1, none⟩ = some (.slice R ids.length er) := fun _ h => h.cell (hS.cell 1 1 rfl rfl)
    have C4 : ∀ w', Cls W0 w' → w'.cell? ⟨w.heap.size + 1 + 1, 0, none⟩ = some (.int .i64 t) := fun _ h => h.cell (hS.cell 0 0 rfl rfl)
    have C5 : ∀ w', Cls W0 w' → w'.cell? ⟨w.heap.size + 1 + 1, 1, none⟩ = some (.slice Q jds.length eq) := fun _ h => h.cell (hS.cell 0 1 rfl rfl)
    have HL := hid (fun w' (h : Cls W0 w') => hS.step h)
    refine region_cls (by kernel_rfl) (by kernel_rfl) ?_
    repeat (first
      | ((with_reducible refine quiet_pos ?_ (fun K hK => ?_))
         · rfl
         apply Exists.intro
         refine ⟨fun w' hw' => ?_, ?_⟩
         · go_simp
           first
             | with_reducible rfl
             | (go_at_call 63; exact hw'.call (calls_val (areRoutes_any _ (HN.out.grow (HL.out _ hw').bl) (HR.out.grow (HL.out _ hw').bl) (HQ.out.grow (HL.out _ hw').bl)) g1))
         simp only [Act.put, List.setIfInBounds_toArray, List.set_cons_zero, List.set_cons_succ]
         refine hK _ ?_; clear hK K)
      | ((with_reducible refine quiet_neg ?_ (fun K hK => ?_))
         · rfl
         simp only [Act.put, List.setIfInBounds_toArray, List.set_cons_zero, List.set_cons_succ]
         refine hK _ ?_; clear hK K))
    with_reducible refine wpQuiet_nil ?_
    intro wz hwz'
    have HS := hid (hS.step hwz')
    clear HL hS C0 C1 C2 C3 C4 C5
    go_wp2_with fail
    go_ret2
    exact ⟨rfl, HS.out.bl⟩
  · skip
    cases g2 : inB 1 3 k
    · have H : Hid (adB xs fs s ids t jds k = false) := by unfold Hid; rw [HB.out, g1, g2]; rfl
      rw [HV.out, H.out]
      go_enter Try.func20, Try.ntmps20
      go_wp2_with fail
      generalize ((w.alloc (.cells #[.slice A n c, .slice A' m d] 35)).alloc (.cells #[.int .i64 s, .slice R ids.length er] 37)).alloc (.cells #[.int .i64 t, .slice Q jds.length eq] 37) = W0 at *
      have C0 : ∀ w', Cls W0 w' → w'.cell? ⟨w.heap.size, 0, none⟩ = some (.slice A n c) := fun _ h => h.cell (hS.cell 2 0 rfl rfl)
      have C1 : ∀ w', Cls W0 w' → w'.cell? ⟨w.heap.size, 1, none⟩ = some (.slice A' m d) := fun _ h => h.cell (hS.cell 2 1 rfl rfl)
      have C2 : ∀ w', Cls W0 w' → w'.cell? ⟨w.heap.size + 1, 0, none⟩ = some (.int .i64 s) := fun _ h => h.cell (hS.cell 1 0 rfl rfl)
      have C3 : ∀ w', Cls W0 w' → w'.cell? ⟨w.heap.size + 1, 1, none⟩ = some (.slice R ids.length er) := fun _ h => h.cell (hS.cell 1 1 rfl rfl)
      have C4 : ∀ w', Cls W0 w' → w'.cell? ⟨w.heap.size + 1 + 1, 0, none⟩ = some (.int .i64 t) := fun _ h => h.cell (hS.cell 0 0 rfl rfl)
      have C5 : ∀ w', Cls W0 w' → w'.cell? ⟨w.heap.size + 1 + 1, 1, none⟩ = some (.slice Q jds.length eq) := fun _ h => h.cell (hS.cell 0 1 rfl rfl)
      have HL := hid (fun w' (h : Cls W0 w') => hS.step h)
      refine region_cls (by kernel_rfl) (by kernel_rfl) ?_
      repeat (first
        | ((with_reducible refine quiet_pos ?_ (fun K hK => ?_))
           · rfl
           apply Exists.intro
           refine ⟨fun w' hw' => ?_, ?_⟩
           · go_simp
             first
               | with_reducible rfl
               | (go_at_call 63; exact hw'.call (calls_val (areRoutes_any _ (HN.out.grow (HL.out _ hw').bl) (HR.out.grow (HL.out _ hw').bl) (HQ.out.grow (HL.out _ hw').bl)) g1))
               | (go_at_call 64; exact hw'.same (isKind_any k g2 _))
           simp only [Act.put, List.setIfInBounds_toArray, List.set_cons_zero, List.set_cons_succ]
           refine hK _ ?_; clear hK K)
        | ((with_reducible refine quiet_neg ?_ (fun K hK => ?_))
           · rfl
           simp only [Act.put, List.setIfInBounds_toArray, List.set_cons_zero, List.set_cons_succ]
           refine hK _ ?_; clear hK K))
      with_reducible refine wpQuiet_nil ?_
      intro wz hwz'
      have HS := hid (hS.step hwz')
      clear HL hS C0 C1 C2 C3 C4 C5
      go_wp2_with fail
      go_ret2
      exact ⟨rfl, HS.out.bl⟩
    · skip
      rcases (Classical.em (s = t)).symm with hst | hst
      · have H : Hid (adB xs fs s ids t jds k = false) := by unfold Hid; rw [HB.out, g1, g2, decide_eq_false hst]; rfl
        rw [HV.out, H.out]
        have hst2 : (s != t) = true := by simpa using hst
        go_enter Try.func20, Try.ntmps20
        go_wp2_with fail
        generalize ((w.alloc (.cells #[.slice A n c, .slice A' m d] 35)).alloc (.cells #[.int .i64 s, .slice R ids.length er] 37)).alloc (.cells #[.int .i64 t, .slice Q jds.length eq] 37) = W0 at *
        have C0 : ∀ w', Cls W0 w' → w'.cell? ⟨w.heap.size, 0, none⟩ = some (.slice A n c) := fun _ h => h.cell (hS.cell 2 0 rfl rfl)
        have C1 : ∀ w', Cls W0 w' → w'.cell? ⟨w.heap.size, 1, none⟩ = some (.slice A' m d) := fun _ h => h.cell (hS.cell 2 1 rfl rfl)
        have C2 : ∀ w', Cls W0 w' → w'.cell? ⟨w.heap.size + 1, 0, none⟩ = some (.int .i64 s) := fun _ h => h.cell (hS.cell 1 0 rfl rfl)
        have C3 : ∀ w', Cls W0 w' → w'.cell? ⟨w.heap.size + 1, 1, none⟩ = some (.slice R ids.length er) := fun _ h => h.cell (hS.cell 1 1 rfl rfl)
        have C4 : ∀ w', Cls W0 w' → w'.cell? ⟨w.heap.size + 1 + 1, 0, none⟩ = some (.int .i64 t) := fun _ h => h.cell (hS.cell 0 0 rfl rfl)
        have C5 : ∀ w', Cls W0 w' → w'.cell? ⟨w.heap.size + 1 + 1, 1, none⟩ = some (.slice Q jds.length eq) := fun _ h => h.cell (hS.cell 0 1 rfl rfl)
        have HL := hid (fun w' (h : Cls W0 w') => hS.step h)
        refine region_cls (by kernel_rfl) (by kernel_rfl) ?_
        repeat (first
          | ((with_reducible refine quiet_pos ?_ (fun K hK => ?_))
             · rfl
             apply Exists.intro
             refine ⟨fun w' hw' => ?_, ?_⟩
             · go_simp
               first
                 | with_reducible rfl
                 | (go_at_call 63; exact hw'.call (calls_val (areRoutes_any _ (HN.out.grow (HL.out _ hw').bl) (HR.out.grow (HL.out _ hw').bl) (HQ.out.grow (HL.out _ hw').bl)) g1))
                 | (go_at_call 64; exact hw'.same (isKind_any k g2 _))
             simp only [Act.put, List.setIfInBounds_toArray, List.set_cons_zero, List.set_cons_succ]
             refine hK _ ?_; clear hK K)
          | ((with_reducible refine quiet_neg ?_ (fun K hK => ?_))
             · rfl
             simp only [Act.put, List.setIfInBounds_toArray, List.set_cons_zero, List.set_cons_succ]
             refine hK _ ?_; clear hK K))
        with_reducible refine wpQuiet_nil ?_
        intro wz hwz'
        have HS := hid (hS.step hwz')
        clear HL hS C0 C1 C2 C3 C4 C5
        go_wp2_with fail
        go_ret2
        exact ⟨rfl, HS.out.bl⟩
      · have hst2 : (s != t) = false := by simpa using hst
        have Hhst := hid hst
        clear hst
        have HRa : Hid (rtB n fs s ids = true) := by have := (routeB_good (and_l g1)).2; rw [HN.out.xlen] at this; exact this
        have HRb : Hid (rtB n fs t jds = true) := by have := (routeB_good (and_r g1)).2; rw [HN.out.xlen] at this; exact this
        obtain ⟨E1, hE1⟩ : ∃ E, atW fs s ids ids.length = E := ⟨_, rfl⟩
        obtain ⟨E2, hE2⟩ : ∃ E, atW fs t jds jds.length = E := ⟨_, rfl⟩
        have HE1 := hid hE1
        have HE2 := hid hE2
        clear hE1 hE2
        rcases (Classical.em (E1 = E2)).symm with hee | hee
        · have H : Hid (adB xs fs s ids t jds k = false) := by unfold Hid; rw [HB.out, g1, g2, decide_eq_true Hhst.out, HE1.out, HE2.out, decide_eq_false hee]; rfl
          rw [HV.out, H.out]
          have hee2 : (E1 != E2) = true := by simpa using hee
          go_enter Try.func20, Try.ntmps20
          go_wp2_with fail
          generalize ((w.alloc (.cells #[.slice A n c, .slice A' m d] 35)).alloc (.cells #[.int .i64 s, .slice R ids.length er] 37)).alloc (.cells #[.int .i64 t, .slice Q jds.length eq] 37) = W0 at *
          have C0 : ∀ w', Cls W0 w' → w'.cell? ⟨w.heap.size, 0, none⟩ = some (.slice A n c) := fun _ h => h.cell (hS.cell 2 0 rfl rfl)
          have C1 : ∀ w', Cls W0 w' → w'.cell? ⟨w.heap.size, 1, none⟩ = some (.slice A' m d) := fun _ h => h.cell (hS.cell 2 1 rfl rfl)
          have C2 : ∀ w', Cls W0 w' → w'.cell? ⟨w.heap.size + 1, 0, none⟩ = some (.int .i64 s) := fun _ h => h.cell (hS.cell 1 0 rfl rfl)
          have C3 : ∀ w', Cls W0 w' → w'.cell? ⟨w.heap.size + 1, 1, none⟩ = some (.slice R ids.length er) := fun _ h => h.cell (hS.cell 1 1 rfl rfl)
          have C4 : ∀ w', Cls W0 w' → w'.cell? ⟨w.heap.size + 1 + 1, 0, none⟩ = some (.int .i64 t) := fun _ h => h.cell (hS.cell 0 0 rfl rfl)
          have C5 : ∀ w', Cls W0 w' → w'.cell? ⟨w.heap.size + 1 + 1, 1, none⟩ = some (.slice Q jds.length eq) := fun _ h => h.cell (hS.cell 0 1 rfl rfl)
          have HL := hid (fun w' (h : Cls W0 w') => hS.step h)
          refine region_cls (by kernel_rfl) (by kernel_rfl) ?_
          repeat (first
            | ((with_reducible refine quiet_pos ?_ (fun K hK => ?_))
               · rfl
               apply Exists.intro
               refine ⟨fun w' hw' => ?_, ?_⟩
               · go_simp
                 first
                   | with_reducible rfl
                   | (go_at_call 63; exact hw'.call (calls_val (areRoutes_any _ (HN.out.grow (HL.out _ hw').bl) (HR.out.grow (HL.out _ hw').bl) (HQ.out.grow (HL.out _ hw').bl)) g1))
                   | (go_at_call 64; exact hw'.same (isKind_any k g2 _))
                   | (go_at_call_of 65 (Value.slice R ids.length er); exact hw'.call (calls_num (endOf_any _ (HN.out.grow (HL.out _ hw').bl) (HR.out.grow (HL.out _ hw').bl) HRa.out) HE1.out))
                   | (go_at_call_of 65 (Value.slice Q jds.length eq); exact hw'.call (calls_num (endOf_any _ (HN.out.grow (HL.out _ hw').bl) (HQ.out.grow (HL.out _ hw').bl) HRb.out) HE2.out))
               simp only [Act.put, List.setIfInBounds_toArray, List.set_cons_zero, List.set_cons_succ]
               refine hK _ ?_; clear hK K)
            | ((with_reducible refine quiet_neg ?_ (fun K hK => ?_))
               · rfl
               simp only [Act.put, List.setIfInBounds_toArray, List.set_cons_zero, List.set_cons_succ]
               refine hK _ ?_; clear hK K))
          with_reducible refine wpQuiet_nil ?_
          intro wz hwz'
          have HS := hid (hS.step hwz')
          clear HL hS C0 C1 C2 C3 C4 C5
          go_wp2_with fail
          go_ret2
          exact ⟨rfl, HS.out.bl⟩
        · have hee2 : (E1 != E2) = false := by simpa using hee
          have Hhee := hid hee
          clear hee
          have HDt := hid (show adB xs fs s ids t jds k = true by rw [HB.out, g1, g2, decide_eq_true Hhst.out, HE1.out, HE2.out, decide_eq_true Hhee.out]; rfl)
          rw [HV.out, HDt.out]
          go_enter Try.func20, Try.ntmps20
          go_wp2_with fail
          generalize ((w.alloc (.cells #[.slice A n c, .slice A' m d] 35)).alloc (.cells #[.int .i64 s, .slice R ids.length er] 37)).alloc (.cells #[.int .i64 t, .slice Q jds.length eq] 37) = W0 at *
          have C0 : ∀ w', Cls W0 w' → w'.cell? ⟨w.heap.size, 0, none⟩ = some (.slice A n c) := fun _ h => h.cell (hS.cell 2 0 rfl rfl)
          have C1 : ∀ w', Cls W0 w' → w'.cell? ⟨w.heap.size, 1, none⟩ = some (.slice A' m d) := fun _ h => h.cell (hS.cell 2 1 rfl rfl)
          have C2 : ∀ w', Cls W0 w' → w'.cell? ⟨w.heap.size + 1, 0, none⟩ = some (.int .i64 s) := fun _ h => h.cell (hS.cell 1 0 rfl rfl)
          have C3 : ∀ w', Cls W0 w' → w'.cell? ⟨w.heap.size + 1, 1, none⟩ = some (.slice R ids.length er) := fun _ h => h.cell (hS.cell 1 1 rfl rfl)
          have C4 : ∀ w', Cls W0 w' → w'.cell? ⟨w.heap.size + 1 + 1, 0, none⟩ = some (.int .i64 t) := fun _ h => h.cell (hS.cell 0 0 rfl rfl)
          have C5 : ∀ w', Cls W0 w' → w'.cell? ⟨w.heap.size + 1 + 1, 1, none⟩ = some (.slice Q jds.length eq) := fun _ h => h.cell (hS.cell 0 1 rfl rfl)
          have HL := hid (fun w' (h : Cls W0 w') => hS.step h)
          refine region_cls (by kernel_rfl) (by kernel_rfl) ?_
          repeat (first
            | ((with_reducible refine quiet_pos ?_ (fun K hK => ?_))
               · rfl
               apply Exists.intro
               refine ⟨fun w' hw' => ?_, ?_⟩
               · go_simp
                 first
                   | with_reducible rfl
                   | (go_at_call 63; exact hw'.call (calls_val (areRoutes_any _ (HN.out.grow (HL.out _ hw').bl) (HR.out.grow (HL.out _ hw').bl) (HQ.out.grow (HL.out _ hw').bl)) g1))
                   | (go_at_call 64; exact hw'.same (isKind_any k g2 _))
                   | (go_at_call_of 65 (Value.slice R ids.length er); exact hw'.call (calls_num (endOf_any _ (HN.out.grow (HL.out _ hw').bl) (HR.out.grow (HL.out _ hw').bl) HRa.out) HE1.out))
                   | (go_at_call_of 65 (Value.slice Q jds.length eq); exact hw'.call (calls_num (endOf_any _ (HN.out.grow (HL.out _ hw').bl) (HQ.out.grow (HL.out _ hw').bl) HRb.out) HE2.out))
               simp only [Act.put, List.setIfInBounds_toArray, List.set_cons_zero, List.set_cons_succ]
               refine hK _ ?_; clear hK K)
            | ((with_reducible refine quiet_neg ?_ (fun K hK => ?_))
               · rfl
               simp only [Act.put, List.setIfInBounds_toArray, List.set_cons_zero, List.set_cons_succ]
               refine hK _ ?_; clear hK K))
          with_reducible refine wpQuiet_nil ?_
          intro wz hwz'
          have HS := hid (hS.step hwz')
          clear HL hS C0 C1 C2 C3 C4 C5
          replace hS := HS.out
          clear HS
          have q0 := hS.cell 2 0 rfl rfl
          have q1 := hS.cell 2 1 rfl rfl
          have q2 := hS.cell 1 0 rfl rfl
          have q3 := hS.cell 1 1 rfl rfl
          have q4 := hS.cell 0 0 rfl rfl
          have q5 := hS.cell 0 1 rfl rfl
          go_wp2_with fail
          refine (disjoint_any _ (HN.out.grow hS.bl) (HR.out.grow hS.bl) (HQ.out.grow hS.bl) (and_l g1) (and_r g1)).mono ?_
          rintro e w2 ⟨rfl, hb2⟩
          have HZ := hid (bl_then hS.bl hb2)
          clear hb2 hS q0 q1 q2 q3 q4 q5
          go_wp2_with fail
          go_ret2
          exact ⟨rfl, HZ.out⟩
end
end Go.Proofs.Ytjklphlgmlomjaa
/- AreDisjoint of the reference, walked. Conditions: none. -/
namespace Go.Proofs.Ytjklphlgmlomjaa
open Go.RowKit
set_option maxRecDepth 100000 in
theorem l7Kind_any (k : Int) {b : Bool} (hv : inB 1 3 k = b) (w : World) : Calls Try.prog 57 #[.int .i64 k] w fun e w' => e = .returned (.bool b) ∧ w = w' := by
  have HV := hid hv
  clear hv
  go_enter Try.func57, Try.ntmps57
  go_wp2_with fail
  refine (l1In_any _ _ _ _).mono ?_
  rintro e w1 ⟨rfl, rfl⟩
  rw [HV.out]
  go_wp2
  go_ret
  exact ⟨rfl, rfl⟩
section
variable {n c m d er eq : Nat} {A A' R Q : Option Addr} {xs : List ByteArray} {fs : List Fib} {ids jds : List Int} {s t k : Int}
set_option maxHeartbeats 2000000 in
set_option maxRecDepth 100000 in
theorem l7Apart_any (w : World) (h : NetIs w A n c A' m d xs fs) (hr : RtIs w R ids.length er ids) (hq : RtIs w Q jds.length eq jds) (ga : routeB xs fs s ids = true) (gb : routeB xs fs t jds = true) :
    Calls Try.prog 59 #[.agg #[.slice A n c, .slice A' m d], .agg #[.int .i64 s, .slice R ids.length er], .agg #[.int .i64 t, .slice Q jds.length eq], .int .i64 k] w fun e w' => e = .returned (.bool (dsS fs s ids t jds k)) ∧ Below w.heap.size w w' := by
  have HRa : Hid (rtB n fs s ids = true) := by have := (routeB_good ga).2; rw [h.xlen] at this; exact this
  have HRb : Hid (rtB n fs t jds = true) := by have := (routeB_good gb).2; rw [h.xlen] at this; exact this
  have hla := (routeB_short ga).1
  have hlb := (routeB_short gb).1
  have hS := (((Led.nil w).blk_ w.heap.size rfl 35 #[.slice A n c, .slice A' m d]).blk_ (w.heap.size + 1) (by simp) 37 #[.int .i64 s, .slice R ids.length er]).blk_ (w.heap.size + 1 + 1) (by simp) 37 #[.int .i64 t, .slice Q jds.length eq]
  have HN := hid h
  have HR := hid hr
  have HQ := hid hq
  have HGa := hid ga
  clear h hr hq ga
  by_cases hk1 : k = 1
  · subst hk1
    have H : Hid (dsS fs s ids t jds 1 = !shG 0 ids jds) := rfl
    rw [H.out]
    have q0 := hS.cell 2 0 rfl rfl
    have q1 := hS.cell 2 1 rfl rfl
    have q2 := hS.cell 1 0 rfl rfl
    have q3 := hS.cell 1 1 rfl rfl
    have q4 := hS.cell 0 0 rfl rfl
    have q5 := hS.cell 0 1 rfl rfl
    go_enter Try.func59, Try.ntmps59
    go_wp2_with fail
    refine (l7Share_any 0 (by omega) _ (HR.out.grow hS.bl).2 (HQ.out.grow hS.bl).2 (by omega) (by omega) rfl).mono ?_
    rintro e w2 ⟨rfl, rfl⟩
    have HS := hid hS
    clear hS
    go_wp2
    go_ret
    exact ⟨rfl, HS.out.bl⟩
  · by_cases hk2 : k = 2
    · subst hk2
      have H : Hid (dsS fs s ids t jds 2 = apS fs ids jds) := rfl
      rw [H.out]
      have q0 := hS.cell 2 0 rfl rfl
      have q1 := hS.cell 2 1 rfl rfl
      have q2 := hS.cell 1 0 rfl rfl
      have q3 := hS.cell 1 1 rfl rfl
      have q4 := hS.cell 0 0 rfl rfl
      have q5 := hS.cell 0 1 rfl rfl
      go_enter Try.func59, Try.ntmps59
      go_wp2_with fail
      refine (l4Apart_any _ (HN.out.grow hS.bl) (HR.out.grow hS.bl) (HQ.out.grow hS.bl) (rtB_mem HRa.out) (routeB_good HGa.out).1).mono ?_
      rintro e w2 ⟨rfl, hb2⟩
      have HZ := hid (bl_then hS.bl hb2)
      clear hb2 hS
      go_wp2
      go_ret
      exact ⟨rfl, HZ.out⟩
    · have H : Hid (dsS fs s ids t jds k = (!shG 0 ids jds && !shG 1 (outW fs s ids ids.length) (outW fs t jds jds.length))) := by unfold Hid dsS; rw [if_neg hk1, if_neg hk2]
      rw [H.out]
      cases g0 : shG 0 ids jds
      · go_enter Try.func59, Try.ntmps59
        go_wp2_with fail
        generalize ((w.alloc (.cells #[.slice A n c, .slice A' m d] 35)).alloc (.cells #[.int .i64 s, .slice R ids.length er] 37)).alloc (.cells #[.int .i64 t, .slice Q jds.length eq] 37) = W0 at *
        have C0 : ∀ w', Cls W0 w' → w'.cell? ⟨w.heap.size, 0, none⟩ = some (.slice A n c) := fun _ h => h.cell (hS.cell 2 0 rfl rfl)
        have C1 : ∀ w', Cls W0 w' → w'.cell? ⟨w.heap.size, 1, none⟩ = some (.slice A' m d) := fun _ h => h.cell (hS.cell 2 1 rfl rfl)
        have C2 : ∀ w', Cls W0 w' → w'.cell? ⟨w.heap.size + 1, 0, none⟩ = some (.int .i64 s) := fun _ h => h.cell (hS.cell 1 0 rfl rfl)
        have C3 : ∀ w', Cls W0 w' → w'.cell? ⟨w.heap.size + 1, 1, none⟩ = some (.slice R ids.length er) := fun _ h => h.cell (hS.cell 1 1 rfl rfl)
        have C4 : ∀ w', Cls W0 w' → w'.cell? ⟨w.heap.size + 1 + 1, 0, none⟩ = some (.int .i64 t) := fun _ h => h.cell (hS.cell 0 0 rfl rfl)
        have C5 : ∀ w', Cls W0 w' → w'.cell? ⟨w.heap.size + 1 + 1, 1, none⟩ = some (.slice Q jds.length eq) := fun _ h => h.cell (hS.cell 0 1 rfl rfl)
        have HL := hid (fun w' (h : Cls W0 w') => hS.step h)
        have H0 : Hid (∀ w', Cls W0 w' → Calls Try.prog 108 #[.slice R ids.length er, .slice Q jds.length eq, .int .i64 0] w' fun e w2 => e = .returned (.bool false) ∧ w' = w2) := fun w' hw => l7Share_any 0 (by omega) _ (HR.out.grow (HL.out _ hw).bl).2 (HQ.out.grow (HL.out _ hw).bl).2 (by omega) (by omega) g0
        go_region_held3 (fun w' => Cls W0 w') (first | assumption | exact Cls.drew _ | exact Cls.next (by assumption) (by assumption))
          (first
            | (go_at_call_of 108 (Value.slice R ids.length er); refine (H0.out _ (by assumption)).mono ?_; rintro e w' ⟨rfl, hw0⟩; subst hw0)
            | (go_at_call_of 107 (Value.slice R ids.length er); refine (l4Nodes_any _ (HN.out.grow (HL.out _ (by assumption)).bl) (HR.out.grow (HL.out _ (by assumption)).bl) HRa.out).mono ?_; rintro e w' ⟨v1, rfl, ho1, hb1⟩; obtain ⟨A1, c1, rfl, _⟩ := ho1.form; have hL1 := (HL.out _ (by assumption)).owns hb1 ho1)
            | (go_at_call_of 107 (Value.slice Q jds.length eq); refine (l4Nodes_any _ (HN.out.grow hL1.bl) (HQ.out.grow hL1.bl) HRb.out).mono ?_; rintro e w' ⟨v2, rfl, ho2, hb2⟩; obtain ⟨A2, c2, rfl, _⟩ := ho2.form; have hL2 := hL1.owns hb2 ho2)
            | (go_at_call 108; refine (l7Share_any 1 (by omega) _ (hL2.sees 1 rfl rfl) (hL2.sees 0 rfl rfl) (by rw [outW_len]; omega) (by rw [outW_len]; omega) rfl).mono ?_; rintro e w' ⟨rfl, rfl⟩))
        have HZ := hid hL2.bl
        clear HL C0 C1 C2 C3 C4 C5 hL1 hL2 hb1 hb2 ho1 ho2
        go_wp2
        go_ret
        exact ⟨rfl, HZ.out⟩
      · go_enter Try.func59, Try.ntmps59
        go_wp2_with fail
        generalize ((w.alloc (.cells #[.slice A n c, .slice A' m d] 35)).alloc (.cells #[.int .i64 s, .slice R ids.length er] 37)).alloc (.cells #[.int .i64 t, .slice Q jds.length eq] 37) = W0 at *
        have C0 : ∀ w', Cls W0 w' → w'.cell? ⟨w.heap.size, 0, none⟩ = some (.slice A n c) := fun _ h => h.cell (hS.cell 2 0 rfl rfl)
        have C1 : ∀ w', Cls W0 w' → w'.cell? ⟨w.heap.size, 1, none⟩ = some (.slice A' m d) := fun _ h => h.cell (hS.cell 2 1 rfl rfl)
        have C2 : ∀ w', Cls W0 w' → w'.cell? ⟨w.heap.size + 1, 0, none⟩ = some (.int .i64 s) := fun _ h => h.cell (hS.cell 1 0 rfl rfl)
        have C3 : ∀ w', Cls W0 w' → w'.cell? ⟨w.heap.size + 1, 1, none⟩ = some (.slice R ids.length er) := fun _ h => h.cell (hS.cell 1 1 rfl rfl)
        have C4 : ∀ w', Cls W0 w' → w'.cell? ⟨w.heap.size + 1 + 1, 0, none⟩ = some (.int .i64 t) := fun _ h => h.cell (hS.cell 0 0 rfl rfl)
        have C5 : ∀ w', Cls W0 w' → w'.cell? ⟨w.heap.size + 1 + 1, 1, none⟩ = some (.slice Q jds.length eq) := fun _ h => h.cell (hS.cell 0 1 rfl rfl)
        have HL := hid (fun w' (h : Cls W0 w') => hS.step h)
        refine region_cls (by kernel_rfl) (by kernel_rfl) ?_
        repeat (first
          | ((with_reducible refine quiet_pos ?_ (fun K hK => ?_))
             · rfl
             apply Exists.intro
             refine ⟨fun w' hw' => ?_, ?_⟩
             · go_simp
               first
                 | with_reducible rfl
                 | (go_at_call_of 108 (Value.slice R ids.length er); exact hw'.same (l7Share_any 0 (by omega) _ (HR.out.grow (HL.out _ hw').bl).2 (HQ.out.grow (HL.out _ hw').bl).2 (by omega) (by omega) g0))
             simp only [Act.put, List.setIfInBounds_toArray, List.set_cons_zero, List.set_cons_succ]
             refine hK _ ?_; clear hK K)
          | ((with_reducible refine quiet_neg ?_ (fun K hK => ?_))
             · rfl
             simp only [Act.put, List.setIfInBounds_toArray, List.set_cons_zero, List.set_cons_succ]
             refine hK _ ?_; clear hK K))
        with_reducible refine wpQuiet_nil ?_
        intro wz hwz'
        have HS := hid (hS.step hwz')
        clear HL hS C0 C1 C2 C3 C4 C5
        go_wp2
        go_ret
        exact ⟨rfl, HS.out.bl⟩
set_option maxHeartbeats 2000000 in
set_option maxRecDepth 100000 in
theorem specAreDisjoint (w : World) (h : NetIs w A n c A' m d xs fs) (hr : RtIs w R ids.length er ids) (hq : RtIs w Q jds.length eq jds) :
    Calls Try.prog 17 #[.agg #[.slice A n c, .slice A' m d], .agg #[.int .i64 s, .slice R ids.length er], .agg #[.int .i64 t, .slice Q jds.length eq], .int .i64 k] w fun e w' => e = .returned (.tuple #[.bool (adV xs fs s ids t jds k), .bool (adB xs fs s ids t jds k)]) ∧ Below w.heap.size w w' := by
  have hS := (((Led.nil w).blk_ w.heap.size rfl 35 #[.slice A n c, .slice A' m d]).blk_ (w.heap.size + 1) (by simp) 37 #[.int .i64 s, .slice R ids.length er]).blk_ (w.heap.size + 1 + 1) (by simp) 37 #[.int .i64 t, .slice Q jds.length eq]
  have HB : Hid (adB xs fs s ids t jds k = ((((routeB xs fs s ids && routeB xs fs t jds) && inB 1 3 k) && decide (s = t)) && decide (atW fs s ids ids.length = atW fs t jds jds.length))) := rfl
  have HV : Hid (adV xs fs s ids t jds k = (adB xs fs s ids t jds k && dsB fs s ids t jds k)) := rfl
  have HN := hid h
  have HR := hid hr
  have HQ := hid hq
  clear h hr hq
  cases g1 : routeB xs fs s ids
  · have H : Hid (adB xs fs s ids t jds k = false) := by unfold Hid; rw [HB.out, g1]; rfl
    rw [HV.out, H.out]
    go_enter Try.func17, Try.ntmps17
    go_wp2_with fail
    generalize ((w.alloc (.cells #[.slice A n c, .slice A' m d] 35)).alloc (.cells #[.int .i64 s, .slice R ids.length er] 37)).alloc (.cells #[.int .i64 t, .slice Q jds.length eq] 37) = W0 at *
    have C0 : ∀ w', Cls W0 w' → w'.cell? ⟨w.heap.size, 0, none⟩ = some (.slice A n c) := fun _ h => h.cell (hS.cell 2 0 rfl rfl)
    have C1 : ∀ w', Cls W0 w' → w'.cell? ⟨w.heap.size, 1, none⟩ = some (.slice A' m d) := fun _ h => h.cell (hS.cell 2 1 rfl rfl)
    have C2 : ∀ w', Cls W0 w' → w'.cell? ⟨w.heap.size + 1, 0, none⟩ = some (.int .i64 s) := fun _ h => h.cell (hS.cell 1 0 rfl rfl)
    have C3 : ∀ w', Cls W0 w' → w'.cell? ⟨w.heap.size + 1, 1, none⟩ = some (.slice R ids.length er) := fun _ h => h.cell (hS.cell 1 1 rfl rfl)
    have C4 : ∀ w', Cls W0 w' → w'.cell? ⟨w.heap.size + 1 + 1, 0, none⟩ = some (.int .i64 t) := fun _ h => h.cell (hS.cell 0 0 rfl rfl)
    have C5 : ∀ w', Cls W0 w' → w'.cell? ⟨w.heap.size + 1 + 1, 1, none⟩ = some (.slice Q jds.length eq) := fun _ h => h.cell (hS.cell 0 1 rfl rfl)
    have HL := hid (fun w' (h : Cls W0 w') => hS.step h)
    refine region_cls (by kernel_rfl) (by kernel_rfl) ?_
    repeat (first
      | ((with_reducible refine quiet_pos ?_ (fun K hK => ?_))
         · rfl
         apply Exists.intro
         refine ⟨fun w' hw' => ?_, ?_⟩
         · go_simp
           first
             | with_reducible rfl
             | (go_at_call_of 56 (Value.slice R ids.length er); exact hw'.call (calls_val (l4Good_any s _ (HN.out.grow (HL.out _ hw').bl) (HR.out.grow (HL.out _ hw').bl)) g1))
         simp only [Act.put, List.setIfInBounds_toArray, List.set_cons_zero, List.set_cons_succ]
         refine hK _ ?_; clear hK K)
      | ((with_reducible refine quiet_neg ?_ (fun K hK => ?_))
         · rfl
         simp only [Act.put, List.setIfInBounds_toArray, List.set_cons_zero, List.set_cons_succ]
         refine hK _ ?_; clear hK K))
    with_reducible refine wpQuiet_nil ?_
    intro wz hwz'
    have HS := hid (hS.step hwz')
    clear HL hS C0 C1 C2 C3 C4 C5
    go_wp2_with fail
    go_ret2
    exact ⟨rfl, HS.out.bl⟩
  · skip
    cases g3 : routeB xs fs t jds
    · have H : Hid (adB xs fs s ids t jds k = false) := by unfold Hid; rw [HB.out, g1, g3]; rfl
      rw [HV.out, H.out]
      go_enter Try.func17, Try.ntmps17
      go_wp2_with fail
      generalize ((w.alloc (.cells #[.slice A n c, .slice A' m d] 35)).alloc (.cells #[.int .i64 s, .slice R ids.length er] 37)).alloc (.cells #[.int .i64 t, .slice Q jds.length eq] 37) = W0 at *
      have C0 : ∀ w', Cls W0 w' → w'.cell? ⟨w.heap.size, 0, none⟩ = some (.slice A n c) := fun _ h => h.cell (hS.cell 2 0 rfl rfl)
      have C1 : ∀ w', Cls W0 w' → w'.cell? ⟨w.heap.size, 1, none⟩ = some (.slice A' m d) := fun _ h => h.cell (hS.cell 2 1 rfl rfl)
      have C2 : ∀ w', Cls W0 w' → w'.cell? ⟨w.heap.size + 1, 0, none⟩ = some (.int .i64 s) := fun _ h => h.cell (hS.cell 1 0 rfl rfl)
      have C3 : ∀ w', Cls W0 w' → w'.cell? ⟨w.heap.size + 1, 1, none⟩ = some (.slice R ids.length er) := fun _ h => h.cell (hS.cell 1 1 rfl rfl)
      have C4 : ∀ w', Cls W0 w' → w'.cell? ⟨w.heap.size + 1 + 1, 0, none⟩ = some (.int .i64 t) := fun _ h => h.cell (hS.cell 0 0 rfl rfl)
      have C5 : ∀ w', Cls W0 w' → w'.cell? ⟨w.heap.size + 1 + 1, 1, none⟩ = some (.slice Q jds.length eq) := fun _ h => h.cell (hS.cell 0 1 rfl rfl)
      have HL := hid (fun w' (h : Cls W0 w') => hS.step h)
      refine region_cls (by kernel_rfl) (by kernel_rfl) ?_
      repeat (first
        | ((with_reducible refine quiet_pos ?_ (fun K hK => ?_))
           · rfl
           apply Exists.intro
           refine ⟨fun w' hw' => ?_, ?_⟩
           · go_simp
             first
               | with_reducible rfl
               | (go_at_call_of 56 (Value.slice R ids.length er); exact hw'.call (calls_val (l4Good_any s _ (HN.out.grow (HL.out _ hw').bl) (HR.out.grow (HL.out _ hw').bl)) g1))
               | (go_at_call_of 56 (Value.slice Q jds.length eq); exact hw'.call (calls_val (l4Good_any t _ (HN.out.grow (HL.out _ hw').bl) (HQ.out.grow (HL.out _ hw').bl)) g3))
           simp only [Act.put, List.setIfInBounds_toArray, List.set_cons_zero, List.set_cons_succ]
           refine hK _ ?_; clear hK K)
        | ((with_reducible refine quiet_neg ?_ (fun K hK => ?_))
           · rfl
           simp only [Act.put, List.setIfInBounds_toArray, List.set_cons_zero, List.set_cons_succ]
           refine hK _ ?_; clear hK K))
      with_reducible refine wpQuiet_nil ?_
      intro wz hwz'
      have HS := hid (hS.step hwz')
      clear HL hS C0 C1 C2 C3 C4 C5
      go_wp2_with fail
      go_ret2
      exact ⟨rfl, HS.out.bl⟩
    · skip
      cases g2 : inB 1 3 k
      · have H : Hid (adB xs fs s ids t jds k = false) := by unfold Hid; rw [HB.out, g1, g3, g2]; rfl
        rw [HV.out, H.out]
        go_enter Try.func17, Try.ntmps17
        go_wp2_with fail
        generalize ((w.alloc (.cells #[.slice A n c, .slice A' m d] 35)).alloc (.cells #[.int .i64 s, .slice R ids.length er] 37)).alloc (.cells #[.int .i64 t, .slice Q jds.length eq] 37) = W0 at *
        have C0 : ∀ w', Cls W0 w' → w'.cell? ⟨w.heap.size, 0, none⟩ = some (.slice A n c) := fun _ h => h.cell (hS.cell 2 0 rfl rfl)
        have C1 : ∀ w', Cls W0 w' → w'.cell? ⟨w.heap.size, 1, none⟩ = some (.slice A' m d) := fun _ h => h.cell (hS.cell 2 1 rfl rfl)
        have C2 : ∀ w', Cls W0 w' → w'.cell? ⟨w.heap.size + 1, 0, none⟩ = some (.int .i64 s) := fun _ h => h.cell (hS.cell 1 0 rfl rfl)
        have C3 : ∀ w', Cls W0 w' → w'.cell? ⟨w.heap.size + 1, 1, none⟩ = some (.slice R ids.length er) := fun _ h => h.cell (hS.cell 1 1 rfl rfl)
        have C4 : ∀ w', Cls W0 w' → w'.cell? ⟨w.heap.size + 1 + 1, 0, none⟩ = some (.int .i64 t) := fun _ h => h.cell (hS.cell 0 0 rfl rfl)
        have C5 : ∀ w', Cls W0 w' → w'.cell? ⟨w.heap.size + 1 + 1, 1, none⟩ = some (.slice Q jds.length eq) := fun _ h => h.cell (hS.cell 0 1 rfl rfl)
        have HL := hid (fun w' (h : Cls W0 w') => hS.step h)
        refine region_cls (by kernel_rfl) (by kernel_rfl) ?_
        repeat (first
          | ((with_reducible refine quiet_pos ?_ (fun K hK => ?_))
             · rfl
             apply Exists.intro
             refine ⟨fun w' hw' => ?_, ?_⟩
             · go_simp
               first
                 | with_reducible rfl
                 | (go_at_call_of 56 (Value.slice R ids.length er); exact hw'.call (calls_val (l4Good_any s _ (HN.out.grow (HL.out _ hw').bl) (HR.out.grow (HL.out _ hw').bl)) g1))
                 | (go_at_call_of 56 (Value.slice Q jds.length eq); exact hw'.call (calls_val (l4Good_any t _ (HN.out.grow (HL.out _ hw').bl) (HQ.out.grow (HL.out _ hw').bl)) g3))
                 | (go_at_call 57; exact hw'.same (l7Kind_any k g2 _))
             simp only [Act.put, List.setIfInBounds_toArray, List.set_cons_zero, List.set_cons_succ]
             refine hK _ ?_; clear hK K)
          | ((with_reducible refine quiet_neg ?_ (fun K hK => ?_))
             · rfl
             simp only [Act.put, List.setIfInBounds_toArray, List.set_cons_zero, List.set_cons_succ]
             refine hK _ ?_; clear hK K))
        with_reducible refine wpQuiet_nil ?_
        intro wz hwz'
        have HS := hid (hS.step hwz')
        clear HL hS C0 C1 C2 C3 C4 C5
        go_wp2_with fail
        go_ret2
        exact ⟨rfl, HS.out.bl⟩
      · skip
        rcases (Classical.em (s = t)).symm with hst | hst
        · have H : Hid (adB xs fs s ids t jds k = false) := by unfold Hid; rw [HB.out, g1, g3, g2, decide_eq_false hst]; rfl
          rw [HV.out, H.out]
          have hst2 : (s != t) = true := by simpa using hst
          go_enter Try.func17, Try.ntmps17
          go_wp2_with fail
          generalize ((w.alloc (.cells #[.slice A n c, .slice A' m d] 35)).alloc (.cells #[.int .i64 s, .slice R ids.length er] 37)).alloc (.cells #[.int .i64 t, .slice Q jds.length eq] 37) = W0 at *
          have C0 : ∀ w', Cls W0 w' → w'.cell? ⟨w.heap.size, 0, none⟩ = some (.slice A n c) := fun _ h => h.cell (hS.cell 2 0 rfl rfl)
          have C1 : ∀ w', Cls W0 w' → w'.cell? ⟨w.heap.size, 1, none⟩ = some (.slice A' m d) := fun _ h => h.cell (hS.cell 2 1 rfl rfl)
          have C2 : ∀ w', Cls W0 w' → w'.cell? ⟨w.heap.size + 1, 0, none⟩ = some (.int .i64 s) := fun _ h => h.cell (hS.cell 1 0 rfl rfl)
          have C3 : ∀ w', Cls W0 w' → w'.cell? ⟨w.heap.size + 1, 1, none⟩ = some (.slice R ids.length er) := fun _ h => h.cell (hS.cell 1 1 rfl rfl)
          have C4 : ∀ w', Cls W0 w' → w'.cell? ⟨w.heap.size + 1 + 1, 0, none⟩ = some (.int .i64 t) := fun _ h => h.cell (hS.cell 0 0 rfl rfl)
          have C5 : ∀ w', Cls W0 w' → w'.cell? ⟨w.heap.size + 1 + 1, 1, none⟩ = some (.slice Q jds.length eq) := fun _ h => h.cell (hS.cell 0 1 rfl rfl)
          have HL := hid (fun w' (h : Cls W0 w') => hS.step h)
          refine region_cls (by kernel_rfl) (by kernel_rfl) ?_
          repeat (first
            | ((with_reducible refine quiet_pos ?_ (fun K hK => ?_))
               · rfl
               apply Exists.intro
               refine ⟨fun w' hw' => ?_, ?_⟩
               · go_simp
                 first
                   | with_reducible rfl
                   | (go_at_call_of 56 (Value.slice R ids.length er); exact hw'.call (calls_val (l4Good_any s _ (HN.out.grow (HL.out _ hw').bl) (HR.out.grow (HL.out _ hw').bl)) g1))
                   | (go_at_call_of 56 (Value.slice Q jds.length eq); exact hw'.call (calls_val (l4Good_any t _ (HN.out.grow (HL.out _ hw').bl) (HQ.out.grow (HL.out _ hw').bl)) g3))
                   | (go_at_call 57; exact hw'.same (l7Kind_any k g2 _))
               simp only [Act.put, List.setIfInBounds_toArray, List.set_cons_zero, List.set_cons_succ]
               refine hK _ ?_; clear hK K)
            | ((with_reducible refine quiet_neg ?_ (fun K hK => ?_))
               · rfl
               simp only [Act.put, List.setIfInBounds_toArray, List.set_cons_zero, List.set_cons_succ]
               refine hK _ ?_; clear hK K))
          with_reducible refine wpQuiet_nil ?_
          intro wz hwz'
          have HS := hid (hS.step hwz')
          clear HL hS C0 C1 C2 C3 C4 C5
          go_wp2_with fail
          go_ret2
          exact ⟨rfl, HS.out.bl⟩
        · have hst2 : (s != t) = false := by simpa using hst
          have Hhst := hid hst
          clear hst
          have HRa : Hid (rtB n fs s ids = true) := by have := (routeB_good g1).2; rw [HN.out.xlen] at this; exact this
          have HRb : Hid (rtB n fs t jds = true) := by have := (routeB_good g3).2; rw [HN.out.xlen] at this; exact this
          obtain ⟨E1, hE1⟩ : ∃ E, atW fs s ids ids.length = E := ⟨_, rfl⟩
          obtain ⟨E2, hE2⟩ : ∃ E, atW fs t jds jds.length = E := ⟨_, rfl⟩
          have HE1 := hid hE1
          have HE2 := hid hE2
          clear hE1 hE2
          rcases (Classical.em (E1 = E2)).symm with hee | hee
          · have H : Hid (adB xs fs s ids t jds k = false) := by unfold Hid; rw [HB.out, g1, g3, g2, decide_eq_true Hhst.out, HE1.out, HE2.out, decide_eq_false hee]; rfl
            rw [HV.out, H.out]
            have hee2 : (E1 != E2) = true := by simpa using hee
            go_enter Try.func17, Try.ntmps17
            go_wp2_with fail
            generalize ((w.alloc (.cells #[.slice A n c, .slice A' m d] 35)).alloc (.cells #[.int .i64 s, .slice R ids.length er] 37)).alloc (.cells #[.int .i64 t, .slice Q jds.length eq] 37) = W0 at *
            have C0 : ∀ w', Cls W0 w' → w'.cell? ⟨w.heap.size, 0, none⟩ = some (.slice A n c) := fun _ h => h.cell (hS.cell 2 0 rfl rfl)
            have C1 : ∀ w', Cls W0 w' → w'.cell? ⟨w.heap.size, 1, none⟩ = some (.slice A' m d) := fun _ h => h.cell (hS.cell 2 1 rfl rfl)
            have C2 : ∀ w', Cls W0 w' → w'.cell? ⟨w.heap.size + 1, 0, none⟩ = some (.int .i64 s) := fun _ h => h.cell (hS.cell 1 0 rfl rfl)
            have C3 : ∀ w', Cls W0 w' → w'.cell? ⟨w.heap.size + 1, 1, none⟩ = some (.slice R ids.length er) := fun _ h => h.cell (hS.cell 1 1 rfl rfl)
            have C4 : ∀ w', Cls W0 w' → w'.cell? ⟨w.heap.size + 1 + 1, 0, none⟩ = some (.int .i64 t) := fun _ h => h.cell (hS.cell 0 0 rfl rfl)
            have C5 : ∀ w', Cls W0 w' → w'.cell? ⟨w.heap.size + 1 + 1, 1, none⟩ = some (.slice Q jds.length eq) := fun _ h => h.cell (hS.cell 0 1 rfl rfl)
            have HL := hid (fun w' (h : Cls W0 w') => hS.step h)
            refine region_cls (by kernel_rfl) (by kernel_rfl) ?_
            repeat (first
              | ((with_reducible refine quiet_pos ?_ (fun K hK => ?_))
                 · rfl
                 apply Exists.intro
                 refine ⟨fun w' hw' => ?_, ?_⟩
                 · go_simp
                   first
                     | with_reducible rfl
                     | (go_at_call_of 56 (Value.slice R ids.length er); exact hw'.call (calls_val (l4Good_any s _ (HN.out.grow (HL.out _ hw').bl) (HR.out.grow (HL.out _ hw').bl)) g1))
                     | (go_at_call_of 56 (Value.slice Q jds.length eq); exact hw'.call (calls_val (l4Good_any t _ (HN.out.grow (HL.out _ hw').bl) (HQ.out.grow (HL.out _ hw').bl)) g3))
                     | (go_at_call 57; exact hw'.same (l7Kind_any k g2 _))
                     | (go_at_call_of 58 (Value.slice R ids.length er); exact hw'.call (calls_num (l4End_any _ (HN.out.grow (HL.out _ hw').bl) (HR.out.grow (HL.out _ hw').bl) HRa.out) HE1.out))
                     | (go_at_call_of 58 (Value.slice Q jds.length eq); exact hw'.call (calls_num (l4End_any _ (HN.out.grow (HL.out _ hw').bl) (HQ.out.grow (HL.out _ hw').bl) HRb.out) HE2.out))
                 simp only [Act.put, List.setIfInBounds_toArray, List.set_cons_zero, List.set_cons_succ]
                 refine hK _ ?_; clear hK K)
              | ((with_reducible refine quiet_neg ?_ (fun K hK => ?_))
                 · rfl
                 simp only [Act.put, List.setIfInBounds_toArray, List.set_cons_zero, List.set_cons_succ]
                 refine hK _ ?_; clear hK K))
            with_reducible refine wpQuiet_nil ?_
            intro wz hwz'
            have HS := hid (hS.step hwz')
            clear HL hS C0 C1 C2 C3 C4 C5
            go_wp2_with fail
            go_ret2
            exact ⟨rfl, HS.out.bl⟩
          · have hee2 : (E1 != E2) = false := by simpa using hee
            have Hhee := hid hee
            clear hee
            have HDt := hid (show adB xs fs s ids t jds k = true by rw [HB.out, g1, g3, g2, decide_eq_true Hhst.out, HE1.out, HE2.out, decide_eq_true Hhee.out]; rfl)
            have HDs := hid (ds_same (k := k) g1 g3 Hhst.out (HE1.out.trans (Hhee.out.trans HE2.out.symm)))
            rw [HV.out, HDt.out, HDs.out]
            go_enter Try.func17, Try.ntmps17
            go_wp2_with fail
            generalize ((w.alloc (.cells #[.slice A n c, .slice A' m d] 35)).alloc (.cells #[.int .i64 s, .slice R ids.length er] 37)).alloc (.cells #[.int .i64 t, .slice Q jds.length eq] 37) = W0 at *
            have C0 : ∀ w', Cls W0 w' → w'.cell? ⟨w.heap.size, 0, none⟩ = some (.slice A n c) := fun _ h => h.cell (hS.cell 2 0 rfl rfl)
            have C1 : ∀ w', Cls W0 w' → w'.cell? ⟨w.heap.size, 1, none⟩ = some (.slice A' m d) := fun _ h => h.cell (hS.cell 2 1 rfl rfl)
            have C2 : ∀ w', Cls W0 w' → w'.cell? ⟨w.heap.size + 1, 0, none⟩ = some (.int .i64 s) := fun _ h => h.cell (hS.cell 1 0 rfl rfl)
            have C3 : ∀ w', Cls W0 w' → w'.cell? ⟨w.heap.size + 1, 1, none⟩ = some (.slice R ids.length er) := fun _ h => h.cell (hS.cell 1 1 rfl rfl)
            have C4 : ∀ w', Cls W0 w' → w'.cell? ⟨w.heap.size + 1 + 1, 0, none⟩ = some (.int .i64 t) := fun _ h => h.cell (hS.cell 0 0 rfl rfl)
            have C5 : ∀ w', Cls W0 w' → w'.cell? ⟨w.heap.size + 1 + 1, 1, none⟩ = some (.slice Q jds.length eq) := fun _ h => h.cell (hS.cell 0 1 rfl rfl)
            have HL := hid (fun w' (h : Cls W0 w') => hS.step h)
            refine region_cls (by kernel_rfl) (by kernel_rfl) ?_
            repeat (first
              | ((with_reducible refine quiet_pos ?_ (fun K hK => ?_))
                 · rfl
                 apply Exists.intro
                 refine ⟨fun w' hw' => ?_, ?_⟩
                 · go_simp
                   first
                     | with_reducible rfl
                     | (go_at_call_of 56 (Value.slice R ids.length er); exact hw'.call (calls_val (l4Good_any s _ (HN.out.grow (HL.out _ hw').bl) (HR.out.grow (HL.out _ hw').bl)) g1))
                     | (go_at_call_of 56 (Value.slice Q jds.length eq); exact hw'.call (calls_val (l4Good_any t _ (HN.out.grow (HL.out _ hw').bl) (HQ.out.grow (HL.out _ hw').bl)) g3))
                     | (go_at_call 57; exact hw'.same (l7Kind_any k g2 _))
                     | (go_at_call_of 58 (Value.slice R ids.length er); exact hw'.call (calls_num (l4End_any _ (HN.out.grow (HL.out _ hw').bl) (HR.out.grow (HL.out _ hw').bl) HRa.out) HE1.out))
                     | (go_at_call_of 58 (Value.slice Q jds.length eq); exact hw'.call (calls_num (l4End_any _ (HN.out.grow (HL.out _ hw').bl) (HQ.out.grow (HL.out _ hw').bl) HRb.out) HE2.out))
                 simp only [Act.put, List.setIfInBounds_toArray, List.set_cons_zero, List.set_cons_succ]
                 refine hK _ ?_; clear hK K)
              | ((with_reducible refine quiet_neg ?_ (fun K hK => ?_))
                 · rfl
                 simp only [Act.put, List.setIfInBounds_toArray, List.set_cons_zero, List.set_cons_succ]
                 refine hK _ ?_; clear hK K))
            with_reducible refine wpQuiet_nil ?_
            intro wz hwz'
            have HS := hid (hS.step hwz')
            clear HL hS C0 C1 C2 C3 C4 C5
            replace hS := HS.out
            clear HS
            have q0 := hS.cell 2 0 rfl rfl
            have q1 := hS.cell 2 1 rfl rfl
            have q2 := hS.cell 1 0 rfl rfl
            have q3 := hS.cell 1 1 rfl rfl
            have q4 := hS.cell 0 0 rfl rfl
            have q5 := hS.cell 0 1 rfl rfl
            go_wp2_with fail
            refine (l7Apart_any _ (HN.out.grow hS.bl) (HR.out.grow hS.bl) (HQ.out.grow hS.bl) g1 g3).mono ?_
            rintro e w2 ⟨rfl, hb2⟩
            have HZ := hid (bl_then hS.bl hb2)
            clear hb2 hS q0 q1 q2 q3 q4 q5
            go_wp2_with fail
            go_ret2
            exact ⟨rfl, HZ.out⟩
end
end Go.Proofs.Ytjklphlgmlomjaa
/- Routes in the ledger: equal, marked, held. Conditions: at most 1048576 fibers; marks below 2^40. -/
namespace Go.Proofs.Ytjklphlgmlomjaa
open Go.RowKit
variable {w0 : World} {L : List Thing} {base base' c c' : Nat} {A A' : Option Addr} {ids : List Int}
set_option maxHeartbeats 1000000 in
set_option maxRecDepth 100000 in
theorem markR_led {w : World} (h : Led w0 w L) (i : Nat) (hi : L[i]? = some (tOwns elInt base 3 (.slice A ids.length c) ids)) (s k : Int) (hn : ids.length ≤ 1048576) (hk0 : 0 ≤ k) (hk : k ≤ 1099511627776) :
    Calls Try.prog 26 #[.agg #[.int .i64 s, .slice A ids.length c], .int .i64 k] w fun e w' => e = .returned (.int .i64 (k + ids.length)) ∧ Led w0 w' (L.set i (tOwns elInt base 3 (.slice A ids.length c) (marks k ids.length))) := by
  have h0 := h.blk 37 #[.int .i64 s, .slice A ids.length c]
  go_enter Try.func26, Try.ntmps26
  go_wp2_with fail
  refine (markI_led h0 (i + 1) (by simpa using hi) k hn hk0 hk).mono ?_
  rintro e w1 ⟨rfl, h1⟩
  have h2 : Led w0 w1 (L.set i (tOwns elInt base 3 (.slice A ids.length c) (marks k ids.length))) := h1.drop 1
  go_wp2_with fail
  go_ret
  exact ⟨rfl, h2⟩
set_option maxHeartbeats 1000000 in
set_option maxRecDepth 100000 in
theorem heldR_led {w : World} (h : Led w0 w L) (i : Nat) (s k : Int) {n : Nat} (hi : L[i]? = some (tOwns elInt base 3 (.slice A n c) (marks k n))) (hn : n ≤ 1048576) (hk0 : 0 ≤ k) (hk : k ≤ 1099511627776) :
    Calls Try.prog 27 #[.agg #[.int .i64 s, .slice A n c], .int .i64 k] w fun e w' => e = .returned (.int .i64 (k + n)) ∧ Led w0 w' L := by
  have h0 := h.blk 37 #[.int .i64 s, .slice A n c]
  go_enter Try.func27, Try.ntmps27
  go_wp2_with fail
  refine (heldI_led h0 (i + 1) k (by simpa using hi) hn hk0 hk).mono ?_
  rintro e w1 ⟨rfl, h1⟩
  have h2 : Led w0 w1 L := h1.drop 1
  go_wp2_with fail
  go_ret
  exact ⟨rfl, h2⟩
theorem eqR_led2 {w : World} (h : Led w0 w L) (i j : Nat) (hi : L[i]? = some (tOwns elInt base 3 (.slice A ids.length c) ids)) (hj : L[j]? = some (tOwns elInt base' 3 (.slice A' ids.length c') ids)) (s : Int) (hn : ids.length ≤ 1048576) :
    Calls Try.prog 22 #[.agg #[.int .i64 s, .slice A ids.length c], .agg #[.int .i64 s, .slice A' ids.length c']] w fun e w' => e = .returned (.bool true) ∧ Led w0 w' L ∧ Below w.heap.size w w' :=
  (eqRoute_any s w (h.seesI i hi) (h.seesI j hj) hn).mono fun _ _ ⟨he, hw⟩ => ⟨he, h.step hw, hw⟩
theorem eqR_led {w : World} (h : Led w0 w L) (i j : Nat) (hi : L[i]? = some (tOwns elInt base 3 (.slice A ids.length c) ids)) (hj : L[j]? = some (tOwns elInt base' 3 (.slice A' ids.length c') ids)) (s : Int) (hn : ids.length ≤ 1048576) :
    Calls Try.prog 22 #[.agg #[.int .i64 s, .slice A ids.length c], .agg #[.int .i64 s, .slice A' ids.length c']] w fun e w' => e = .returned (.bool true) ∧ Led w0 w' L :=
  (eqR_led2 h i j hi hj s hn).mono fun _ _ ⟨he, hw, _⟩ => ⟨he, hw⟩
end Go.Proofs.Ytjklphlgmlomjaa
/- A route that came in. Conditions: none. -/
namespace Go.Proofs.Ytjklphlgmlomjaa
open Go.ChangeShapes Go.WideShapes Go.ChangeAt Go.RowKit Go.Deep Go.Joins
section
variable {H : Type} {enc : TypeId × Value → H} {W : World} {spare : Nat → Bool} {held : Bool}
theorem cellsR : Try.prog.cellsOf 28 = 2 := by kernel_rfl
/-- A route that came in. -/
def RouteArg (W : World) (s : Int) (A : Option Addr) (n c : Nat) (xs : List Int) : Prop := (-9223372036854775808 ≤ s ∧ s ≤ 9223372036854775807) ∧ IntsArg W A n c xs
set_option maxRecDepth 100000 in
theorem open_route {base : Nat} {v : Value} {d : DataW H} {p : List MemPlace} (hv : Value.okWide Try.prog W .any base 28 v) (h : DataW.Trod enc Try.prog W 0 spare held 28 v d p) :
    ∃ s A n c xs, v = .agg #[.int .i64 s, .slice A n c] ∧ RouteArg W s A n c xs := by
  obtain ⟨v0, v1, y0, y1, k, rfl, _, _, h0, h1⟩ := open_agg2 Try.underlying28 (by kernel_rfl) cellsR hv h
  obtain ⟨s, e0, hs⟩ := el_int Try.underlying3 _ _ _ h0
  obtain ⟨A, n, c, xs, e1, b1, b2, b3, b4⟩ := open_sl elInt _ Try.underlying26 cellsI (el_int Try.underlying3) h1
  simp [elInt] at e0 e1
  exact ⟨s, A, n, c, xs, by rw [e0, e1], hs, ⟨b1, b2, b3, b4⟩⟩
end
end Go.Proofs.Ytjklphlgmlomjaa
/- FnExactAreDisjoint, walked. Conditions: none. -/
namespace Go.Proofs.Ytjklphlgmlomjaa.fnExactAreDisjoint
open Go.RowKit
set_option maxHeartbeats 2000000 in
set_option maxRecDepth 100000 in
theorem walk (w : World) {A0 E0 : Option Addr} {n0 c0 m0 d0 : Nat} {xs0 : List ByteArray} {fs0 : List Fib} (h0 : NetArg w A0 n0 c0 E0 m0 d0 xs0 fs0) {s1 : Int} {A1 : Option Addr} {k1 c1 : Nat} {l1 : List Int} (h1 : RouteArg w s1 A1 k1 c1 l1) {s2 : Int} {A2 : Option Addr} {k2 c2 : Nat} {l2 : List Int} (h2 : RouteArg w s2 A2 k2 c2 l2) {a3 : Int} (_u3 : -9223372036854775808 ≤ a3 ∧ a3 ≤ 9223372036854775807) :
    Calls Try.prog 3 #[.agg #[.slice A0 n0 c0, .slice E0 m0 d0], .agg #[.int .i64 s1, .slice A1 k1 c1], .agg #[.int .i64 s2, .slice A2 k2 c2], .int .i64 a3] w fun e w' => e = .returned (.bool true) ∧ Below w.heap.size w w' := by
  obtain ⟨⟨h0nc, h0cm, h0A, h0x⟩, ⟨h0md, h0dm, h0F, _⟩⟩ := h0
  obtain ⟨_, h1nc, h1cm, h1A, _⟩ := h1
  obtain rfl := h1A.len
  obtain ⟨_, h2nc, h2cm, h2A, _⟩ := h2
  obtain rfl := h2A.len
  have hS := Led.nil w
  replace hS := hS.blk_ (w.heap.size) (by simp) 25 #[.slice A0 n0 c0, .slice E0 m0 d0]
  replace hS := hS.blk_ (w.heap.size + 1) (by simp) 28 #[.int .i64 s1, .slice A1 l1.length c1]
  replace hS := hS.blk_ (w.heap.size + 1 + 1) (by simp) 28 #[.int .i64 s2, .slice A2 l2.length c2]
  obtain ⟨r0, hr0⟩ : ∃ r, r = lessI 1048576 (netTot xs0 fs0) := ⟨_, rfl⟩
  have hlb0 := lessI_bd (left := 1048576) (t := (netTot xs0 fs0))
  rw [← hr0] at hlb0
  have HR0 := hid hr0
  clear hr0
  rcases hlb0 with ⟨hz0, _⟩ | ⟨hz0, hy0, hx0⟩
  case inl =>
    subst hz0
    go_enter Try.func3, Try.ntmps3
    go_wp2_with fail
    refine (szNetwork_any 1048576 _ (h0A.below hS.bl) (h0F.below hS.bl) hS.bl.size (by omega) (by omega) h0x (by omega) (by omega)).mono ?_
    rintro e W1 ⟨rfl, hb⟩; replace hS := hS.step hb; clear hb
    rw [← HR0.out]
    go_wp2_with fail
    go_ret
    exact ⟨rfl, hS.bl⟩
  have h0n : n0 ≤ 1048576 := by have := h0A.len; unfold netTot strTot at hx0; omega
  have h0m : m0 ≤ 1048576 := by have := h0F.len; unfold netTot strTot at hx0; omega
  have h0I := hid (show NetIs w A0 n0 c0 E0 m0 d0 xs0 fs0 from ⟨⟨h0nc, h0n⟩, ⟨h0md, h0m⟩, h0A, h0F, h0x⟩)
  clear hx0
  obtain ⟨r1, hr1⟩ : ∃ r, r = lessI r0 l1.length := ⟨_, rfl⟩
  have hlb1 := lessI_bd (left := r0) (t := l1.length)
  rw [← hr1] at hlb1
  have HR1 := hid hr1
  clear hr1
  rcases hlb1 with ⟨hz1, _⟩ | ⟨hz1, hy1, hx1⟩
  case inl =>
    subst hz1
    go_enter Try.func3, Try.ntmps3
    go_wp2_with fail
    refine (szNetwork_any 1048576 _ (h0A.below hS.bl) (h0F.below hS.bl) hS.bl.size (by omega) (by omega) h0x (by omega) (by omega)).mono ?_
    rintro e W1 ⟨rfl, hb⟩; replace hS := hS.step hb; clear hb
    rw [← HR0.out]
    have q0 := hS.cell 1 0 rfl rfl
    have q1 := hS.cell 1 1 rfl rfl
    go_wp2_with fail
    refine (szRoute_any s1 r0 _ (by omega) (by omega) (by omega)).mono ?_
    rintro e W2 ⟨rfl, hb⟩; replace hS := hS.step hb; clear hb
    rw [← HR1.out]
    clear q0 q1
    go_wp2_with fail
    go_ret
    exact ⟨rfl, hS.bl⟩
  have h1n : l1.length ≤ 1048576 := by omega
  have h1I := hid (show RtIs w A1 l1.length c1 l1 from ⟨⟨h1nc, h1n⟩, h1A⟩)
  clear hx1
  obtain ⟨r2, hr2⟩ : ∃ r, r = lessI r1 l2.length := ⟨_, rfl⟩
  have hlb2 := lessI_bd (left := r1) (t := l2.length)
  rw [← hr2] at hlb2
  have HR2 := hid hr2
  clear hr2
  rcases hlb2 with ⟨hz2, _⟩ | ⟨hz2, hy2, hx2⟩
  case inl =>
    subst hz2
    go_enter Try.func3, Try.ntmps3
    go_wp2_with fail
    refine (szNetwork_any 1048576 _ (h0A.below hS.bl) (h0F.below hS.bl) hS.bl.size (by omega) (by omega) h0x (by omega) (by omega)).mono ?_
    rintro e W1 ⟨rfl, hb⟩; replace hS := hS.step hb; clear hb
    rw [← HR0.out]
    have q0 := hS.cell 1 0 rfl rfl
    have q1 := hS.cell 1 1 rfl rfl
    go_wp2_with fail
    refine (szRoute_any s1 r0 _ (by omega) (by omega) (by omega)).mono ?_
    rintro e W2 ⟨rfl, hb⟩; replace hS := hS.step hb; clear hb
    rw [← HR1.out]
    clear q0 q1
    have q0 := hS.cell 0 0 rfl rfl
    have q1 := hS.cell 0 1 rfl rfl
    go_wp2_with fail
    refine (szRoute_any s2 r1 _ (by omega) (by omega) (by omega)).mono ?_
    rintro e W3 ⟨rfl, hb⟩; replace hS := hS.step hb; clear hb
    rw [← HR2.out]
    clear q0 q1
    go_wp2_with fail
    go_ret
    exact ⟨rfl, hS.bl⟩
  have h2n : l2.length ≤ 1048576 := by omega
  have h2I := hid (show RtIs w A2 l2.length c2 l2 from ⟨⟨h2nc, h2n⟩, h2A⟩)
  clear hx2
  go_enter Try.func3, Try.ntmps3
  go_wp2_with fail
  refine (szNetwork_any 1048576 _ (h0A.below hS.bl) (h0F.below hS.bl) hS.bl.size (by omega) (by omega) h0x (by omega) (by omega)).mono ?_
  rintro e W1 ⟨rfl, hb⟩; replace hS := hS.step hb; clear hb
  rw [← HR0.out]
  have q0 := hS.cell 1 0 rfl rfl
  have q1 := hS.cell 1 1 rfl rfl
  go_wp2_with fail
  refine (szRoute_any s1 r0 _ (by omega) (by omega) (by omega)).mono ?_
  rintro e W2 ⟨rfl, hb⟩; replace hS := hS.step hb; clear hb
  rw [← HR1.out]
  clear q0 q1
  have q0 := hS.cell 0 0 rfl rfl
  have q1 := hS.cell 0 1 rfl rfl
  go_wp2_with fail
  refine (szRoute_any s2 r1 _ (by omega) (by omega) (by omega)).mono ?_
  rintro e W3 ⟨rfl, hb⟩; replace hS := hS.step hb; clear hb
  rw [← HR2.out]
  clear q0 q1
  -- the reference
  have C0 : ∀ w', Cls W3 w' → w'.cell? ⟨w.heap.size, 0, none⟩ = some (.slice A0 n0 c0) := fun _ h => h.cell (hS.cell 2 0 rfl rfl)
  have C1 : ∀ w', Cls W3 w' → w'.cell? ⟨w.heap.size, 1, none⟩ = some (.slice E0 m0 d0) := fun _ h => h.cell (hS.cell 2 1 rfl rfl)
  have C2 : ∀ w', Cls W3 w' → w'.cell? ⟨w.heap.size + 1, 0, none⟩ = some (.int .i64 s1) := fun _ h => h.cell (hS.cell 1 0 rfl rfl)
  have C3 : ∀ w', Cls W3 w' → w'.cell? ⟨w.heap.size + 1, 1, none⟩ = some (.slice A1 l1.length c1) := fun _ h => h.cell (hS.cell 1 1 rfl rfl)
  have C4 : ∀ w', Cls W3 w' → w'.cell? ⟨w.heap.size + 1 + 1, 0, none⟩ = some (.int .i64 s2) := fun _ h => h.cell (hS.cell 0 0 rfl rfl)
  have C5 : ∀ w', Cls W3 w' → w'.cell? ⟨w.heap.size + 1 + 1, 1, none⟩ = some (.slice A2 l2.length c2) := fun _ h => h.cell (hS.cell 0 1 rfl rfl)
  have HL := hid (fun w' (h : Cls W3 w') => hS.step h)
  go_wp2_with fail
  go_region_held3 (fun w' => Cls W3 w') (first | exact Cls.drew _ | exact Cls.next (by assumption) (by assumption))
    (first
      | (go_at_call 18; refine (toNetwork_own _ (h0I.out.grow (HL.out _ (by assumption)).bl).strs (h0I.out.grow (HL.out _ (by assumption)).bl).fibs (Nat.le_refl _) h0n h0m).mono ?_; rintro e w' ⟨Aw0, cw0, Ew0, dw0, rfl, ho_w0, hb_w0⟩; have hLw0 := (HL.out _ (by assumption)).net hb_w0 ho_w0)
      | (go_at_call_of 19 (Value.slice A1 l1.length c1); refine (toRoute_any s1 _ (h1I.out.grow hLw0.bl).2 (Nat.le_refl _) h1n).mono ?_; rintro e w' ⟨Aw1, cw1, rfl, _, ho_w1, hb_w1⟩; have hLw1 := hLw0.owns hb_w1 ho_w1)
      | (go_at_call_of 19 (Value.slice A2 l2.length c2); refine (toRoute_any s2 _ (h2I.out.grow hLw1.bl).2 (Nat.le_refl _) h2n).mono ?_; rintro e w' ⟨Aw2, cw2, rfl, _, ho_w2, hb_w2⟩; have hLw2 := hLw1.owns hb_w2 ho_w2)
      | (go_at_call 17; refine (specAreDisjoint (k := a3) _ (hLw2.netIs 2 rfl h0n h0m h0x) (hLw2.rt 1 rfl h1n) (hLw2.rt 0 rfl h2n)).mono ?_; rintro e w' ⟨rfl, hb⟩))
  have hS2 := hLw2
  clear HL C0 C1 C2 C3 C4 C5
  replace hS2 := hS2.step hb
  clear hS
  have hS := hS2
  clear hS2 hb hLw0 hb_w0 ho_w0 hLw1 hb_w1 ho_w1 hLw2 hb_w2 ho_w2
  generalize w' = W4 at *
  -- the program on copies that are kept
  have q0 := hS.cell 5 0 rfl rfl
  have q1 := hS.cell 5 1 rfl rfl
  go_wp2_with fail
  refine (toNetwork_own _ (h0I.out.grow hS.bl).strs (h0I.out.grow hS.bl).fibs (Nat.le_refl _) h0n h0m).mono ?_
  rintro e W5 ⟨Ax0, cx0, Ex0, dx0, rfl, ho, hb⟩
  replace hS := hS.net hb ho
  clear hb ho
  clear q0 q1
  replace hS := hS.blk_ (W5.heap.size) (by simp) 35 #[.slice Ax0 n0 cx0, .slice Ex0 m0 dx0]
  have q0 := hS.cell 6 0 rfl rfl
  have q1 := hS.cell 6 1 rfl rfl
  go_wp2_with fail
  refine (toRoute_any s1 _ (h1I.out.grow hS.bl).2 (Nat.le_refl _) h1n).mono ?_
  rintro e W6 ⟨Ax1, cx1, rfl, _, ho, hb⟩
  replace hS := hS.owns hb ho
  clear hb ho
  clear q0 q1
  replace hS := hS.blk_ (W6.heap.size) (by simp) 37 #[.int .i64 s1, .slice Ax1 l1.length cx1]
  have q0 := hS.cell 7 0 rfl rfl
  have q1 := hS.cell 7 1 rfl rfl
  go_wp2_with fail
  refine (toRoute_any s2 _ (h2I.out.grow hS.bl).2 (Nat.le_refl _) h2n).mono ?_
  rintro e W7 ⟨Ax2, cx2, rfl, _, ho, hb⟩
  replace hS := hS.owns hb ho
  clear hb ho
  clear q0 q1
  replace hS := hS.blk_ (W7.heap.size) (by simp) 37 #[.int .i64 s2, .slice Ax2 l2.length cx2]
  have q0 := hS.cell 4 0 rfl rfl
  have q1 := hS.cell 4 1 rfl rfl
  have q2 := hS.cell 2 0 rfl rfl
  have q3 := hS.cell 2 1 rfl rfl
  go_wp2_with fail
  refine (implAreDisjoint (k := a3) _ (hS.netIs 5 rfl h0n h0m h0x) (hS.rt 3 rfl h1n) (hS.rt 1 rfl h2n)).mono ?_
  rintro e W8 ⟨rfl, hb⟩
  replace hS := hS.step hb
  clear hb
  clear q0 q1 q2 q3
  -- the results are equal
  -- the arguments are as they were
  have C0 : ∀ w', Cls W8 w' → w'.cell? ⟨w.heap.size, 0, none⟩ = some (.slice A0 n0 c0) := fun _ h => h.cell (hS.cell 11 0 rfl rfl)
  have C1 : ∀ w', Cls W8 w' → w'.cell? ⟨w.heap.size, 1, none⟩ = some (.slice E0 m0 d0) := fun _ h => h.cell (hS.cell 11 1 rfl rfl)
  have C2 : ∀ w', Cls W8 w' → w'.cell? ⟨W5.heap.size, 0, none⟩ = some (.slice Ax0 n0 cx0) := fun _ h => h.cell (hS.cell 4 0 rfl rfl)
  have C3 : ∀ w', Cls W8 w' → w'.cell? ⟨W5.heap.size, 1, none⟩ = some (.slice Ex0 m0 dx0) := fun _ h => h.cell (hS.cell 4 1 rfl rfl)
  have HL := hid (fun w' (h : Cls W8 w') => hS.step h)
  go_wp2_with fail
  go_region_held3 (fun w' => Cls W8 w') (first | exact Cls.drew _ | exact Cls.next (by assumption) (by assumption))
    (first
      | (go_at_call 18; refine (toNetwork_own _ (h0I.out.grow (HL.out _ (by assumption)).bl).strs (h0I.out.grow (HL.out _ (by assumption)).bl).fibs (Nat.le_refl _) h0n h0m).mono ?_; rintro e w' ⟨Ay0, cy0, Ey0, dy0, rfl, ho1, hb1⟩; have hL1 := (HL.out _ (by assumption)).net hb1 ho1)
      | (go_at_call 21; refine (eqN_led2 hL1 6 0 rfl rfl h0n h0m).mono ?_; rintro e w' ⟨rfl, hS2, hb2⟩))
  clear HL hL1 ho1 hb1 hb2 C0 C1 C2 C3
  replace hS := hS2.drop 1
  clear hS2
  dsimp only [List.drop] at hS
  generalize w' = W9 at *
  have C0 : ∀ w', Cls W9 w' → w'.cell? ⟨w.heap.size + 1, 0, none⟩ = some (.int .i64 s1) := fun _ h => h.cell (hS.cell 10 0 rfl rfl)
  have C1 : ∀ w', Cls W9 w' → w'.cell? ⟨w.heap.size + 1, 1, none⟩ = some (.slice A1 l1.length c1) := fun _ h => h.cell (hS.cell 10 1 rfl rfl)
  have C2 : ∀ w', Cls W9 w' → w'.cell? ⟨W6.heap.size, 0, none⟩ = some (.int .i64 s1) := fun _ h => h.cell (hS.cell 2 0 rfl rfl)
  have C3 : ∀ w', Cls W9 w' → w'.cell? ⟨W6.heap.size, 1, none⟩ = some (.slice Ax1 l1.length cx1) := fun _ h => h.cell (hS.cell 2 1 rfl rfl)
  have HL := hid (fun w' (h : Cls W9 w') => hS.step h)
  go_wp2_with fail
  go_region_held3 (fun w' => Cls W9 w') (first | exact Cls.drew _ | exact Cls.next (by assumption) (by assumption))
    (first
      | (go_at_call 19; refine (toRoute_any s1 _ (h1I.out.grow (HL.out _ (by assumption)).bl).2 (Nat.le_refl _) h1n).mono ?_; rintro e w' ⟨Ay1, cy1, rfl, _, ho1, hb1⟩; have hL1 := (HL.out _ (by assumption)).owns hb1 ho1)
      | (go_at_call 22; refine (eqR_led2 hL1 4 0 rfl rfl s1 h1n).mono ?_; rintro e w' ⟨rfl, hS2, hb2⟩))
  clear HL hL1 ho1 hb1 hb2 C0 C1 C2 C3
  replace hS := hS2.drop 1
  clear hS2
  dsimp only [List.drop] at hS
  generalize w' = W10 at *
  have C0 : ∀ w', Cls W10 w' → w'.cell? ⟨w.heap.size + 1 + 1, 0, none⟩ = some (.int .i64 s2) := fun _ h => h.cell (hS.cell 9 0 rfl rfl)
  have C1 : ∀ w', Cls W10 w' → w'.cell? ⟨w.heap.size + 1 + 1, 1, none⟩ = some (.slice A2 l2.length c2) := fun _ h => h.cell (hS.cell 9 1 rfl rfl)
  have C2 : ∀ w', Cls W10 w' → w'.cell? ⟨W7.heap.size, 0, none⟩ = some (.int .i64 s2) := fun _ h => h.cell (hS.cell 0 0 rfl rfl)
  have C3 : ∀ w', Cls W10 w' → w'.cell? ⟨W7.heap.size, 1, none⟩ = some (.slice Ax2 l2.length cx2) := fun _ h => h.cell (hS.cell 0 1 rfl rfl)
  have HL := hid (fun w' (h : Cls W10 w') => hS.step h)
  go_wp2_with fail
  go_region_held3 (fun w' => Cls W10 w') (first | exact Cls.drew _ | exact Cls.next (by assumption) (by assumption))
    (first
      | (go_at_call 19; refine (toRoute_any s2 _ (h2I.out.grow (HL.out _ (by assumption)).bl).2 (Nat.le_refl _) h2n).mono ?_; rintro e w' ⟨Ay2, cy2, rfl, _, ho1, hb1⟩; have hL1 := (HL.out _ (by assumption)).owns hb1 ho1)
      | (go_at_call 22; refine (eqR_led2 hL1 2 0 rfl rfl s2 h2n).mono ?_; rintro e w' ⟨rfl, hS2, hb2⟩))
  clear HL hL1 ho1 hb1 hb2 C0 C1 C2 C3
  replace hS := hS2.drop 1
  clear hS2
  dsimp only [List.drop] at hS
  generalize w' = W11 at *
  go_wp2_with fail
  go_ret
  exact ⟨rfl, hS.bl⟩
end Go.Proofs.Ytjklphlgmlomjaa.fnExactAreDisjoint
