/- Lemmas and walks that the claim rests on, laid together. Conditions: none. -/
import Derived.Test.YtfepilpllfiegaaZ33ac97993c82
import Derived.Test.YtfepilpllfiegaaZ3128dd2975f1
import Derived.Deep.RegionHeld3
import Derived.Test.YtfepilpllfiegaaZ7267d67f9ff7
import Derived.Test.YtfepilpllfiegaaZc3e33f13110d
import Derived.Test.YtfepilpllfiegaaZc731a5b1582e
import Derived.Lib.SliceRun
import Derived.Test.YtfepilpllfiegaaZ26e9db1b046f
import Derived.Test.YtfepilpllfiegaaZ76d3d4a5ee99
import Derived.Deep.RegionLaw
/- FailingWith of both sides, walked. Conditions: none. -/
namespace Go.Proofs.Ytfepilpllfiegaa
open Go.RowKit
variable {n c m d : Nat} {A A' : Option Addr} {xs : List ByteArray} {fs : List Fib}
theorem OwnsSS.at_ {w : World} {base n c k : Nat} {A : Option Addr} {ss : List Sl} {rows : List (List Int)} {r : List Int} (h : OwnsSS w base (.slice A n c) ss rows) (hk : rows[k]? = some r) :
    ∃ g s, A = some ⟨g, 0, none⟩ ∧ n = rows.length ∧ ss[k]? = some s ∧ w.cell? ⟨g, k, none⟩ = some (.slice s.A s.n s.c) ∧ Owns elInt w base 3 (.slice s.A s.n s.c) r := by
  have hl := h.2.1
  obtain ⟨s, hs⟩ := get_of (l := ss) (k := k) hl (List.getElem?_eq_some_iff.1 hk).1
  rcases h.1.cases with ⟨_, e⟩ | ⟨g, cap, cur, hv, _, hb, _, _, _, hf⟩
  · rw [e] at hs; simp at hs
  · injection hv with e1 e2 e3
    refine ⟨g, s, e1, by rw [e2, hl], hs, ?_, h.2.2.1 k s r hs hk⟩
    have := hf k s (List.getElem?_eq_some_iff.1 hs).1 hs 0 _ rfl
    rw [hb.cell]
    simpa [elSl, slV] using this
theorem fwL_small (i : Int) : (fwL xs fs i).length ≤ 15 := by
  unfold fwL
  cases g : fwB xs fs i
  · simp
  · unfold fwB at g
    rw [Bool.and_eq_true] at g
    have hi := inB_idx g.2
    have := groups_row (groupL_in g.1 (i := i.toNat) (by omega))
    have := (goodB_bd g.1).2.2
    simp; omega
set_option maxHeartbeats 1000000 in
set_option maxRecDepth 100000 in
theorem implFailing (i : Int) (w : World) (h : NetIs w A n c A' m d xs fs) :
    Calls Try.prog 48 #[.agg #[.slice A n c, .slice A' m d], .int .i64 i] w fun e w' => ∃ v, e = .returned (.tuple #[v, .bool (fwB xs fs i)]) ∧ Owns elInt w' w.heap.size 3 v (fwL xs fs i) ∧ Below w.heap.size w w' := by
  have hb0 := bl_alloc (Below.refl w.heap.size w) (.cells #[.slice A n c, .slice A' m d] 27)
  have hx0 : Blk (w.alloc (.cells #[.slice A n c, .slice A' m d] 27)) w.heap.size 27 #[.slice A n c, .slice A' m d] := Blk.new _ _ _
  have h0 := h.grow hb0
  have hfl := h.flen
  cases g : goodB xs fs && inB 0 ((m : Int) - 1) i
  · have H : Hid (fwB xs fs i = false) := by unfold Hid fwB; rw [hfl, g]
    go_enter Try.func48, Try.ntmps48
    go_wp2_with fail
    refine (isFiber_any i _ h0).mono ?_
    rintro e w2 ⟨rfl, hb2⟩
    rw [g]
    go_wp2_with fail
    go_ret2
    exact ⟨_, by rw [H.out]; rfl, by unfold fwL; rw [H.out]; exact World.ownsRow_nil _ _ _ _, bl_then hb0 hb2⟩
  · have H : Hid (fwB xs fs i = true) := by unfold Hid fwB; rw [hfl, g]
    have g' := g
    rw [Bool.and_eq_true] at g'
    have hi := inB_idx g'.2
    obtain ⟨j, rfl⟩ : ∃ j : Nat, i = (j : Int) := ⟨i.toNat, by omega⟩
    obtain ⟨k, hk1, hk2⟩ := grp_at g'.1 (i := j) (by rw [hfl]; omega)
    have hm := (goodB_bd g'.1).2.2
    rw [hfl] at hm
    have HK := hid hk2
    have HI := hid hk1
    have iz : (k : Int) < ((groupsL fs).length : Int) := by have := (List.getElem?_eq_some_iff.1 hk2).1; omega
    have H2 : Hid (fwL xs fs j = groupL fs j) := by unfold Hid fwL; rw [H.out]; simp
    clear g' hk1 hk2 hfl
    go_enter Try.func48, Try.ntmps48
    go_wp2_with fail
    refine (isFiber_any j _ h0).mono ?_
    rintro e w2 ⟨rfl, hb2⟩
    rw [g]
    have hx2 := hx0.below hb2 hx0.lt
    have hbw := bl_then hb0 hb2
    have z2 := hbw.size
    have C0 : ∀ w', Cls w2 w' → w'.cell? ⟨w.heap.size, 0, none⟩ = some (.slice A n c) := fun _ h => h.cell (by rw [hx2.cell]; rfl)
    have C1 : ∀ w', Cls w2 w' → w'.cell? ⟨w.heap.size, 1, none⟩ = some (.slice A' m d) := fun _ h => h.cell (by rw [hx2.cell]; rfl)
    have HN : Hid (∀ w', Cls w2 w' → NetIs w' A n c A' m d xs fs) := fun w' hw' => (h.grow hbw).grow hw'
    clear hx0 hx2
    go_wp2_with fail
    have p0 := C0 w2 (Cls.refl _)
    have p1 := C1 w2 (Cls.refl _)
    go_region_with (first
        | (go_at_call 86; refine (groups_any _ (HN.out _ (Cls.drew _))).mono ?_; rintro e w' ⟨⟨A2, n2, c2⟩, ss, rfl, hs, hb3⟩; dsimp only [slV] at hs ⊢; obtain ⟨ga, s, rfl, rfl, hsk, hq, hor⟩ := hs.at_ HK.out; have hcl := Cls.next hb3 (Cls.drew w2); have p2 := C0 _ hcl; have p3 := C1 _ hcl)
        | (go_at_call 110; refine (groupOf_any _ _ (HN.out _ hcl) (by omega)).mono ?_; rintro e w' ⟨rfl, hb4⟩; rw [HI.out]; have hq4 := bl_cell hb4 hq))
    all_goals
      have hbz := bl_then hbw (Cls.next hb4 hcl)
      have HOz := hid ((hor.below hb4).base (base' := w.heap.size) z2)
      clear hor hb4 hcl hs hb3
      go_wp2
      go_ret2
      exact ⟨_, by rw [H.out]; rfl, by rw [H2.out]; exact HOz.out, hbz⟩
end Go.Proofs.Ytfepilpllfiegaa
/- CriticalGroups of both sides, walked. Conditions: none. -/
namespace Go.Proofs.Ytfepilpllfiegaa
open Go.RowKit
theorem groupsL_range {fs : List Fib} {r : List Int} (h : r ∈ groupsL fs) : ∀ x ∈ r, 0 ≤ x ∧ x < fs.length := by
  unfold groupsL at h
  rcases List.mem_append.1 h with h | h
  · obtain ⟨t, ht⟩ : ∃ t, r = rkRow fs t := by
      have key : ∀ k, r ∈ rkTo fs k → ∃ t, r = rkRow fs t := by
        intro k
        induction k with
        | zero => intro h; simp [rkTo] at h
        | succ k ih =>
          intro h
          by_cases hne : rkRow fs k = []
          · rw [rkTo_no hne] at h; exact ih h
          · rw [rkTo_yes hne] at h
            rcases List.mem_append.1 h with h | h
            · exact ih h
            · exact ⟨k, by simpa using h⟩
      exact key 9 h
    rw [ht]; exact fun x hx => idsTo_range x hx
  · unfold zrTo at h
    obtain ⟨y, hy, rfl⟩ := List.mem_map.1 h
    intro x hx
    rw [List.mem_singleton] at hx
    subst hx
    exact idsTo_range _ hy
theorem cgL_len {xs : List ByteArray} {fs : List Fib} : (cgL xs fs).length ≤ 1048576 := by
  unfold cgL
  cases g : goodB xs fs
  · simp
  · have h := goodB_bd g
    have h2 := idsTo_len (cgF fs xs.length) (groupsL fs).length
    have h3 := groups_len fs
    rw [if_pos rfl]; omega
section
variable {n c m d : Nat} {A A' : Option Addr} {xs : List ByteArray} {fs : List Fib}
end
end Go.Proofs.Ytfepilpllfiegaa
/- Group cuts in plain Lean: the program's choice and the reference's are one. Conditions: none. -/
namespace Go.Proofs.Ytfepilpllfiegaa
section
variable {n m : Nat} {xs : List ByteArray} {fs : List Fib}
/-- The fibers of some groups, in the program's order. -/
def goneG (fs : List Fib) (L : List Int) : List Int := L.flatMap fun i => (groupsL fs).getD i.toNat []
/-- The number of a group's set. -/
def setG (fs : List Fib) (i : Nat) : Nat := maskN ((groupsL fs).getD i [])
def cutG (fs : List Fib) (n f t : Nat) (L : List Int) : Bool := cutP fs n f t (goneG fs L)
/-- The reference's list of the fewest groups. -/
def gcS (fs : List Fib) (n f t : Nat) : List Int := cutS (cutQ fs n f t) (setG fs) (groupsL fs).length
theorem group_pos {i : Nat} : ∀ x ∈ (groupsL fs).getD i [], 0 ≤ x ∧ x < fs.length := by
  intro x hx
  rw [List.getD_eq_getElem?_getD] at hx
  cases h : (groupsL fs)[i]? with
  | none => rw [h] at hx; cases hx
  | some r => rw [h] at hx; exact groupsL_range (List.mem_of_getElem? h) x hx
theorem setG_bit (i j : Nat) : (setG fs i).testBit j = hasB ((groupsL fs).getD i []) (j : Int) := maskN_bit (fun x hx => (group_pos x hx).1) j
theorem union_bitG {S : Nat → Nat} (L : List Int) (j : Nat) : ∀ M : Nat, (L.foldl (fun M x => M ||| S x.toNat) M).testBit j = (M.testBit j || L.any fun x => (S x.toNat).testBit j) := by
  induction L with
  | nil => intro M; simp
  | cons x L ih => intro M; rw [List.foldl_cons, ih, Nat.testBit_or, List.any_cons, Bool.or_assoc]
theorem cut_eqG {f t : Nat} (L : List Int) : cutG fs n f t L = cutQ fs n f t (unionS (setG fs) L) := by
  unfold cutG cutP cutQ
  have e : compL (goneF (goneG fs L)) fs n = compL (fun i => (unionS (setG fs) L).testBit i) fs n := compL_congr fun j _ => by
    unfold unionS goneF
    rw [union_bitG, Nat.zero_testBit, Bool.false_or, Bool.eq_iff_iff, hasB_iff, List.any_eq_true]
    unfold goneG
    rw [List.mem_flatMap]
    constructor
    · rintro ⟨x, hx, hj⟩; exact ⟨x, hx, by rw [setG_bit, hasB_iff]; exact hj⟩
    · rintro ⟨x, hx, hj⟩; rw [setG_bit, hasB_iff] at hj; exact ⟨x, hx, hj⟩
  rw [e]
theorem cut_allG (hg : goodB xs fs = true) {f t : Nat} (hf : f < n) (ht : t < n) (hne : f ≠ t) : cutG fs n f t (fromL (groupsL fs).length 0) = true := by
  have e : compL (goneF (goneG fs (fromL (groupsL fs).length 0))) fs n = marks 0 n := compL_all fun i hi => by
    unfold goneF
    rw [hasB_iff]
    unfold goneG
    obtain ⟨k, hk⟩ := List.getElem?_of_mem (groupL_in hg hi)
    rw [List.mem_flatMap]
    refine ⟨(k : Int), fromL_mem.2 ⟨k, Nat.zero_le _, (List.getElem?_eq_some_iff.1 hk).1, rfl⟩, ?_⟩
    rw [Int.toNat_natCast, List.getD_eq_getElem?_getD, hk]
    exact groupL_self hi
  have v : ∀ k, k < n → valL (marks 0 n) k = (k : Int) := fun k hk => by
    have := marks_get (k := 0) hk
    unfold valL
    rw [List.getD_eq_getElem?_getD, this]; simp
  unfold cutG cutP
  rw [e, v f hf, v t ht]
  simp; omega
theorem few_cutG (hg : goodB xs fs = true) {f t : Nat} (hf : f < n) (ht : t < n) (hne : f ≠ t) : fewL (cutG fs n f t) (groupsL fs).length = some (gcS fs n f t) := fewL_eq (fun L _ => cut_eqG L) (cut_allG hg hf ht hne)
theorem gcS_len (hg : goodB xs fs = true) {f t : Nat} (hf : f < n) (ht : t < n) (hne : f ≠ t) : (gcS fs n f t).length ≤ (groupsL fs).length := (fewL_low (few_cutG hg hf ht hne)).2.1
theorem setG_lt (h : fs.length ≤ 20) (i : Nat) : setG fs i < 2 ^ 20 := maskTo_lt (fun x hx => by have := group_pos x hx; omega) _ (Nat.le_refl _)
end
/-- The list of the fewest groups, or none. -/
def gcL (xs : List ByteArray) (fs : List Fib) (f t : Int) : List Int := if mcB xs fs f t then gcS fs xs.length f.toNat t.toNat else []
end Go.Proofs.Ytfepilpllfiegaa
/- A minimum cut separates, none of its fibers can be left out, and no cut of groups needs more of them, in plain Lean. Conditions: as each states. -/
namespace Go.Proofs.Ytfepilpllfiegaa
open Go.RowKit
section
variable {p : List Int → Bool} {n : Nat}
/-- Where no choice of c more is found none of them holds. -/
theorem chooseL_none : ∀ (c s : Nat) (L R : List Int), chooseL p n c s L = none → R.length = c → R.Pairwise (· < ·) → (∀ x ∈ R, (s : Int) ≤ x ∧ x < n) → p (L ++ R) = false := by
  intro c
  induction c with
  | zero =>
    intro s L R h hl _ _
    have h : (if p L then some L else none) = none := h
    obtain rfl := List.eq_nil_of_length_eq_zero hl
    rw [List.append_nil]
    split at h
    · cases h
    · rename_i h2; simpa using h2
  | succ c ih =>
    intro s L R h hl ha hb
    have h : firstO (fun k => chooseL p n c (k + 1) (L ++ [(k : Int)])) s (n - s) = none := h
    cases R with
    | nil => simp at hl
    | cons x R =>
      obtain ⟨hx1, hx2⟩ := hb x List.mem_cons_self
      obtain ⟨k, rfl⟩ : ∃ k : Nat, x = (k : Int) := ⟨x.toNat, by omega⟩
      have key : ∀ r j, j + r = n → j ≤ k → firstO (fun k => chooseL p n c (k + 1) (L ++ [(k : Int)])) j r = none → chooseL p n c (k + 1) (L ++ [(k : Int)]) = none := by
        intro r
        induction r with
        | zero => intro j hj hk _; omega
        | succ r ihr =>
          intro j hj hk h
          cases hf : chooseL p n c (j + 1) (L ++ [(j : Int)]) with
          | some y => rw [firstO_some hf] at h; cases h
          | none =>
            rcases Nat.lt_or_ge j k with h1 | h1
            · rw [firstO_none hf] at h; exact ihr (j + 1) (by omega) (by omega) h
            · obtain rfl : j = k := by omega
              exact hf
      have hk := key (n - s) s (by omega) (by omega) h
      rw [List.pairwise_cons] at ha
      have := ih (k + 1) (L ++ [(k : Int)]) R hk (by simpa using hl) ha.2 (fun y hy => by
        have h1 := ha.1 y hy
        have h2 := hb y (List.mem_cons_of_mem _ hy)
        push_cast
        omega)
      rw [List.append_assoc] at this
      exact this
/-- No shorter list holds. -/
theorem fewL_least {R : List Int} (h : fewL p n = some R) {G : List Int} (hG : G.Pairwise (· < ·)) (hb : ∀ x ∈ G, 0 ≤ x ∧ x < n) (hp : p G = true) : R.length ≤ G.length := by
  have h0 : lowL n ([] : List Int) := fun x hx => by cases hx
  unfold fewL at h
  apply Classical.byContradiction
  intro hlt
  have key : ∀ r k, k + r = n + 1 → k ≤ G.length → firstO (fun c => chooseL p n c 0 []) k r = some R → False := by
    intro r
    induction r with
    | zero => intro k _ _ h; cases h
    | succ r ihr =>
      intro k hk hkG h
      cases hf : chooseL p n k 0 [] with
      | some y =>
        rw [firstO_some hf] at h
        injection h with h; subst h
        have := chooseL_low _ _ _ _ h0 hf
        simp at this
        omega
      | none =>
        rw [firstO_none hf] at h
        rcases Nat.lt_or_ge k G.length with h1 | h1
        · exact ihr (k + 1) (by omega) (by omega) h
        · have := chooseL_none k 0 [] G hf (by omega) hG (fun x hx => by have := hb x hx; omega)
          rw [List.nil_append, hp] at this
          cases this
  exact key (n + 1) 0 (by omega) (Nat.zero_le _) h
/-- What is chosen is ascending. -/
theorem chooseL_asc : ∀ (c s : Nat) (L R : List Int), L.Pairwise (· < ·) → (∀ x ∈ L, x < (s : Int)) → chooseL p n c s L = some R → R.Pairwise (· < ·) := by
  intro c
  induction c with
  | zero =>
    intro s L R hL _ h
    have h : (if p L then some L else none) = some R := h
    split at h
    · injection h with h; subst h; exact hL
    · cases h
  | succ c ih =>
    intro s L R hL hs h
    have h : firstO (fun k => chooseL p n c (k + 1) (L ++ [(k : Int)])) s (n - s) = some R := h
    have key : ∀ r k, s ≤ k → firstO (fun k => chooseL p n c (k + 1) (L ++ [(k : Int)])) k r = some R → R.Pairwise (· < ·) := by
      intro r
      induction r with
      | zero => intro k _ h; cases h
      | succ r ihr =>
        intro k hk h
        cases hf : chooseL p n c (k + 1) (L ++ [(k : Int)]) with
        | some x =>
          rw [firstO_some hf] at h
          injection h with h; subst h
          refine ih _ _ _ ?_ ?_ hf
          · rw [List.pairwise_append]
            exact ⟨hL, by simp, fun y hy z hz => by simp at hz; subst hz; have := hs y hy; omega⟩
          · intro y hy
            rcases List.mem_append.1 hy with hy | hy
            · have := hs y hy; push_cast; omega
            · simp at hy; subst hy; push_cast; omega
        | none => rw [firstO_none hf] at h; exact ihr (k + 1) (by omega) h
    exact key _ _ (Nat.le_refl _) h
theorem fewL_asc {R : List Int} (h : fewL p n = some R) : R.Pairwise (· < ·) := by
  unfold fewL at h
  have key : ∀ r k, firstO (fun c => chooseL p n c 0 []) k r = some R → R.Pairwise (· < ·) := by
    intro r
    induction r with
    | zero => intro k h; cases h
    | succ r ihr =>
      intro k h
      cases hf : chooseL p n k 0 [] with
      | some x =>
        rw [firstO_some hf] at h
        injection h with h; subst h
        exact chooseL_asc _ _ _ _ List.Pairwise.nil (fun x hx => by cases hx) hf
      | none => rw [firstO_none hf] at h; exact ihr (k + 1) h
  exact key _ _ h
end
theorem nodup_le : ∀ {l m : List Int}, l.Nodup → (∀ x ∈ l, x ∈ m) → l.length ≤ m.length := by
  intro l
  induction l with
  | nil => intro m _ _; exact Nat.zero_le _
  | cons x l ih =>
    intro m hd hs
    rw [List.nodup_cons] at hd
    have hx := hs x List.mem_cons_self
    have h1 := ih (m := m.erase x) hd.2 (fun y hy => (List.mem_erase_of_ne (fun e => hd.1 (by rw [← e]; exact hy))).2 (hs y (List.mem_cons_of_mem _ hy)))
    rw [List.length_erase_of_mem hx] at h1
    have := List.length_pos_of_mem hx
    simp
    omega
section
variable {n : Nat} {xs : List ByteArray} {fs : List Fib} {f t : Nat}
theorem cut_asc (hf : f < n) (ht : t < n) (hne : f ≠ t) : (cutL fs n f t).Pairwise (· < ·) ∧ (∀ x ∈ cutL fs n f t, 0 ≤ x ∧ x < fs.length) ∧ cutP fs n f t (cutL fs n f t) = true := by
  have h := few_cut (fs := fs) hf ht hne
  have h2 := fewL_low h
  exact ⟨fewL_asc h, h2.1, h2.2.2⟩
/-- Without one of its fibers a minimum cut separates no more. -/
theorem cut_less (hf : f < n) (ht : t < n) (hne : f ≠ t) {i : Nat} (hi : i < (cutL fs n f t).length) : cutP fs n f t ((cutL fs n f t).take i ++ (cutL fs n f t).drop (i + 1)) = false := by
  have h := few_cut (fs := fs) hf ht hne
  obtain ⟨ha, hb, _⟩ := cut_asc (fs := fs) hf ht hne
  have hsub : ((cutL fs n f t).take i ++ (cutL fs n f t).drop (i + 1)).Sublist (cutL fs n f t) := by
    have h1 : ((cutL fs n f t).drop (i + 1)).Sublist ((cutL fs n f t).drop i) := by
      rw [← List.drop_drop]
      exact List.drop_sublist _ _
    have h2 := List.Sublist.append (List.Sublist.refl ((cutL fs n f t).take i)) h1
    rw [List.take_append_drop] at h2
    exact h2
  cases g : cutP fs n f t ((cutL fs n f t).take i ++ (cutL fs n f t).drop (i + 1))
  · rfl
  · have := fewL_least h (ha.sublist hsub) (fun x hx => hb x (hsub.subset hx)) g
    rw [List.length_append, List.length_take, List.length_drop] at this
    omega
theorem cutP_ne {L : List Int} : cutP fs n f t L = true ↔ valL (compL (goneF L) fs n) f ≠ valL (compL (goneF L) fs n) t := by
  unfold cutP
  rw [Bool.not_eq_true', beq_eq_false_iff_ne]
/-- As many groups as fibers suffice. -/
theorem gc_few (hg : goodB xs fs = true) (hf : f < xs.length) (ht : t < xs.length) (hne : f ≠ t) : (gcS fs xs.length f t).length ≤ (cutL fs xs.length f t).length := by
  obtain ⟨ha, hb, hc⟩ := cut_asc (fs := fs) (n := xs.length) hf ht hne
  obtain ⟨C, hC⟩ : ∃ C, C = cutL fs xs.length f t := ⟨_, rfl⟩
  rw [← hC] at ha hb hc ⊢
  have hG := fewL_least (few_cutG hg hf ht hne) (G := idsTo (fun g => C.any fun x => decide (grpI fs x = (g : Int))) (groupsL fs).length) (ids_asc _ _) (fun x hx => by obtain ⟨j, hj, _, rfl⟩ := mem_idsTo.1 hx; omega) (by
    unfold cutG
    rw [cutP_ne]
    refine comp_mono (q := goneF C) (goodB_ends hg) (fun i hi hq => ?_) hf ht (cutP_ne.1 hc)
    unfold goneF at hq ⊢
    rw [hasB_iff] at hq ⊢
    obtain ⟨k, hk1, hk2⟩ := grp_at hg hi
    unfold goneG
    rw [List.mem_flatMap]
    refine ⟨(k : Int), mem_idsTo.2 ⟨k, (List.getElem?_eq_some_iff.1 hk2).1, ?_, rfl⟩, ?_⟩
    · rw [List.any_eq_true]; exact ⟨_, hq, decide_eq_true hk1⟩
    · rw [Int.toNat_natCast, List.getD_eq_getElem?_getD, hk2]
      exact groupL_self hi)
  refine Nat.le_trans hG ?_
  have h1 := nodup_le (l := idsTo (fun g => C.any fun x => decide (grpI fs x = (g : Int))) (groupsL fs).length) (m := C.map (grpI fs)) ((ids_asc _ _).imp fun h => by omega) (fun y hy => by
    obtain ⟨j, _, h2, rfl⟩ := mem_idsTo.1 hy
    rw [List.any_eq_true] at h2
    obtain ⟨x, hx, h3⟩ := h2
    rw [List.mem_map]
    exact ⟨x, hx, of_decide_eq_true h3⟩)
  rw [List.length_map] at h1
  exact h1
theorem gc_asc (hg : goodB xs fs = true) (hf : f < xs.length) (ht : t < xs.length) (hne : f ≠ t) : (gcS fs xs.length f t).Pairwise (· < ·) ∧ (∀ x ∈ gcS fs xs.length f t, 0 ≤ x ∧ x < (groupsL fs).length) ∧ cutG fs xs.length f t (gcS fs xs.length f t) = true := by
  have h := few_cutG hg hf ht hne
  have h2 := fewL_low h
  exact ⟨fewL_asc h, h2.1, h2.2.2⟩
/-- The fibers of some groups, each once, in order: as the law lists them. -/
theorem gc_list (hg : goodB xs fs = true) (hf : f < xs.length) (ht : t < xs.length) (hne : f ≠ t) :
    cutP fs xs.length f t (idsTo (fun i => hasB (goneG fs (gcS fs xs.length f t)) (i : Int)) fs.length) = true := by
  rw [cutP_ne]
  have h := cutP_ne.1 (gc_asc hg hf ht hne).2.2
  have e : compL (goneF (idsTo (fun i => hasB (goneG fs (gcS fs xs.length f t)) (i : Int)) fs.length)) fs xs.length = compL (goneF (goneG fs (gcS fs xs.length f t))) fs xs.length := compL_congr fun i hi => by rw [goneF_ids hi]; rfl
  rw [e]
  exact h
end
end Go.Proofs.Ytfepilpllfiegaa
/- slices.Clone of strings, walked. Conditions: at most 1048576 of them. -/
namespace Go.Proofs.Ytfepilpllfiegaa
open Go.RowKit
set_option maxHeartbeats 1000000 in
set_option maxRecDepth 100000 in
theorem cloneS_any {B n c : Nat} {A : Option Addr} {xs : List ByteArray} (w : World) (hA : Sees elStr w B A n xs) (hn : n ≤ 1048576) :
    Calls Try.prog 116 #[.slice A n c] w fun e w' => ∃ v, e = .returned v ∧ Owns elStr w' w.heap.size 9 v xs ∧ Below w.heap.size w w' := by
  have qT : ∀ (w : World) (a : Option Addr), (binOp .eql 24 (.slice a n c) (.slice none 0 0)).run Try.prog w = .ok (.bool a.isNone) w := fun w a => Lib.run_eql_slice_nil w _ _ a n c 0 0 Try.underlying24
  rcases A with _ | ad
  · have h0 : xs = [] := by
      rcases hA.2 with h | ⟨b, o, h, _⟩
      · exact List.eq_nil_of_length_eq_zero (by rw [hA.len, h])
      · cases h
    subst h0
    go_enter Try.func116, Try.ntmps116
    go_wp2
    go_ret
    exact ⟨_, rfl, World.ownsRow_nil _ _ _ _, Below.refl _ _⟩
  · obtain ⟨i0, hi, hz0, hz1, hz2⟩ := info_parts str_info
    have hS := (Led.nil w).empty elStr 9 w.heap.size rfl w.heap.size (Nat.le_refl _)
    go_enter Try.func116, Try.ntmps116
    go_wp2_with (first
      | (at_builtin; refine wpList_append_led rfl _ _ 24 rfl hS 0 rfl Try.underlying24 hi hz0 hz1 (by rw [hz2]; decide) rfl rfl rfl (hA.grow hS.bl) (by simp; omega) (by simp) ?_)
      | go_in)
    intro A' c' w1 hS1
    go_wp2
    go_ret
    exact ⟨_, rfl, hS1.own 0 rfl, hS1.bl⟩
end Go.Proofs.Ytfepilpllfiegaa
/- RemoveFibers of both sides, walked. Conditions: none. -/
namespace Go.Proofs.Ytfepilpllfiegaa
open Go.RowKit
variable {n c m d : Nat} {A A' : Option Addr} {xs : List ByteArray} {fs : List Fib}
/-- Fiber j stays. -/
def keepF (l : List Int) (j : Nat) : Bool := !hasB l (j : Int)
/-- Those of the first k fibers that pass p. -/
def fibsTo (fs : List Fib) (p : Nat → Bool) (k : Nat) : List Fib := ((List.range k).filter p).map fun j => fs.getD j ⟨0, 0, 0, 0⟩
theorem fibsTo_zero (fs : List Fib) (p : Nat → Bool) : fibsTo fs p 0 = [] := rfl
theorem fibsTo_yes {fs : List Fib} {p : Nat → Bool} {k : Nat} {f : Fib} (h : p k = true) (hf : fs[k]? = some f) : fibsTo fs p (k + 1) = fibsTo fs p k ++ [f] := by
  simp [fibsTo, List.range_succ, List.filter_append, h, hf]
theorem fibsTo_no {fs : List Fib} {p : Nat → Bool} {k : Nat} (h : p k = false) : fibsTo fs p (k + 1) = fibsTo fs p k := by simp [fibsTo, List.range_succ, List.filter_append, h]
theorem fibsTo_len (fs : List Fib) (p : Nat → Bool) (k : Nat) : (fibsTo fs p k).length ≤ k := by
  unfold fibsTo
  rw [List.length_map]
  exact Nat.le_trans (List.length_filter_le _ _) (by simp)
def rfB (xs : List ByteArray) (fs : List Fib) (l : List Int) : Bool := goodB xs fs && risB 0 ((fs.length : Int) - 1) l
def rfX (xs : List ByteArray) (fs : List Fib) (l : List Int) : List ByteArray := if rfB xs fs l then xs else []
def rfF (xs : List ByteArray) (fs : List Fib) (l : List Int) : List Fib := if rfB xs fs l then fibsTo fs (keepF l) fs.length else []
def rfI (xs : List ByteArray) (fs : List Fib) (l : List Int) : List Int := if rfB xs fs l then idsTo (keepF l) fs.length else []
theorem rf_small (xs : List ByteArray) (fs : List Fib) (l : List Int) : (rfX xs fs l).length ≤ 8 ∧ (rfF xs fs l).length ≤ 14 ∧ (rfI xs fs l).length ≤ 14 := by
  unfold rfX rfF rfI
  cases g : rfB xs fs l
  · simp
  · unfold rfB at g
    rw [Bool.and_eq_true] at g
    have h := goodB_bd g.1
    have h1 := fibsTo_len fs (keepF l) fs.length
    have h2 := idsTo_len (keepF l) fs.length
    simp; omega
/-- A network that owns its rows, out of the ledger. -/
theorem Led.netOwn {w0 w : World} {L : List Thing} (h : Led w0 w L) (i j : Nat) {b0 : Nat} {A A' : Option Addr} {n c m d : Nat} {xs : List ByteArray} {fs : List Fib} (hi : L[i]? = some (tOwns elStr b0 9 (.slice A n c) xs)) (hj : L[j]? = some (tOwns elFib b0 62 (.slice A' m d) fs))
    (hn : n = xs.length) (hm : m = fs.length) : NetOwn w b0 A n c A' m d xs fs := by
  have h1 := h.own i hi
  have h2 := h.own j hj
  obtain ⟨_, _, e1, a1, a2, _⟩ := h1.form
  obtain ⟨_, _, e2, b1, b2, _⟩ := h2.form
  injection e1 with _ e3 e4
  injection e2 with _ e5 e6
  exact ⟨by omega, by omega, by omega, by omega, hn.symm, hm.symm, h1, h2⟩
section
variable {B k c' : Nat} {V : Option Addr} {l : List Int}
set_option maxHeartbeats 2000000 in
set_option maxRecDepth 100000 in
theorem implRemove (w : World) (h : NetIs w A n c A' m d xs fs) (hv : Sees elInt w B V k l) (hkb : k ≤ 1048576) :
    Calls Try.prog 51 #[.agg #[.slice A n c, .slice A' m d], .slice V k c'] w fun e w' => ∃ A1 c1 E1 d1 v, e = .returned (.tuple #[.agg #[.slice A1 (rfX xs fs l).length c1, .slice E1 (rfF xs fs l).length d1], v, .bool (rfB xs fs l)]) ∧
      NetOwn w' w.heap.size A1 (rfX xs fs l).length c1 E1 (rfF xs fs l).length d1 (rfX xs fs l) (rfF xs fs l) ∧ Owns elInt w' w.heap.size 3 v (rfI xs fs l) ∧ Below w.heap.size w w' := by
  have hS := ((Led.nil w).blk_ w.heap.size rfl 27 #[.slice A n c, .slice A' m d]).blk_ (w.heap.size + 1) (by simp) 27 #[.slice none 0 0, .slice none 0 0]
  have hlx := h.xlen
  have hlf := h.flen
  have hm := h.mle
  have hn := h.nle
  cases g : rfB xs fs l
  · have H : Hid (rfX xs fs l = [] ∧ rfF xs fs l = [] ∧ rfI xs fs l = []) := by unfold Hid rfX rfF rfI; rw [g]; exact ⟨rfl, rfl, rfl⟩
    rw [H.out.1, H.out.2.1, H.out.2.2]
    unfold rfB at g
    cases g1 : goodB xs fs
    · go_enter Try.func51, Try.ntmps51
      go_wp2_with fail
      refine (validN _ (h.grow hS.bl)).mono ?_
      rintro e w2 ⟨rfl, hb⟩
      replace hS := hS.step hb
      clear hb
      rw [g1]
      have q0 := hS.cell 0 0 rfl rfl
      have q1 := hS.cell 0 1 rfl rfl
      have z0 := hS.frozen 0 0 rfl
      have z1 := hS.frozen 0 1 rfl
      have hS2 := (hS.set 0 rfl 0 (.slice none 0 0)).set 0 rfl 1 (.slice none 0 0)
      go_wp2_with fail
      exact bodyPost_ret (v := .tuple #[.agg #[.slice none 0 0, .slice none 0 0], .slice none 0 0, .bool false]) (by simp [results, Try.results51, go_sem, q0, q1]) rfl
        ⟨none, 0, none, 0, .slice none 0 0, rfl, ⟨Nat.le_refl _, by decide, Nat.le_refl _, by decide, rfl, rfl, World.ownsRow_nil _ _ _ _, World.ownsRow_nil _ _ _ _⟩, World.ownsRow_nil _ _ _ _, hS2.bl⟩
    · have g2 : risB 0 ((m : Int) - 1) l = false := by rw [g1, hlf] at g; simpa using g
      go_enter Try.func51, Try.ntmps51
      go_wp2_with fail
      refine (validN _ (h.grow hS.bl)).mono ?_
      rintro e w2 ⟨rfl, hb⟩
      replace hS := hS.step hb
      clear hb
      rw [g1]
      have p1 := hS.cell 1 1 rfl rfl
      have q0 := hS.cell 0 0 rfl rfl
      have q1 := hS.cell 0 1 rfl rfl
      have z0 := hS.frozen 0 0 rfl
      have z1 := hS.frozen 0 1 rfl
      have hS2 := (hS.set 0 rfl 0 (.slice none 0 0)).set 0 rfl 1 (.slice none 0 0)
      go_wp2_with fail
      refine (isSet_any m _ (hv.grow hS.bl) hkb hm).mono ?_
      rintro e w3 ⟨rfl, rfl⟩
      rw [g2]
      go_wp2_with fail
      exact bodyPost_ret (v := .tuple #[.agg #[.slice none 0 0, .slice none 0 0], .slice none 0 0, .bool false]) (by simp [results, Try.results51, go_sem, q0, q1]) rfl
        ⟨none, 0, none, 0, .slice none 0 0, rfl, ⟨Nat.le_refl _, by decide, Nat.le_refl _, by decide, rfl, rfl, World.ownsRow_nil _ _ _ _, World.ownsRow_nil _ _ _ _⟩, World.ownsRow_nil _ _ _ _, hS2.bl⟩
  · have H : Hid (rfX xs fs l = xs ∧ rfF xs fs l = fibsTo fs (keepF l) m ∧ rfI xs fs l = idsTo (keepF l) m) := by unfold Hid rfX rfF rfI; rw [g, hlf]; exact ⟨rfl, rfl, rfl⟩
    rw [H.out.1, H.out.2.1, H.out.2.2]
    unfold rfB at g
    rw [Bool.and_eq_true, hlf] at g
    obtain ⟨g1, g2⟩ := g
    obtain ⟨i0, hi, hz0, hz1, hz2⟩ := info_parts int_info
    obtain ⟨j0, hj, hy0, hy1, hy2⟩ := info_parts fib_info
    go_enter Try.func51, Try.ntmps51
    go_wp2_with fail
    refine (validN _ (h.grow hS.bl)).mono ?_
    rintro e w2 ⟨rfl, hb⟩
    replace hS := hS.step hb
    clear hb
    rw [g1]
    have p1 := hS.cell 1 1 rfl rfl
    go_wp2_with fail
    refine (isSet_any m _ (hv.grow hS.bl) hkb hm).mono ?_
    rintro e w3 ⟨rfl, rfl⟩
    rw [g2]
    have p0 := hS.cell 1 0 rfl rfl
    go_wp2_with fail
    refine (cloneS_any _ (h.grow hS.bl).strs hn).mono ?_
    rintro e w4 ⟨v4, rfl, ho, hb⟩
    obtain ⟨A4, c4, rfl, _, _, _⟩ := ho.form
    rw [hlx] at ho ⊢
    replace hS := hS.owns_ (b0 := w.heap.size) hb ho (Nat.le_refl _) hS.bl.size
    clear ho hb p0 p1
    replace hS := hS.empty elInt 3 w4.heap.size rfl w.heap.size hS.bl.size
    replace hS := hS.blk_ (w4.heap.size + 1) (by simp) 27 #[.slice A4 n c4, .slice none 0 0]
    replace hS := hS.nilS elFib 62 w.heap.size
    have p1 := hS.cell 5 1 rfl rfl
    have HS : Hid (Led w (((w4.alloc (.cells #[] 3)).alloc (.cells #[.slice A4 n c4, .slice none 0 0] 27))) [tOwns elFib w.heap.size 62 (.slice none 0 0) (fibsTo fs (keepF l) 0), tBlk (w4.heap.size + 1) 27 #[.slice A4 n c4, .slice none 0 0], tOwns elInt w.heap.size 3 (.slice (some ⟨w4.heap.size, 0, none⟩) 0 0) (idsTo (keepF l) 0), tOwns elStr w.heap.size 9 (.slice A4 n c4) xs, tBlk (w.heap.size + 1) 27 #[.slice none 0 0, .slice none 0 0], tBlk w.heap.size 27 #[.slice A n c, .slice A' m d]]) := hS
    have HV := hid hv
    have HF := hid h
    clear hv h hS
    go_wp2_with fail
    go_loopw [8, 31] (fun v i wr => ∃ (k : Nat) (vF : Value), k ≤ m ∧ i = .int .i64 k ∧ Hid (Led w wr [tOwns elFib w.heap.size 62 vF (fibsTo fs (keepF l) k), tBlk (w4.heap.size + 1) 27 #[.slice A4 n c4, vF], tOwns elInt w.heap.size 3 v (idsTo (keepF l) k), tOwns elStr w.heap.size 9 (.slice A4 n c4) xs, tBlk (w.heap.size + 1) 27 #[.slice none 0 0, .slice none 0 0], tBlk w.heap.size 27 #[.slice A n c, .slice A' m d]])) (fun _ i _ => m - (intOf i).toNat)
    case atStart => exact ⟨0, _, Nat.zero_le _, rfl, HS⟩
    case round =>
      clear HS p1
      obtain ⟨k, vF, hk, rfl, HS⟩ := hrel
      obtain ⟨AF, cF, rfl, _⟩ := HS.out.form 0 rfl
      obtain ⟨AI, cI, rfl, _⟩ := HS.out.form 2 rfl
      by_cases hlt : k < m
      · obtain ⟨b, o, rfl, _, hc⟩ := HF.out.fibs.at_ hlt
        obtain ⟨f, hfk⟩ := get_of (k := k) hlf hlt
        have f0 := bl_cell HS.out.bl (hc k f hfk 0 _ rfl)
        have f1 := bl_cell HS.out.bl (hc k f hfk 1 _ rfl)
        have f2 := bl_cell HS.out.bl (hc k f hfk 2 _ rfl)
        have f3 := bl_cell HS.out.bl (hc k f hfk 3 _ rfl)
        simp only [elFib, Nat.add_zero] at f0 f1 f2 f3
        have hS1 := HS.out.blk_ wr.heap.size rfl 62 #[.int .i64 f.a, .int .i64 f.b, .int .i64 f.len, .int .i64 f.risk]
        have hll := fibsTo_len fs (keepF l) k
        have hli := idsTo_len (keepF l) k
        have hp : Hid (keepF l k = !hasB l (k : Int)) := rfl
        clear hc
        go_wp2_with fail
        refine (containsI_any (k : Int) _ (HV.out.grow hS1.bl) (by unfold maxLen; omega)).mono ?_
        rintro e w5 ⟨rfl, rfl⟩
        cases gk : hasB l (k : Int)
        · have HN1 : Hid (fibsTo fs (keepF l) (k + 1) = fibsTo fs (keepF l) k ++ [f]) := fibsTo_yes (by rw [hp.out, gk]; rfl) hfk
          have HN2 : Hid (idsTo (keepF l) (k + 1) = idsTo (keepF l) k ++ [(k : Int)]) := idsTo_yes (by rw [hp.out, gk]; rfl)
          have p1 := hS1.cell 2 1 rfl rfl
          have hS2 := hS1.blk_ (wr.heap.size + 1) (by simp) 62 #[.int .i64 f.a, .int .i64 f.b, .int .i64 f.len, .int .i64 f.risk]
          have HS2 := hid hS2
          clear hp hfk hS1 hS2 HS
          go_wp2_with (first
            | (at_builtin; refine wpList_append_led rfl _ _ 25 rfl HS2.out 2 rfl Try.underlying25 hj hy0 hy1 (by rw [hy2]; decide) rfl rfl rfl (show Sees elFib _ _ _ 1 [f] from sees_new elFib _ f _ _ (by simp)) (by omega) HS2.out.bl.size ?_)
            | go_in)
          intro A1 c1 w6 hS3
          have hS4 := hid (hS3.blk_ w6.heap.size rfl 3 #[.int .i64 k])
          have p2 := hS4.out.cell 4 1 rfl rfl
          clear HS2 hS3 f0 f1 f2 f3 p1
          go_wp2_with (first
            | (at_builtin; refine wpList_append_led rfl _ _ 33 rfl hS4.out 5 rfl Try.underlying33 hi hz0 hz1 (by rw [hz2]; decide) rfl rfl rfl (show Sees elInt _ _ _ 1 [(k : Int)] from sees_new elInt _ _ _ _ rfl) (by omega) hS4.out.bl.size ?_)
            | go_in)
          intro A2 c2 w7 hS5
          have p1 := hS5.cell 4 1 rfl rfl
          have z1 := hS5.frozen 4 1 rfl
          have hS6 := hid ((hS5.set 4 rfl 1 (.slice A1 ((fibsTo fs (keepF l) k).length + 1) c1)).drop 3)
          clear hS4 hS5 p2
          go_wp2
          go_roundw
          case rel => exact ⟨k + 1, _, by omega, by go_num, by rw [HN1.out, HN2.out]; exact hS6⟩
          case measure => simp [intOf]; omega
        · have HN1 : Hid (fibsTo fs (keepF l) (k + 1) = fibsTo fs (keepF l) k) := fibsTo_no (by rw [hp.out, gk]; rfl)
          have HN2 : Hid (idsTo (keepF l) (k + 1) = idsTo (keepF l) k) := idsTo_no (by rw [hp.out, gk]; rfl)
          have HS6 := hid (hS1.drop 1)
          clear hp hfk hS1 HS
          go_wp2
          exact ⟨⟨k + 1, _, by omega, by go_num, by rw [HN1.out, HN2.out]; exact HS6⟩, by simp [intOf]; omega⟩
      · have hkm : m = k := by omega
        subst hkm
        have p0 := HS.out.cell 1 0 rfl rfl
        have p1 := HS.out.cell 1 1 rfl rfl
        have q0 := HS.out.cell 4 0 rfl rfl
        have q1 := HS.out.cell 4 1 rfl rfl
        have z0 := HS.out.frozen 4 0 rfl
        have z1 := HS.out.frozen 4 1 rfl
        have HE := hid ((HS.out.set 4 rfl 0 (.slice A4 n c4)).set 4 rfl 1 (.slice AF (fibsTo fs (keepF l) m).length cF))
        clear hlt HS
        go_wp2
        exact bodyPost_ret (v := .tuple #[.agg #[.slice A4 n c4, .slice AF (fibsTo fs (keepF l) m).length cF], .slice AI (idsTo (keepF l) m).length cI, .bool true]) (by simp [results, Try.results51, go_sem, q0, q1]) rfl
          ⟨_, _, _, _, _, by rw [hlx], by rw [hlx]; exact HE.out.netOwn 3 0 rfl rfl hlx.symm rfl, HE.out.own 2 rfl, HE.out.bl⟩
/-- append onto a new row, of all that is seen. -/
theorem rf_reject (w : World) : NetOwn w w.heap.size none 0 0 none 0 0 [] [] := ⟨Nat.le_refl _, by decide, Nat.le_refl _, by decide, rfl, rfl, World.ownsRow_nil _ _ _ _, World.ownsRow_nil _ _ _ _⟩
end
end Go.Proofs.Ytfepilpllfiegaa
/- The risk groups part the fibers, and a fiber that is added can be removed again, in plain Lean. Conditions: as each states. -/
namespace Go.Proofs.Ytfepilpllfiegaa
open Go.RowKit
section
variable {xs : List ByteArray} {fs : List Fib} {f : Fib}
theorem rkRow_risk {t : Nat} {x : Int} (h : x ∈ rkRow fs t) : ∃ j : Nat, x = (j : Int) ∧ riskF fs j = (t : Int) + 1 := by
  unfold rkRow at h
  obtain ⟨j, _, h2, rfl⟩ := mem_idsTo.1 h
  exact ⟨j, rfl, by simpa using h2⟩
/-- No fiber is in two groups. -/
theorem groups_apart : (groupsL fs).Pairwise (fun r s => ∀ x ∈ r, ∀ y ∈ s, x ≠ y) := by
  unfold groupsL
  rw [List.pairwise_append]
  refine ⟨?_, ?_, ?_⟩
  · unfold rkTo
    refine List.Pairwise.filter _ ?_
    rw [List.pairwise_map]
    refine List.pairwise_lt_range.imp fun {a b} hab x hx y hy e => ?_
    obtain ⟨j, rfl, h1⟩ := rkRow_risk hx
    obtain ⟨k, rfl, h2⟩ := rkRow_risk hy
    obtain rfl : j = k := by omega
    omega
  · unfold zrTo
    rw [List.pairwise_map]
    refine (ids_asc _ _).imp fun {a b} hab x hx y hy e => ?_
    simp at hx hy
    omega
  · intro r hr s hs x hx y hy e
    obtain ⟨⟨t, _, rfl⟩, _⟩ := rkTo_mem.1 hr
    obtain ⟨k, _, h2, rfl⟩ := zrTo_mem.1 hs
    obtain ⟨j, rfl, h1⟩ := rkRow_risk hx
    simp at hy
    obtain rfl : j = k := by omega
    omega
theorem group_asc {r : List Int} (h : r ∈ groupsL fs) : r.Pairwise (· < ·) := by
  unfold groupsL at h
  rcases List.mem_append.1 h with h | h
  · obtain ⟨⟨t, _, rfl⟩, _⟩ := rkTo_mem.1 h
    exact ids_asc _ _
  · obtain ⟨k, _, _, rfl⟩ := zrTo_mem.1 h
    simp
theorem groups_nodup : (groupsL fs).flatten.Nodup := by
  unfold List.Nodup
  rw [List.pairwise_flatten]
  exact ⟨fun r hr => (group_asc hr).imp fun h => by omega, groups_apart⟩
theorem ids_all (m : Nat) : (idsTo (fun _ => true) m).length = m := by
  unfold idsTo
  rw [List.length_map, List.filter_eq_self.2 (fun _ _ => rfl), List.length_range]
theorem groups_count (hg : goodB xs fs = true) : (groupsL fs).flatten.length = fs.length := by
  have h1 := nodup_le (m := idsTo (fun _ => true) fs.length) (groups_nodup (fs := fs)) (fun x hx => by
    obtain ⟨r, hr, hx⟩ := List.mem_flatten.1 hx
    have := groupsL_range hr x hx
    exact mem_idsTo.2 ⟨x.toNat, by omega, rfl, by omega⟩)
  have h2 := nodup_le (l := idsTo (fun _ => true) fs.length) (m := (groupsL fs).flatten) ((ids_asc _ _).imp fun h => by omega) (fun x hx => by
    obtain ⟨j, hj, _, rfl⟩ := mem_idsTo.1 hx
    exact List.mem_flatten.2 ⟨_, groupL_in hg hj, groupL_self hj⟩)
  rw [ids_all] at h1 h2
  omega
/-- A fiber of a group has not been seen before. -/
theorem seen_new {rows : List (List Int)} (h : rows.flatten.Nodup) {i k : Nat} {r : List Int} {x : Int} (hr : rows[i]? = some r) (hx : r[k]? = some x) : ¬ x ∈ (rows.take i).flatten ++ r.take k := by
  have hi := (List.getElem?_eq_some_iff.1 hr).1
  have hk := (List.getElem?_eq_some_iff.1 hx).1
  have e1 : rows = rows.take i ++ r :: rows.drop (i + 1) := by
    have := List.getElem_cons_drop hi
    rw [(List.getElem?_eq_some_iff.1 hr).2] at this
    rw [this, List.take_append_drop]
  have e2 : r = r.take k ++ x :: r.drop (k + 1) := by
    have := List.getElem_cons_drop hk
    rw [(List.getElem?_eq_some_iff.1 hx).2] at this
    rw [this, List.take_append_drop]
  rw [e1, List.flatten_append, List.flatten_cons] at h
  rw [e2] at h
  intro hm
  have h2 : ((rows.take i).flatten ++ r.take k ++ x :: (r.drop (k + 1) ++ (rows.drop (i + 1)).flatten)).Nodup := by
    simpa [List.append_assoc] using h
  rw [List.nodup_append] at h2
  exact h2.2.2 x hm x List.mem_cons_self rfl
theorem seen_next {rows : List (List Int)} {i : Nat} {r : List Int} (hr : rows[i]? = some r) : (rows.take (i + 1)).flatten = (rows.take i).flatten ++ r := by
  rw [List.take_add_one, hr]
  simp
/-- Behind removing what was added the fibers are as they were. -/
theorem ins_back : ∀ k, k ≤ fs.length → fibsTo (insF fs f) (keepF [(atF fs f : Int)]) (k + 1) = if k < atF fs f then fs.take (k + 1) else fs.take k := by
  have hk1 : ∀ k, keepF [(atF fs f : Int)] k = decide (k ≠ atF fs f) := fun k => by
    unfold keepF
    rw [Bool.eq_iff_iff, Bool.not_eq_true', Bool.eq_false_iff, ne_eq, hasB_iff, decide_eq_true_eq]
    simp
    constructor
    · intro h e; exact h (by omega)
    · intro h e; exact h (by omega)
  have hle := atF_le (fs := fs) (f := f)
  have hln := insF_len (fs := fs) (f := f)
  have lo : ∀ k, k < atF fs f → (insF fs f)[k]? = fs[k]? := fun k hk => by
    unfold insF
    rw [List.getElem?_append_left (by rw [List.length_take]; omega), List.getElem?_take_of_lt hk]
  have hi : ∀ k, atF fs f ≤ k → (insF fs f)[k + 1]? = fs[k]? := fun k hk => by
    unfold insF
    rw [List.getElem?_append_right (by rw [List.length_take]; omega), List.length_take, Nat.min_eq_left hle, show k + 1 - atF fs f = (k - atF fs f) + 1 by omega, List.getElem?_cons_succ, List.getElem?_drop]
    congr 1
    omega
  intro k
  induction k with
  | zero =>
    intro _
    by_cases h0 : 0 < atF fs f
    · rw [if_pos h0]
      obtain ⟨g, hg⟩ := get_of (k := 0) (l := fs) rfl (by omega)
      rw [fibsTo_yes (f := g) (by rw [hk1]; exact decide_eq_true (by omega)) (by rw [lo 0 h0, hg]), fibsTo_zero, List.take_add_one, hg]
      rfl
    · rw [if_neg h0, fibsTo_no (by rw [hk1]; exact decide_eq_false (by omega)), fibsTo_zero]; rfl
  | succ k ih =>
    intro hk
    have ih := ih (by omega)
    rcases Nat.lt_trichotomy (k + 1) (atF fs f) with h1 | h1 | h1
    · rw [if_pos (by omega)] at ih
      rw [if_pos h1]
      obtain ⟨g, hg⟩ := get_of (k := k + 1) (l := fs) rfl (by omega)
      rw [fibsTo_yes (f := g) (by rw [hk1]; exact decide_eq_true (by omega)) (by rw [lo _ h1, hg]), ih, List.take_add_one (i := k + 1), hg]
      rfl
    · rw [if_pos (by omega)] at ih
      rw [if_neg (by omega), fibsTo_no (by rw [hk1]; exact decide_eq_false (by omega)), ih]
    · rw [if_neg (by omega)] at ih
      rw [if_neg (by omega)]
      obtain ⟨g, hg⟩ := get_of (k := k) (l := fs) rfl (by omega)
      rw [fibsTo_yes (f := g) (by rw [hk1]; exact decide_eq_true (by omega)) (by rw [hi k (by omega), hg]), ih, List.take_add_one, hg]
      rfl
theorem rf_back (h : addB xs fs f = true) : rfB xs (insF fs f) [(atF fs f : Int)] = true ∧ rfX xs (insF fs f) [(atF fs f : Int)] = xs ∧ rfF xs (insF fs f) [(atF fs f : Int)] = fs ∧ (rfI xs (insF fs f) [(atF fs f : Int)]).length = fs.length := by
  have h2 := h
  rw [addB_eq, Bool.and_eq_true] at h2
  have hle := atF_le (fs := fs) (f := f)
  have hln := insF_len (fs := fs) (f := f)
  have hb : rfB xs (insF fs f) [(atF fs f : Int)] = true := by
    unfold rfB
    rw [h2.2, Bool.true_and]
    exact asc_ris (by simp) (fun x hx => by simp at hx; subst hx; omega)
  have hF : fibsTo (insF fs f) (keepF [(atF fs f : Int)]) (insF fs f).length = fs := by
    rw [hln, ins_back fs.length (Nat.le_refl _), if_neg (by omega), List.take_length]
  refine ⟨hb, by unfold rfX; rw [if_pos hb], by unfold rfF; rw [if_pos hb]; exact hF, ?_⟩
  unfold rfI
  rw [if_pos hb]
  have := congrArg List.length hF
  unfold fibsTo at this
  unfold idsTo
  rw [List.length_map] at this ⊢
  exact this
end
end Go.Proofs.Ytfepilpllfiegaa
