/- Lemmas and walks that the claim rests on, laid together. Conditions: none. -/
import Derived.Test.YtgoegldffjfmdaaZb38055219eae
import Derived.Deep.RegionHeld
import Derived.Below
import Derived.Test.YtgoegldffjfmdaaZf43060b4b883
import Derived.BigQuiet
import Derived.Deep.RegionWith
import Derived.Deep.LoopGhost
import Derived.Test.YtgoegldffjfmdaaZ495155223ae4
import Derived.Deep.RegionHeld3
import Derived.Test.YtgoegldffjfmdaaRows
/- Rows of routes in the ledger: equal, marked, held. Conditions: at most 1048576 routes and fibers of a route; marks below 2^40. -/
namespace Go.Proofs.Ytgoegldffjfmdaa
open Go.RowKit
theorem rsS_eq {v : Value} {ss tt : List (Int × Sl)} (h : tt.map (·.2) = ss.map (·.2)) : rsS v tt = rsS v ss := by
  funext b
  apply propext
  unfold rsS
  constructor
  · rintro (e | ⟨i, t, ht, e⟩)
    · exact .inl e
    · obtain ⟨s, hs, h2⟩ := snd_of h ht
      exact .inr ⟨i, s, hs, by rw [h2]; exact e⟩
  · rintro (e | ⟨i, t, ht, e⟩)
    · exact .inl e
    · obtain ⟨s, hs, h2⟩ := snd_of h.symm ht
      exact .inr ⟨i, s, hs, by rw [h2]; exact e⟩
variable {w0 w : World} {L : List Thing} {base base' n c c' : Nat} {A A' : Option Addr} {ss ss' : List (Int × Sl)} {rows : List (Int × List Int)}
theorem markRS_led (h : Led w0 w L) (i : Nat) (hi : L[i]? = some (tRS base (.slice A n c) ss rows)) (k : Int) (hsn : ss.length = n) (hn : n ≤ 1048576) (hr : ∀ r ∈ rows, r.2.length ≤ 1048576) (hk0 : 0 ≤ k) (hk : offR k rows n ≤ 1099511627776) :
    Calls Try.prog 31 #[.slice A n c, .int .i64 k] w fun e w' => e = .returned (.int .i64 (offR k rows n)) ∧ ∃ tt, tt.length = n ∧ Led w0 w' (L.set i (tRS base (.slice A n c) tt (marksRS k rows))) :=
  (markRouteS_any k w (h.get i hi) hsn hn hr hk0 hk).mono fun _ _ ⟨he, ⟨tt, htt, ho⟩, ht⟩ => ⟨he, tt, by have := congrArg List.length htt; simp at this; omega, h.touch i hi (rsS_eq htt) ht ho⟩
theorem rs_n (h : Led w0 w L) (i : Nat) (hi : L[i]? = some (tRS base (.slice A n c) ss rows)) : ss.length = n := by
  have h1 : OwnsRS w base _ ss rows := h.get i hi
  obtain ⟨A', c', hv, _⟩ := h1.1.form
  injection hv with _ e2
  exact e2.symm
theorem rs_rows (h : Led w0 w L) (i : Nat) (hi : L[i]? = some (tRS base (.slice A n c) ss rows)) : rows.length = n := by
  have h1 : OwnsRS w base _ ss rows := h.get i hi
  rw [← h1.2.1]
  exact rs_n h i hi
theorem eqRS_led2 (h : Led w0 w L) (i j : Nat) (hi : L[i]? = some (tRS base (.slice A n c) ss rows)) (hj : L[j]? = some (tRS base' (.slice A' n c') ss' rows)) (hn : n ≤ 1048576) (hr : ∀ r ∈ rows, r.2.length ≤ 1048576) :
    Calls Try.prog 30 #[.slice A n c, .slice A' n c'] w fun e w' => e = .returned (.bool true) ∧ Led w0 w' L ∧ Below w.heap.size w w' := by
  have h1 := OwnsRS.sees (h.get i hi)
  have h2 := OwnsRS.sees (h.get j hj)
  rw [rs_n h i hi] at h1
  rw [rs_n h j hj] at h2
  exact (eqRouteS_any w h1 h2 hn hr).mono fun _ _ ⟨he, hw⟩ => ⟨he, h.step hw, hw⟩
theorem eqRS_led (h : Led w0 w L) (i j : Nat) (hi : L[i]? = some (tRS base (.slice A n c) ss rows)) (hj : L[j]? = some (tRS base' (.slice A' n c') ss' rows)) (hn : n ≤ 1048576) (hr : ∀ r ∈ rows, r.2.length ≤ 1048576) :
    Calls Try.prog 30 #[.slice A n c, .slice A' n c'] w fun e w' => e = .returned (.bool true) ∧ Led w0 w' L :=
  (eqRS_led2 h i j hi hj hn hr).mono fun _ _ ⟨he, hw, _⟩ => ⟨he, hw⟩
end Go.Proofs.Ytgoegldffjfmdaa
/- Distances by relaxing along fibers: as many rounds as there are nodes suffice. Plain Lean. Conditions: the fibers' ends are nodes, lengths are positive. -/
namespace Go.Proofs.Ytgoegldffjfmdaa
/-- x is as good a distance as y; what is below 0 is none. -/
def better (x y : Int) : Prop := y < 0 ∨ (0 ≤ x ∧ x ≤ y)
theorem better_refl (x : Int) : better x x := by unfold better; omega
theorem better_trans {x y z : Int} (h : better x y) (k : better y z) : better x z := by unfold better at *; omega
/-- May v be reached better by way of u? -/
def canB (u v : Nat) (l : Int) (D : List Int) : Bool := decide (0 ≤ valL D u) && (decide (valL D v < 0) || decide (valL D u + l < valL D v))
def relax (u v : Nat) (l : Int) (D : List Int) : List Int := if canB u v l D then D.set v (valL D u + l) else D
/-- Each fiber there and back. -/
def arcU (fs : List Fib) (j : Nat) : Nat := if j % 2 = 0 then (fibD fs (j / 2)).a.toNat else (fibD fs (j / 2)).b.toNat
def arcV (fs : List Fib) (j : Nat) : Nat := if j % 2 = 0 then (fibD fs (j / 2)).b.toNat else (fibD fs (j / 2)).a.toNat
def arcLn (fs : List Fib) (j : Nat) : Int := (fibD fs (j / 2)).len
def dstTo (q : Nat → Bool) (fs : List Fib) (D : List Int) : Nat → List Int
  | 0 => D
  | j + 1 => if q (j / 2) then dstTo q fs D j else relax (arcU fs j) (arcV fs j) (arcLn fs j) (dstTo q fs D j)
theorem dstTo_succ (q : Nat → Bool) (fs : List Fib) (D : List Int) (j : Nat) : dstTo q fs D (j + 1) = if q (j / 2) then dstTo q fs D j else relax (arcU fs j) (arcV fs j) (arcLn fs j) (dstTo q fs D j) := rfl
theorem dstTo_no {q : Nat → Bool} {fs : List Fib} {D : List Int} {j : Nat} (h : q (j / 2) = false) : dstTo q fs D (j + 1) = relax (arcU fs j) (arcV fs j) (arcLn fs j) (dstTo q fs D j) := by rw [dstTo_succ, h]; rfl
def dstPass (q : Nat → Bool) (fs : List Fib) (D : List Int) : List Int := dstTo q fs D (2 * fs.length)
def dst0 (n s : Nat) : List Int := (List.replicate n (-1)).set s 0
def dstRnd (q : Nat → Bool) (fs : List Fib) (n s : Nat) : Nat → List Int
  | 0 => dst0 n s
  | k + 1 => dstPass q fs (dstRnd q fs n s k)
/-- The distances from s; -1 where there is no way. -/
def distL (q : Nat → Bool) (fs : List Fib) (n s : Nat) : List Int := dstRnd q fs n s n
/-- Lengths are positive. -/
def lensB (fs : List Fib) : Prop := ∀ i, i < fs.length → 1 ≤ (fibD fs i).len
section
variable {q : Nat → Bool} {fs : List Fib} {n s : Nat}
theorem arc_in (he : endsB n fs) {j : Nat} (hj : j < 2 * fs.length) : arcU fs j < n ∧ arcV fs j < n ∧ arcU fs j ≠ arcV fs j := by
  obtain ⟨h0, h1, h2⟩ := he (j / 2) (by omega)
  unfold arcU arcV
  split <;> omega
theorem arc_len (hl : lensB fs) {j : Nat} (hj : j < 2 * fs.length) : 1 ≤ arcLn fs j := hl _ (by omega)
theorem relax_len (u v : Nat) (l : Int) (D : List Int) : (relax u v l D).length = D.length := by unfold relax; split <;> simp
theorem relax_val {u v w : Nat} {l : Int} {D : List Int} (hv : v < D.length) : valL (relax u v l D) w = if w = v ∧ canB u v l D = true then valL D u + l else valL D w := by
  unfold relax
  cases h : canB u v l D
  · simp
  · simp only [if_true]
    rw [valL_set hv]
    by_cases e : w = v
    · simp [e]
    · simp [e]
theorem canB_iff {u v : Nat} {l : Int} {D : List Int} : canB u v l D = true ↔ 0 ≤ valL D u ∧ (valL D v < 0 ∨ valL D u + l < valL D v) := by
  unfold canB; simp
theorem dstTo_len (D : List Int) (j : Nat) : (dstTo q fs D j).length = D.length := by
  induction j with
  | zero => rfl
  | succ j ih => rw [dstTo_succ]; split; exact ih; rw [relax_len]; exact ih
theorem dst0_len : (dst0 n s).length = n := by simp [dst0]
theorem dstRnd_len (k : Nat) : (dstRnd q fs n s k).length = n := by
  induction k with
  | zero => exact dst0_len
  | succ k ih => show (dstPass q fs (dstRnd q fs n s k)).length = n; unfold dstPass; rw [dstTo_len]; exact ih
theorem distL_len : (distL q fs n s).length = n := dstRnd_len n
theorem dstTo_step {D : List Int} (hD : D.length = n) (he : endsB n fs) (hl : lensB fs) {j : Nat} (hj : j < 2 * fs.length) (w : Nat) : better (valL (dstTo q fs D (j + 1)) w) (valL (dstTo q fs D j) w) := by
  rw [dstTo_succ]
  split
  · exact better_refl _
  · obtain ⟨hu, hv, _⟩ := arc_in he hj
    have := arc_len hl hj
    rw [relax_val (by rw [dstTo_len, hD]; exact hv)]
    split
    · rename_i h
      have h2 := canB_iff.1 h.2
      rw [h.1]
      unfold better; omega
    · exact better_refl _
theorem dstTo_mono {D : List Int} (hD : D.length = n) (he : endsB n fs) (hl : lensB fs) {i j : Nat} (hij : i ≤ j) (hj : j ≤ 2 * fs.length) (w : Nat) : better (valL (dstTo q fs D j) w) (valL (dstTo q fs D i) w) := by
  induction j with
  | zero => rw [show i = 0 by omega]; exact better_refl _
  | succ j ih =>
    rcases Nat.lt_or_ge i (j + 1) with h | h
    · exact better_trans (dstTo_step hD he hl (by omega) w) (ih (by omega) (by omega))
    · rw [show i = j + 1 by omega]; exact better_refl _
theorem dstPass_better {D : List Int} (hD : D.length = n) (he : endsB n fs) (hl : lensB fs) (w : Nat) : better (valL (dstPass q fs D) w) (valL D w) := dstTo_mono hD he hl (Nat.zero_le _) (Nat.le_refl _) w
theorem dstPass_arc {D : List Int} (hD : D.length = n) (he : endsB n fs) (hl : lensB fs) {j : Nat} (hj : j < 2 * fs.length) (hq : q (j / 2) = false) (hu : 0 ≤ valL D (arcU fs j)) :
    0 ≤ valL (dstPass q fs D) (arcV fs j) ∧ valL (dstPass q fs D) (arcV fs j) ≤ valL D (arcU fs j) + arcLn fs j := by
  have h1 := dstTo_mono (q := q) hD he hl (Nat.zero_le j) (Nat.le_of_lt hj) (arcU fs j)
  have h2 := dstTo_mono (q := q) hD he hl (show j + 1 ≤ 2 * fs.length from hj) (Nat.le_refl _) (arcV fs j)
  have e0 : dstTo q fs D 0 = D := rfl
  rw [e0] at h1
  obtain ⟨hu', hv', _⟩ := arc_in he hj
  have hl1 := arc_len hl hj
  have h3 : valL (dstTo q fs D (j + 1)) (arcV fs j) = if arcV fs j = arcV fs j ∧ canB (arcU fs j) (arcV fs j) (arcLn fs j) (dstTo q fs D j) = true then valL (dstTo q fs D j) (arcU fs j) + arcLn fs j else valL (dstTo q fs D j) (arcV fs j) := by
    rw [dstTo_no hq]; exact relax_val (by rw [dstTo_len, hD]; exact hv')
  have h4 : 0 ≤ valL (dstTo q fs D (j + 1)) (arcV fs j) ∧ valL (dstTo q fs D (j + 1)) (arcV fs j) ≤ valL (dstTo q fs D j) (arcU fs j) + arcLn fs j := by
    rw [h3]
    unfold better at h1
    split
    · omega
    · rename_i h
      have hc : ¬ (canB (arcU fs j) (arcV fs j) (arcLn fs j) (dstTo q fs D j) = true) := fun hc => h ⟨rfl, hc⟩
      rw [canB_iff] at hc
      omega
  unfold dstPass
  unfold better at h1 h2
  omega
/-- Some arc leads to a distance of c at most that is better than what is known. -/
def impP (q : Nat → Bool) (fs : List Fib) (D : List Int) (c : Int) : Prop := ∃ j, j < 2 * fs.length ∧ q (j / 2) = false ∧ canB (arcU fs j) (arcV fs j) (arcLn fs j) D = true ∧ valL D (arcU fs j) + arcLn fs j ≤ c
theorem dstTo_stay {D : List Int} (hD : D.length = n) (he : endsB n fs) (hl : lensB fs) {c : Int} (hc : ¬ impP q fs D c) {j : Nat} (hj : j ≤ 2 * fs.length) :
    ∀ w, (0 ≤ valL D w → valL D w ≤ c → valL (dstTo q fs D j) w = valL D w) ∧ (0 ≤ valL (dstTo q fs D j) w → valL (dstTo q fs D j) w ≤ c → valL D w = valL (dstTo q fs D j) w) := by
  induction j with
  | zero => exact fun w => ⟨fun _ _ => rfl, fun _ _ => rfl⟩
  | succ j ih =>
    have ih := ih (by omega)
    intro w
    rw [dstTo_succ]
    cases hq : q (j / 2)
    · simp only [Bool.false_eq_true, if_false]
      obtain ⟨hu, hv, _⟩ := arc_in he (j := j) (by omega)
      have hl1 := arc_len hl (j := j) (by omega)
      rw [relax_val (by rw [dstTo_len, hD]; exact hv)]
      by_cases h : w = arcV fs j ∧ canB (arcU fs j) (arcV fs j) (arcLn fs j) (dstTo q fs D j) = true
      · rw [if_pos h]
        obtain ⟨hw, hcan⟩ := h
        have hcan' := canB_iff.1 hcan
        have iu := ih (arcU fs j)
        have iv := ih (arcV fs j)
        rw [← hw] at iv hcan'
        have key : ¬ (valL (dstTo q fs D j) (arcU fs j) + arcLn fs j ≤ c) := by
          intro hle
          have e1 := iu.2 hcan'.1 (by omega)
          have hno : ¬ (canB (arcU fs j) (arcV fs j) (arcLn fs j) D = true) := fun hx => hc ⟨j, by omega, hq, hx, by omega⟩
          rw [canB_iff, ← hw] at hno
          have := iv.1
          omega
        constructor
        · intro a1 a2
          have := iv.1 a1 a2
          omega
        · intro a1 a2; omega
      · rw [if_neg h]; exact ih w
    · simp only [if_true]; exact ih w
theorem dstPass_stay {D : List Int} (hD : D.length = n) (he : endsB n fs) (hl : lensB fs) {c : Int} (hc : ¬ impP q fs D c) (w : Nat) :
    (0 ≤ valL D w → valL D w ≤ c → valL (dstPass q fs D) w = valL D w) ∧ (0 ≤ valL (dstPass q fs D) w → valL (dstPass q fs D) w ≤ c → valL D w = valL (dstPass q fs D) w) := dstTo_stay hD he hl hc (Nat.le_refl _) w
theorem least_of {p : Nat → Prop} (h : ∃ k, p k) : ∃ k, p k ∧ ∀ j, j < k → ¬ p j := by
  obtain ⟨k, hk⟩ := h
  induction k using Nat.strongRecOn with
  | _ k ih =>
    rcases Classical.em (∃ j, j < k ∧ p j) with ⟨j, hj, hp⟩ | hno
    · exact ih j hj hp
    · exact ⟨k, hk, fun j hj hp => hno ⟨j, hj, hp⟩⟩
/-- How many nodes have a distance of c at most. -/
def cntD (n : Nat) (D : List Int) (c : Int) : Nat := (List.range n).countP fun v => decide (0 ≤ valL D v) && decide (valL D v ≤ c)
theorem val_repl (n v : Nat) : valL (List.replicate n (-1)) v = if v < n then -1 else 0 := by
  unfold valL
  by_cases h : v < n
  · rw [if_pos h]; simp [h]
  · rw [if_neg h]; simp [h]
theorem dst0_val (hs : s < n) (v : Nat) (hv : v < n) : valL (dst0 n s) v = if v = s then 0 else -1 := by
  unfold dst0
  rw [valL_set (by simp; exact hs), val_repl, if_pos hv]
/-- No arc leads on to a better distance. -/
def dstFix (q : Nat → Bool) (fs : List Fib) (D : List Int) : Prop := ∀ c, ¬ impP q fs D c
theorem dstFix_pass {D : List Int} (hD : D.length = n) (he : endsB n fs) (hl : lensB fs) (h : dstFix q fs D) : dstPass q fs D = D := by
  refine valL_ext (by unfold dstPass; rw [dstTo_len]) (fun v => ?_)
  have h1 := dstPass_stay hD he hl (h (valL D v)) v
  have h2 := dstPass_stay hD he hl (h (valL (dstPass q fs D) v)) v
  have h3 := dstPass_better (q := q) hD he hl v
  by_cases a : 0 ≤ valL D v
  · exact h1.1 a (Int.le_refl _)
  · by_cases b : 0 ≤ valL (dstPass q fs D) v
    · exact (h2.2 b (Int.le_refl _)).symm
    · -- both are none: no step has turned it
      suffices hh : ∀ j, j ≤ 2 * fs.length → valL (dstTo q fs D j) v = valL D v from hh _ (Nat.le_refl _)
      intro j
      induction j with
      | zero => intro _; rfl
      | succ j ih =>
        intro hj
        have ih := ih (by omega)
        have hmono := dstTo_mono (q := q) hD he hl hj (Nat.le_refl _) v
        unfold dstPass at b
        rw [dstTo_succ]
        cases hq : q (j / 2)
        · simp only [Bool.false_eq_true, if_false]
          obtain ⟨hu, hv, _⟩ := arc_in he (j := j) (by omega)
          have hl1 := arc_len hl (j := j) (by omega)
          have hval : valL (dstTo q fs D (j + 1)) v = if v = arcV fs j ∧ canB (arcU fs j) (arcV fs j) (arcLn fs j) (dstTo q fs D j) = true then valL (dstTo q fs D j) (arcU fs j) + arcLn fs j else valL (dstTo q fs D j) v := by
            rw [dstTo_no hq]; exact relax_val (by rw [dstTo_len, hD]; exact hv)
          rw [relax_val (by rw [dstTo_len, hD]; exact hv)]
          split
          · rename_i hx
            rw [if_pos hx] at hval
            have := (canB_iff.1 hx.2).1
            unfold better at hmono
            omega
          · exact ih
        · simp only [if_true]; exact ih
theorem dst_or (he : endsB n fs) (hl : lensB fs) (hs : s < n) (k : Nat) :
    dstFix q fs (dstRnd q fs n s k) ∨ ∃ c, ¬ impP q fs (dstRnd q fs n s k) c ∧ k + 1 ≤ cntD n (dstRnd q fs n s k) c := by
  induction k with
  | zero =>
    right
    refine ⟨0, ?_, ?_⟩
    · rintro ⟨j, hj, hq, hc, hle⟩
      have := arc_len hl hj
      have := (canB_iff.1 hc).1
      omega
    · show 0 < cntD n (dst0 n s) 0
      unfold cntD
      rw [List.countP_pos_iff]
      exact ⟨s, by simpa using hs, by rw [dst0_val hs s hs]; simp⟩
  | succ k ih =>
    have hD : (dstRnd q fs n s k).length = n := dstRnd_len k
    rcases Classical.em (dstFix q fs (dstRnd q fs n s k)) with hf | hf
    · left
      show dstFix q fs (dstPass q fs (dstRnd q fs n s k))
      rw [dstFix_pass hD he hl hf]; exact hf
    · right
      obtain ⟨c, hc, hk⟩ := ih.resolve_left hf
      have hex : ∃ t : Nat, impP q fs (dstRnd q fs n s k) (t : Int) := by
        have ⟨c', hc'⟩ : ∃ c', impP q fs (dstRnd q fs n s k) c' := Classical.byContradiction fun h => hf fun c' hc' => h ⟨c', hc'⟩
        obtain ⟨j, hj, hq, hcan, hle⟩ := hc'
        have := (canB_iff.1 hcan).1
        have := arc_len hl hj
        exact ⟨c'.toNat, j, hj, hq, hcan, by omega⟩
      obtain ⟨t, ht, hmin⟩ := least_of hex
      have hpos : 0 < t := by
        obtain ⟨j, hj, hq, hcan, hle⟩ := ht
        have := (canB_iff.1 hcan).1
        have := arc_len hl hj
        omega
      have hprev : ¬ impP q fs (dstRnd q fs n s k) ((t : Int) - 1) := by
        have := hmin (t - 1) (by omega)
        rwa [show ((t - 1 : Nat) : Int) = (t : Int) - 1 by omega] at this
      have hct : c < t := by
        apply Classical.byContradiction
        intro h
        obtain ⟨j, hj, hq, hcan, hle⟩ := ht
        exact hc ⟨j, hj, hq, hcan, by omega⟩
      have hstay := fun w => dstPass_stay hD he hl hprev w
      refine ⟨t, ?_, ?_⟩
      · rintro ⟨j, hj, hq, hcan, hle⟩
        have h1 := canB_iff.1 hcan
        have hl1 := arc_len hl hj
        change 0 ≤ valL (dstPass q fs (dstRnd q fs n s k)) _ ∧ (valL (dstPass q fs (dstRnd q fs n s k)) _ < 0 ∨ valL (dstPass q fs (dstRnd q fs n s k)) _ + _ < valL (dstPass q fs (dstRnd q fs n s k)) _) at h1
        change valL (dstPass q fs (dstRnd q fs n s k)) _ + _ ≤ _ at hle
        have h2 := (hstay (arcU fs j)).2 h1.1 (by omega)
        have h3 := dstPass_arc (q := q) hD he hl hj hq (by omega)
        omega
      · have hlt : cntD n (dstRnd q fs n s k) c < cntD n (dstRnd q fs n s (k + 1)) t := by
          refine countP_lt (fun v _ hv => ?_) ?_
          · simp only [Bool.and_eq_true, decide_eq_true_eq] at hv ⊢
            have := (hstay v).1 hv.1 (by omega)
            show 0 ≤ valL (dstPass q fs (dstRnd q fs n s k)) v ∧ valL (dstPass q fs (dstRnd q fs n s k)) v ≤ t
            omega
          · obtain ⟨j, hj, hq, hcan, hle⟩ := ht
            have h1 := canB_iff.1 hcan
            have hl1 := arc_len hl hj
            have h3 := dstPass_arc (q := q) hD he hl hj hq h1.1
            refine ⟨arcV fs j, by simpa using (arc_in he hj).2.1, ?_, ?_⟩
            · have hge : ¬ (valL (dstRnd q fs n s k) (arcU fs j) + arcLn fs j ≤ c) := fun h => hc ⟨j, hj, hq, hcan, h⟩
              have : ¬ (0 ≤ valL (dstRnd q fs n s k) (arcV fs j) ∧ valL (dstRnd q fs n s k) (arcV fs j) ≤ c) := by omega
              simpa using this
            · simp only [Bool.and_eq_true, decide_eq_true_eq]
              show 0 ≤ valL (dstPass q fs (dstRnd q fs n s k)) _ ∧ valL (dstPass q fs (dstRnd q fs n s k)) _ ≤ t
              omega
        omega
theorem distL_fixed (he : endsB n fs) (hl : lensB fs) (hs : s < n) : dstFix q fs (distL q fs n s) := by
  rcases dst_or (q := q) he hl hs n with h | ⟨c, _, h⟩
  · exact h
  · have : cntD n (dstRnd q fs n s n) c ≤ n := by unfold cntD; exact Nat.le_trans List.countP_le_length (by simp)
    omega
theorem distL_fix (he : endsB n fs) (hl : lensB fs) (hs : s < n) : dstPass q fs (distL q fs n s) = distL q fs n s := dstFix_pass distL_len he hl (distL_fixed he hl hs)
theorem dstRnd_stay {k : Nat} (h : dstRnd q fs n s (k + 1) = dstRnd q fs n s k) : ∀ j, k ≤ j → dstRnd q fs n s j = dstRnd q fs n s k := by
  intro j
  induction j with
  | zero => intro hk; rw [show k = 0 by omega]
  | succ j ih =>
    intro hk
    rcases Nat.lt_or_ge j k with h1 | h1
    · rw [show k = j + 1 by omega]
    · show dstPass q fs (dstRnd q fs n s j) = _
      rw [ih h1]; exact h
theorem dstRnd_done (he : endsB n fs) (hl : lensB fs) (hs : s < n) {k : Nat} (h : dstRnd q fs n s (k + 1) = dstRnd q fs n s k) : dstRnd q fs n s k = distL q fs n s := by
  rcases Nat.le_total k n with h1 | h1
  · exact (dstRnd_stay h n h1).symm
  · exact dstRnd_stay (distL_fix he hl hs) k h1
theorem dstRnd_late (he : endsB n fs) (hl : lensB fs) (hs : s < n) {k : Nat} (h : n ≤ k) : dstRnd q fs n s (k + 1) = dstRnd q fs n s k := by
  rw [dstRnd_stay (distL_fix (q := q) he hl hs) k h, dstRnd_stay (distL_fix (q := q) he hl hs) (k + 1) (by omega)]
/-- Has one of the first j arcs turned a distance? -/
def dchB (q : Nat → Bool) (fs : List Fib) (D : List Int) : Nat → Bool
  | 0 => false
  | j + 1 => dchB q fs D j || (!q (j / 2) && canB (arcU fs j) (arcV fs j) (arcLn fs j) (dstTo q fs D j))
theorem dchB_no {D : List Int} {j : Nat} (h : dchB q fs D j = false) : dstTo q fs D j = D := by
  induction j with
  | zero => rfl
  | succ j ih =>
    unfold dchB at h
    rw [Bool.or_eq_false_iff] at h
    have ih := ih h.1
    rw [dstTo_succ]
    cases hq : q (j / 2)
    · have h2 := h.2
      rw [hq] at h2
      simp only [Bool.false_eq_true, if_false]
      unfold relax
      rw [if_neg (by simpa using h2)]
      exact ih
    · simp only [if_true]; exact ih
theorem dchB_yes {D : List Int} (hD : D.length = n) (he : endsB n fs) (hl : lensB fs) {j : Nat} (hj : j ≤ 2 * fs.length) (h : dchB q fs D j = true) : dstPass q fs D ≠ D := by
  have ⟨i, hi, hq, hc⟩ : ∃ i, i < 2 * fs.length ∧ q (i / 2) = false ∧ canB (arcU fs i) (arcV fs i) (arcLn fs i) (dstTo q fs D i) = true := by
    induction j with
    | zero => cases h
    | succ j ih =>
      unfold dchB at h
      rcases Bool.or_eq_true_iff.1 h with h | h
      · exact ih (by omega) h
      · exact ⟨j, by omega, by simpa using (Bool.and_eq_true_iff.1 h).1, (Bool.and_eq_true_iff.1 h).2⟩
  intro hEq
  obtain ⟨hu, hv, _⟩ := arc_in he hi
  have hl1 := arc_len hl hi
  have h1 := canB_iff.1 hc
  have e : valL (dstTo q fs D (i + 1)) (arcV fs i) = valL (dstTo q fs D i) (arcU fs i) + arcLn fs i := by
    rw [dstTo_no hq, relax_val (by rw [dstTo_len, hD]; exact hv), if_pos ⟨rfl, hc⟩]
  have k1 := dstTo_mono (q := q) hD he hl (show i + 1 ≤ 2 * fs.length from hi) (Nat.le_refl _) (arcV fs i)
  have k2 := dstTo_mono (q := q) hD he hl (Nat.zero_le i) (Nat.le_of_lt hi) (arcV fs i)
  have e0 : dstTo q fs D 0 = D := rfl
  have em : dstTo q fs D (2 * fs.length) = D := hEq
  rw [e0] at k2
  rw [em, e] at k1
  unfold better at k1 k2
  omega
/-- All but the start lie away. -/
theorem dstRnd_pos (he : endsB n fs) (hl : lensB fs) (hs : s < n) (k : Nat) : ∀ v, v < n → (v = s → valL (dstRnd q fs n s k) v = 0) ∧ (v ≠ s → valL (dstRnd q fs n s k) v = -1 ∨ 1 ≤ valL (dstRnd q fs n s k) v) := by
  induction k with
  | zero =>
    intro v hv
    show (_ → valL (dst0 n s) v = 0) ∧ (_ → valL (dst0 n s) v = -1 ∨ _)
    rw [dst0_val hs v hv]
    exact ⟨fun h => if_pos h, fun h => .inl (if_neg h)⟩
  | succ k ih =>
    have hD : (dstRnd q fs n s k).length = n := dstRnd_len k
    suffices h : ∀ j, j ≤ 2 * fs.length → ∀ v, v < n → (v = s → valL (dstTo q fs (dstRnd q fs n s k) j) v = 0) ∧ (v ≠ s → valL (dstTo q fs (dstRnd q fs n s k) j) v = -1 ∨ 1 ≤ valL (dstTo q fs (dstRnd q fs n s k) j) v) from h _ (Nat.le_refl _)
    intro j
    induction j with
    | zero => exact fun _ => ih
    | succ j ih2 =>
      intro hj v hv
      have i2 := ih2 (by omega)
      rw [dstTo_succ]
      split
      · exact i2 v hv
      · obtain ⟨hu, hv', _⟩ := arc_in he (j := j) (by omega)
        have hl1 := arc_len hl (j := j) (by omega)
        rw [relax_val (by rw [dstTo_len, hD]; exact hv')]
        split
        · rename_i hx
          have hc := canB_iff.1 hx.2
          have := i2 v hv
          rw [← hx.1] at hc
          refine ⟨fun e => ?_, fun _ => .inr (by omega)⟩
          have := this.1 e
          omega
        · exact i2 v hv
theorem distL_pos (he : endsB n fs) (hl : lensB fs) (hs : s < n) {v : Nat} (hv : v < n) : (v = s → valL (distL q fs n s) v = 0) ∧ (v ≠ s → valL (distL q fs n s) v = -1 ∨ 1 ≤ valL (distL q fs n s) v) := dstRnd_pos he hl hs n v hv
end
end Go.Proofs.Ytgoegldffjfmdaa
/- A drawn region whose last operation may break the condition on the worlds: the store into a cell that the region loads. Conditions: as each states. -/
namespace Go.Proofs.Ytgoegldffjfmdaa
open Go.RowKit
section
variable {P : Program} {ops : Array Oper} {Q : Exit → Act → World → Prop} {md : Region.Mode} {S : World → Prop} {x : Nat}
/-- As 'wpAnyH', but behind operation x nothing is asked. -/
def wpAnyX (P : Program) (md : Region.Mode) (ops : Array Oper) (Q : Exit → Act → World → Prop) (S : World → Prop) (x : Nat) : Nat → Array Bool → Act → World → Prop
  | 0, listed, a, w => Region.ready md ops listed = [] ∧ Q .normal a w
  | fuel + 1, listed, a, w =>
    (Region.ready md ops listed = [] → Q .normal a w) ∧
    ∀ i ∈ Region.ready md ops listed, wpOp P ops Q i (fun a' w' => (i ≠ x → S w') ∧ wpAnyX P md ops Q S x fuel (listed.setIfInBounds i true) a' w') a w
theorem wpAny_of_X : ∀ (fuel : Nat) (listed : Array Bool) (a : Act) (w : World), wpAnyX P md ops Q S x fuel listed a w → wpAny P md ops Q fuel listed a w
  | 0, _, _, _, h => h
  | fuel + 1, _, _, _, h => ⟨h.1, fun i hi => wpOp_mono (fun a' w' h' => wpAny_of_X fuel _ a' w' h'.2) (h.2 i hi)⟩
/-- Operation x waits for operation i. -/
def waitsB (md : Region.Mode) (ops : Array Oper) (x i : Nat) : Bool := match ops[x]? with
  | some o => o.after.any (fun e => Region.binds md e && e.on == i)
  | none => true
theorem waits_not {listed : Array Bool} {i : Nat} (h : waitsB md ops x i = true) (hi : listed.getD i true = false) : x ∉ Region.ready md ops listed := by
  intro hx
  obtain ⟨_, o, ho, hall⟩ := mem_ready.1 hx
  unfold waitsB at h
  rw [ho] at h
  simp only [Array.any_eq_true'] at h
  obtain ⟨e, he, h2⟩ := h
  rw [Bool.and_eq_true, beq_iff_eq] at h2
  have h1 := hall e he h2.1
  rw [h2.2] at h1
  rcases Nat.lt_or_ge i listed.size with h' | h'
  · simp [h'] at hi h1; rw [hi] at h1; cases h1
  · simp [Array.getElem?_eq_none h'] at h1
theorem wpAnyX_first {i : Nat} {oi : Oper} {v : Value} (hi : ops[i]? = some oi) (hsel : ∀ (j : Nat) (o : Oper) cs b, ops[j]? = some o → o.op ≠ .select cs b)
    (hQ : ∀ c a w, Q (.panic c) (a.put oi.dst v) w → Q (.panic c) a w) (hx : waitsB md ops x i = true) :
    ∀ (fuel : Nat) (listed : Array Bool) (a : Act) (w : World),
      (∀ j oj, ops[j]? = some oj → j ≠ i → listed.getD j true = false → (∀ e ∈ oj.after, Region.binds md e = true → e.on ≠ i) → oi.apart ops oj = true) →
      i ∈ Region.ready md ops listed → YieldsIf P ops S oi v a → S w →
      wpAnyX P md ops Q S x fuel (listed.setIfInBounds i true) (a.put oi.dst v) w → wpAnyX P md ops Q S x (fuel + 1) listed a w := by
  intro fuel
  induction fuel with
  | zero =>
    intro listed a w _ hr hy hS H
    refine ⟨fun h => (by rw [h] at hr; cases hr), fun j hj => ?_⟩
    by_cases hji : j = i
    · subst hji; exact hy.wpOp hi hS ⟨fun _ => hS, H⟩
    · have := ready_mono hj hji
      rw [H.1] at this
      cases this
  | succ fuel ih =>
    intro listed a w hfree hr hy hS H
    refine ⟨fun h => (by rw [h] at hr; cases hr), fun j hj => ?_⟩
    by_cases hji : j = i
    · subst hji; exact hy.wpOp hi hS ⟨fun _ => hS, H⟩
    · have hjx : j ≠ x := fun e => waits_not hx (mem_ready.1 hr).1 (e ▸ hj)
      have h1 := H.2 j (ready_mono hj hji)
      obtain ⟨hjun, oj, hoj, hall⟩ := mem_ready.1 hj
      have hnot : ∀ e ∈ oj.after, Region.binds md e = true → e.on ≠ i := fun e he hb heq => by
        have h1 := hall e he hb
        have h0 := (mem_ready.1 hr).1
        rw [heq] at h1
        rcases Nat.lt_or_ge i listed.size with h' | h'
        · simp [h'] at h0 h1; rw [h0] at h1; cases h1
        · simp [Array.getElem?_eq_none h'] at h1
      have h2 := wpOp_putIf hoj (hfree j oj hoj hji hjun hnot) (fun cs b => hsel i oi cs b hi) (fun cs b => hsel j oj cs b hoj) hQ hy h1
      have hfree' : ∀ k ok, ops[k]? = some ok → k ≠ i → (listed.setIfInBounds j true).getD k true = false →
          (∀ e ∈ ok.after, Region.binds md e = true → e.on ≠ i) → oi.apart ops ok = true := fun k ok hk hki hun hno => by
        refine hfree k ok hk hki ?_ hno
        by_cases hjk : j = k
        · subst hjk; exact hjun
        · rw [getD_set_ne true hjk] at hun; exact hun
      refine wpOp_mono (fun a' w' h3 => ⟨fun _ => h3.2.1 hjx, ih (listed.setIfInBounds j true) a' w' hfree' (ready_mono hr (Ne.symm hji)) h3.1 (h3.2.1 hjx) ?_⟩) h2
      rw [Array.setIfInBounds_comm _ _ hji]
      exact h3.2.2
theorem wpAnyX_take {i : Nat} {oi : Oper} {v : Value} {fuel : Nat} {listed : Array Bool} {a : Act} {w : World} (hi : ops[i]? = some oi)
    (hs : Region.noSelect ops = true) (hf : Region.free md ops listed i = true) (hr : (Region.ready md ops listed).contains i = true) (hx : waitsB md ops x i = true)
    (hQ : ∀ c a w, Q (.panic c) (a.put oi.dst v) w → Q (.panic c) a w) (hy : YieldsIf P ops S oi v a) (hS : S w)
    (h : wpAnyX P md ops Q S x fuel (listed.setIfInBounds i true) (a.put oi.dst v) w) : wpAnyX P md ops Q S x (fuel + 1) listed a w :=
  wpAnyX_first hi (Region.noSelect_spec hs) hQ hx fuel listed a w (Region.free_spec hi hf) (by simpa using hr) hy hS h
theorem wpAnyX_done {listed : Array Bool} {a : Act} {w : World} (hr : Region.ready md ops listed = []) (h : Q .normal a w) :
    ∀ fuel, wpAnyX P md ops Q S x fuel listed a w
  | 0 => ⟨hr, h⟩
  | _ + 1 => ⟨fun _ => h, by rw [hr]; simp⟩
def AllReadyX (P : Program) (md : Region.Mode) (ops : Array Oper) (Q : Exit → Act → World → Prop) (S : World → Prop) (x fuel : Nat) (listed : Array Bool) (a : Act) (w : World) (rs : List Nat) : Prop :=
  ∀ i ∈ rs, wpOp P ops Q i (fun a' w' => (i ≠ x → S w') ∧ wpAnyX P md ops Q S x fuel (listed.setIfInBounds i true) a' w') a w
theorem AllReadyX.nil {fuel : Nat} {listed : Array Bool} {a : Act} {w : World} : AllReadyX P md ops Q S x fuel listed a w [] := fun _ h => by cases h
theorem AllReadyX.cons {fuel : Nat} {listed : Array Bool} {a : Act} {w : World} {i : Nat} {o : Oper} {rs : List Nat} (ho : ops[i]? = some o)
    (h : ∀ K' : Act → World → Prop, Shut (∀ a w, S w → (S w → wpAnyX P md ops Q S x fuel (listed.setIfInBounds i true) a w) → K' a w) → if Region.wanted o (yielded ops a.tmps) = true then Oper.wp P o a w K' Q else K' (a.put o.dst undef) w)
    (hs : AllReadyX P md ops Q S x fuel listed a w rs) : AllReadyX P md ops Q S x fuel listed a w (i :: rs) := fun j hj => by
  rcases List.mem_cons.1 hj with rfl | hj
  · exact wpOp_step ho (fun K' hK => h K' (fun a w hS hW => hK a w ⟨fun _ => hS, hW hS⟩))
  · exact hs j hj
/-- The operation behind which nothing is asked. -/
theorem AllReadyX.last {fuel : Nat} {listed : Array Bool} {a : Act} {w : World} {o : Oper} (ho : ops[x]? = some o)
    (h : ∀ K' : Act → World → Prop, Shut (∀ a w, wpAnyX P md ops Q S x fuel (listed.setIfInBounds x true) a w → K' a w) → if Region.wanted o (yielded ops a.tmps) = true then Oper.wp P o a w K' Q else K' (a.put o.dst undef) w) : AllReadyX P md ops Q S x fuel listed a w [x] := fun j hj => by
  rcases List.mem_cons.1 hj with rfl | hj
  · exact wpOp_step ho (fun K' hK => h K' (fun a w hW => hK a w ⟨fun e => absurd rfl e, hW⟩))
  · cases hj
theorem wpAnyX_ready {rs : List Nat} {fuel : Nat} {listed : Array Bool} {a : Act} {w : World} (hr : Region.ready md ops listed = rs) (hne : rs ≠ [])
    (h : AllReadyX P md ops Q S x fuel listed a w rs) : wpAnyX P md ops Q S x (fuel + 1) listed a w := ⟨fun h0 => absurd (hr ▸ h0) hne, hr ▸ h⟩
theorem wp_region_heldX (x : Nat) (S : World → Prop) {id : Nat} {a : Act} {w : World} (hm : P.follows .mixedOrders = true) (hS : S w.drew)
    (h : S w.drew → wpAnyX P .any ops Q S x ops.size (Array.replicate ops.size false) a w.drew) : (Code.region id ops true).wp P Q a w :=
  wp_region_any hm (wpAny_of_X _ _ _ _ (h hS))
end
end Go.Proofs.Ytgoegldffjfmdaa
/- Things of a ledger put into another order, two made one; a route appended to a row of routes. Conditions: none. -/
namespace Go.Proofs.Ytgoegldffjfmdaa
open Go.RowKit
/-- The same things in another order, or some of them. -/
theorem Led.reidx {w0 w : World} {L L' : List Thing} (h : Led w0 w L) (f : Nat → Nat) (hf : ∀ i j, i ≠ j → f i ≠ f j) (hL : ∀ (i : Nat) t, L'[i]? = some t → L[f i]? = some t) : Led w0 w L' :=
  ⟨h.bl, fun i t hi => h.all (f i) t (hL i t hi), fun i j a b hij ha hb => h.apart (f i) (f j) a b (hf i j hij) (hL i a ha) (hL j b hb)⟩
/-- Two things as one. -/
def tBoth (t a : Thing) : Thing :=
  ⟨fun b => t.S b ∨ a.S b, fun w => t.is w ∧ a.is w, fun w w' h hs hb => ⟨t.st w w' h.1 hs (fun b h => hb b (.inl h)), a.st w w' h.2 hs (fun b h => hb b (.inr h))⟩,
    fun w h b e => by rcases e with e | e; exact t.lies w h.1 b e; exact a.lies w h.2 b e⟩
theorem Led.merge {w0 w : World} {L : List Thing} {a t : Thing} (h : Led w0 w (a :: L)) (j : Nat) (hj : L[j]? = some t) : Led w0 w (L.set j (tBoth t a)) := by
  have ha := h.all 0 a rfl
  have ht := h.all (j + 1) t (by simpa using hj)
  have key : ∀ (i : Nat) u, (L.set j (tBoth t a))[i]? = some u → (i = j ∧ u = tBoth t a) ∨ (i ≠ j ∧ L[i]? = some u) := by
    intro i u hu
    rw [List.getElem?_set] at hu
    by_cases hij : j = i
    · subst hij
      rw [if_pos rfl] at hu
      split at hu
      · injection hu with hu; exact .inl ⟨rfl, hu.symm⟩
      · cases hu
    · rw [if_neg hij] at hu; exact .inr ⟨fun e => hij e.symm, hu⟩
  have ap : ∀ (i : Nat) u, i ≠ j → L[i]? = some u → ∀ k, (t.S k ∨ a.S k) → ¬ u.S k := by
    intro i u hij hu k hk h2
    rcases hk with hk | hk
    · exact h.apart (j + 1) (i + 1) t u (by omega) (by simpa using hj) (by simpa using hu) k hk h2
    · exact h.apart 0 (i + 1) a u (by omega) rfl (by simpa using hu) k hk h2
  refine ⟨h.bl, fun i u hu => ?_, fun i k u v hik hu hv x h1 h2 => ?_⟩
  · rcases key i u hu with ⟨rfl, rfl⟩ | ⟨_, hu'⟩
    · exact ⟨⟨ht.1, ha.1⟩, fun b hb => by rcases hb with hb | hb; exact ht.2 b hb; exact ha.2 b hb⟩
    · exact h.all (i + 1) u (by simpa using hu')
  · rcases key i u hu with ⟨rfl, rfl⟩ | ⟨hi, hu'⟩
    · rcases key k v hv with ⟨rfl, rfl⟩ | ⟨hk, hv'⟩
      · exact hik rfl
      · exact ap k v hk hv' x h1 h2
    · rcases key k v hv with ⟨rfl, rfl⟩ | ⟨hk, hv'⟩
      · exact ap i u hi hu' x h2 h1
      · exact h.apart (i + 1) (k + 1) u v (by omega) (by simpa using hu') (by simpa using hv') x h1 h2
/-- One route more; its row lay apart. -/
theorem OwnsRS.push2 {w w3 : World} {base b : Nat} {v v' : Value} {ss : List (Int × Sl)} {rows : List (Int × List Int)} {r0 : Int × List Int} {s0 : Int × Sl} (h : OwnsRS w base v ss rows) (h0 : s0.1 = r0.1) (hb : base ≤ b) (hr : Owns elInt w b 3 (slV s0.2) r0.2)
    (hap : ∀ k, rsS v ss k → ¬ (slV s0.2).ownBlock = some k) (hown : Owns elRt w3 base 29 v' (ss ++ [s0])) (hg : Touch (fun b => v.ownBlock = some b) w w3) : OwnsRS w3 base v' (ss ++ [s0]) (rows ++ [r0]) := by
  refine ⟨hown, by simp [h.2.1], fun i s r h3 h4 => ?_, fun i j s t g hij h3 h4 h5 h6 => ?_⟩
  · rcases Nat.lt_or_ge i ss.length with hi | hi
    · rw [List.getElem?_append_left hi] at h3
      rw [List.getElem?_append_left (by rw [← h.2.1]; exact hi)] at h4
      obtain ⟨e0, ho⟩ := h.2.2.1 i s r h3 h4
      exact ⟨e0, ho.touch hg (fun g hg' => owns_ne h.1 ho (by decide) g hg')⟩
    · rw [List.getElem?_append_right hi] at h3
      rw [List.getElem?_append_right (by rw [← h.2.1]; exact hi)] at h4
      have e1 : i - ss.length = 0 := by have := (List.getElem?_eq_some_iff.1 h3).1; simp at this; omega
      have e2 : i - rows.length = 0 := by rw [← h.2.1]; exact e1
      rw [e1] at h3; rw [e2] at h4
      simp at h3 h4; subst h3; subst h4
      exact ⟨h0, (hr.touch hg (fun g hg' => owns_ne h.1 hr (by decide) g hg')).base hb⟩
  · rcases Nat.lt_or_ge j ss.length with hj | hj
    · rw [List.getElem?_append_left hj] at h4
      rw [List.getElem?_append_left (by omega)] at h3
      exact h.2.2.2 i j s t g hij h3 h4 h5 h6
    · rw [List.getElem?_append_right hj] at h4
      have e1 : j - ss.length = 0 := by have := (List.getElem?_eq_some_iff.1 h4).1; simp at this; omega
      rw [e1] at h4; simp at h4; subst h4
      rw [List.getElem?_append_left (by omega)] at h3
      exact hap g (.inr ⟨i, s, h3, h5⟩) h6
section
variable {w0 w : World} {L : List Thing} {ops : Array Oper} {o : Oper} {a : Act} {Q : Exit → Act → World → Prop} {K : Act → World → Prop} {F : Prop}
/-- append of one route whose row of fibers is the newest thing of the ledger. -/
theorem step_append_rs (hgd : o.guard = none) (s x : Operand) (ho : o.op = .call { callee := .builtin .append, args := #[s, x], argTypes := #[45, 45] }) {base b B c : Nat} {v : Value} {ss : List (Int × Sl)} {rows : List (Int × List Int)} {r0 : Int × List Int} {s0 : Int × Sl} {X : Option Addr}
    (hS : Led w0 w (tOwns elInt b 3 (slV s0.2) r0.2 :: L)) (j : Nat) (hj : L[j]? = some (tRS base v ss rows)) (h0 : s0.1 = r0.1) (hbb : base ≤ b) (hs : a.eval s = v) (hx : a.eval x = .slice X 1 c) (hX : Sees elRt w B X 1 [s0]) (h63 : ss.length + 1 ≤ 1099511627776) (hbase : base ≤ w.heap.size)
    (h : ∀ A' c' w', Led w0 w' (L.set j (tRS base (.slice A' (ss.length + 1) c') (ss ++ [s0]) (rows ++ [r0]))) → K (a.put o.dst (.slice A' (ss.length + 1) c')) w') : if Region.wanted o (yielded ops a.tmps) = true then Oper.wp Try.prog o a w K Q else F := by
  have hw : Region.wanted o (yielded ops a.tmps) = true := by simp [Region.wanted, hgd]
  rw [if_pos hw]
  obtain ⟨i0, hi, hz0, hz1, hz2⟩ := info_parts rt_info
  have hR : OwnsRS w base v ss rows := hS.get (j + 1) (by simpa using hj)
  have hF : Owns elInt w b 3 (slV s0.2) r0.2 := hS.get 0 rfl
  obtain ⟨A', c', w', hr, h2, h3, h4⟩ := run_append_all (P := Try.prog) (ty := o.type) (c := c) Try.underlying45 hi hz0 hz1 rfl hR.1 hX h63 (by rw [hz2]; decide) hbase
  unfold Oper.wp execOp
  simp only [ho, resolve, invoke, builtin, Sem.run_bind, Sem.run_pure, Result.andThen_ok, List.map_toArray, List.map_cons, List.map_nil, hs, hx, hr]
  have hT : Touch (fun b => v.ownBlock = some b) w w' := ⟨h3.os, h3.tape, h3.output, h3.size, fun k hk hn => h3.block k hk (fun e => hn e.symm)⟩
  have hap : ∀ k, rsS v ss k → ¬ (slV s0.2).ownBlock = some k := fun k h1 h5 => hS.apart (j + 1) 0 _ _ (by omega) (by simpa using hj) rfl k h1 h5
  have hnew := hR.push2 h0 hbb hF hap h2 hT
  have hm := hS.merge j hj
  have hjl : (L.set j (tBoth (tRS base v ss rows) (tOwns elInt b 3 (slV s0.2) r0.2)))[j]? = some (tBoth (tRS base v ss rows) (tOwns elInt b 3 (slV s0.2) r0.2)) := by
    rw [List.getElem?_set_self (List.getElem?_eq_some_iff.1 hj).1]
  have hfin := hm.regrow j hjl (t' := tRS base (.slice A' (ss.length + 1) c') (ss ++ [s0]) (rows ++ [r0])) (hT.mono fun b hb => .inl (.inl hb)) (fun k hk => by
    rcases hk with hk | ⟨i, t, ht, hk⟩
    · rcases h4 k hk with h5 | h5
      · exact .inl (.inl (.inl h5))
      · exact .inr (by omega)
    · rcases Nat.lt_or_ge i ss.length with hi | hi
      · rw [List.getElem?_append_left hi] at ht
        exact .inl (.inl (.inr ⟨i, t, ht, hk⟩))
      · rw [List.getElem?_append_right hi] at ht
        have e1 : i - ss.length = 0 := by have := (List.getElem?_eq_some_iff.1 ht).1; simp at this; omega
        rw [e1] at ht; simp at ht; subst ht
        exact .inl (.inr hk)) hnew
  rw [List.set_set] at hfin
  exact h A' c' w' hfin
end
end Go.Proofs.Ytgoegldffjfmdaa
/- Things of a ledger, picked and put into another order. Conditions: none. -/
namespace Go.Proofs.Ytgoegldffjfmdaa
open Go.RowKit
/-- A proposition kept apart (no assumption is taken for it). -/
structure Kept (P : Prop) : Prop where
  out : P
theorem share {P G : Prop} (k : Kept P → G) (h : P) : G := k ⟨h⟩
theorem Led.pick {w0 w : World} {L : List Thing} (h : Led w0 w L) (is : List Nat) (hn : is.Nodup) (he : is.all (fun i => decide (i < L.length)) = true) : Led w0 w (is.filterMap fun i => L[i]?) := by
  have hm : is.map (fun i => L[i]?) = (is.filterMap fun i => L[i]?).map some := by
    clear hn
    induction is with
    | nil => rfl
    | cons x is ih =>
      rw [List.all_cons, Bool.and_eq_true, decide_eq_true_eq] at he
      rw [List.map_cons, List.filterMap_cons, List.getElem?_eq_getElem he.1, ih he.2]
      rfl
  have key : ∀ (i : Nat) t, (is.filterMap fun i => L[i]?)[i]? = some t → ∃ k, is[i]? = some k ∧ L[k]? = some t := fun i t ht => by
    have h1 : (is.map (fun i => L[i]?))[i]? = some (some t) := by rw [hm, List.getElem?_map, ht]; rfl
    rw [List.getElem?_map] at h1
    cases hk : is[i]? with
    | none => rw [hk] at h1; cases h1
    | some k =>
      rw [hk] at h1
      injection h1 with h1
      exact ⟨k, rfl, h1⟩
  refine ⟨h.bl, fun i t ht => ?_, fun i j a b hij ha hb => ?_⟩
  · obtain ⟨k, _, hk⟩ := key i t ht
    exact h.all k t hk
  · obtain ⟨k, hk1, hk⟩ := key i a ha
    obtain ⟨l, hl1, hl⟩ := key j b hb
    exact h.apart k l a b (fun e => hij (by
      subst e
      exact (List.getElem?_inj (List.getElem?_eq_some_iff.1 hk1).1 hn).1 (hk1.trans hl1.symm))) hk hl
end Go.Proofs.Ytgoegldffjfmdaa
/- Stores into a row of numbers of the ledger. Conditions: none. -/
namespace Go.Proofs.Ytgoegldffjfmdaa
open Go.RowKit
section
variable {w0 w w' : World} {L : List Thing}
/-- A row of one element at least lies at a block's head. -/
theorem Led.row {α : Type} {E : El α} (h : Led w0 w L) (i : Nat) {base : Nat} {e : TypeId} {v : Value} {xs : List α} (hi : L[i]? = some (tOwns E base e v xs)) (hne : 0 < xs.length) : ∃ g c, v = .slice (some ⟨g, 0, none⟩) xs.length c := by
  rcases Owns.cases (h.own i hi) with ⟨_, h0⟩ | ⟨g, c, cur, hv, _⟩
  · rw [h0] at hne; simp at hne
  · exact ⟨g, c, hv⟩
theorem Led.row_ {α : Type} {E : El α} (h : Led w0 w L) (i : Nat) {base n : Nat} {e : TypeId} {v : Value} {xs : List α} (hi : L[i]? = some (tOwns E base e v xs)) (hn : xs.length = n) (hne : 0 < n) : ∃ g c, v = .slice (some ⟨g, 0, none⟩) n c := by
  subst hn; exact h.row i hi hne
theorem Led.int_at (h : Led w0 w L) (i : Nat) {base g c n : Nat} {xs : List Int} (hi : L[i]? = some (tOwns elInt base 3 (.slice (some ⟨g, 0, none⟩) n c) xs)) {j : Nat} (hj : j < xs.length) : w.cell? ⟨g, j, none⟩ = some (.int .i64 (valL xs j)) := by
  rcases Owns.cases (h.own i hi) with ⟨h0, _⟩ | ⟨g1, c1, cur, hv, _, hb, _, _, _, hf⟩
  · cases h0
  · injection hv with h1 h2 h3
    injection h1 with h1
    injection h1 with h1
    subst h1
    have := hf j _ hj (valL_get hj) 0 _ rfl
    rw [hb.cell]
    simpa [elInt] using this
theorem Led.int_free (h : Led w0 w L) (i : Nat) {base g c n : Nat} {xs : List Int} (hi : L[i]? = some (tOwns elInt base 3 (.slice (some ⟨g, 0, none⟩) n c) xs)) (j : Nat) : w.frozen? ⟨g, j, none⟩ = false := by
  rcases Owns.cases (h.own i hi) with ⟨h0, _⟩ | ⟨g1, c1, cur, hv, _, hb, _, _, _, hf⟩
  · cases h0
  · injection hv with h1 h2 h3
    injection h1 with h1
    injection h1 with h1
    subst h1
    exact hb.frozen j
/-- One number is stored. -/
theorem Led.int_set (h : Led w0 w L) (i : Nat) {base g c n : Nat} {xs : List Int} (hi : L[i]? = some (tOwns elInt base 3 (.slice (some ⟨g, 0, none⟩) n c) xs)) {j : Nat} (hj : j < xs.length) (x : Int) :
    Led w0 (w.setCell ⟨g, j, none⟩ (.int .i64 x)) (L.set i (tOwns elInt base 3 (.slice (some ⟨g, 0, none⟩) n c) (xs.set j x))) := by
  have ho := h.own i hi
  rcases Owns.cases ho with ⟨h0, _⟩ | ⟨g1, c1, cur, hv, hbase, hb, hnc, hcm, hs, hf⟩
  · cases h0
  · injection hv with h1 h2 h3
    injection h1 with h1
    injection h1 with h1
    subst h1
    subst h3
    refine h.touch i hi rfl (Touch.set (S := fun b => (Value.slice (some ⟨g, 0, none⟩) n c).ownBlock = some b) w (p := ⟨g, j, none⟩) rfl _) ?_
    show Owns elInt _ base 3 (.slice (some ⟨g, 0, none⟩) n c) (xs.set j x)
    rw [h2]
    refine Owns.of_blk (hb.set j _) hbase (by simp) hnc (by simp [hs]) hcm (fun k y hk hy i u hu => ?_)
    have hu' : [Value.int .i64 y][i]? = some u := hu
    match i, hu' with
    | 0, hu' =>
      simp at hu'; subst hu'
      have e : k * elInt.sz + 0 = k := by show k * 1 + 0 = k; omega
      rw [e]
      rw [List.getElem?_set] at hy
      by_cases hjk : j = k
      · subst hjk
        rw [if_pos rfl, if_pos hj] at hy
        injection hy with hy; subst hy
        have hlt : j < cur.size := by rw [hs]; show j < c * 1; omega
        rw [Array.getElem?_setIfInBounds_self_of_lt hlt]
      · rw [if_neg hjk] at hy
        rw [Array.getElem?_setIfInBounds_ne hjk]
        have := hf k y hk hy 0 _ rfl
        rw [e] at this
        exact this
    | i + 1, hu' => simp at hu'
end
theorem marks_succ (k : Int) (n : Nat) : marks k (n + 1) = marks k n ++ [k + (n : Int)] := by simp [marks, List.range_succ]
end Go.Proofs.Ytgoegldffjfmdaa
/- impl.components: the components without some fibers, walked. Conditions: the fibers' ends are nodes; 2 nodes at least. -/
namespace Go.Proofs.Ytgoegldffjfmdaa
open Go.RowKit
section
variable {n c m d : Nat} {A A' : Option Addr} {xs : List ByteArray} {fs : List Fib}
/-- Fiber j is gone. -/
def goneF (l : List Int) (j : Nat) : Bool := hasB l (j : Int)
theorem goodB_ends (h : goodB xs fs = true) : endsB xs.length fs := fun i hi => by
  have h1 := goodB_fibB h (List.getElem_mem hi)
  have e : fibD fs i = fs[i] := getD_of (List.getElem?_eq_getElem hi)
  rw [e]
  unfold fibB at h1; simp at h1; omega
set_option maxHeartbeats 2000000 in
set_option maxRecDepth 100000 in
theorem components_any {B k c' : Nat} {G : Option Addr} {l : List Int} (w : World) (h : NetIs w A n c A' m d xs fs) (hv : Sees elInt w B G k l) (hkb : k ≤ 1048576) (he : endsB n fs) (hn0 : 0 < n) :
    Calls Try.prog 113 #[.agg #[.slice A n c, .slice A' m d], .slice G k c'] w fun e w' => ∃ v, e = .returned v ∧ Owns elInt w' w.heap.size 3 v (compL (goneF l) fs n) ∧ Below w.heap.size w w' := by
  obtain ⟨i0, hi, hz0, hz1, hz2⟩ := info_parts int_info
  have hlf := hid h.flen
  have hm := h.mle
  have hn := h.nle
  have HE := hid he
  have HV := hid hv
  have HF := hid h
  have hS := ((Led.nil w).blk_ w.heap.size rfl 34 #[.slice A n c, .slice A' m d]).empty elInt 3 (w.heap.size + 1) (by simp) w.heap.size (by omega)
  have HS : Hid (Led w ((w.alloc (.cells #[.slice A n c, .slice A' m d] 34)).alloc (.cells #[] 3)) [tOwns elInt w.heap.size 3 (.slice (some ⟨w.heap.size + 1, 0, none⟩) 0 0) (marks 0 0), tBlk w.heap.size 34 #[.slice A n c, .slice A' m d]]) := hS
  clear hS he hv h
  go_enter Try.func113, Try.ntmps113
  go_wp2_with fail
  go_loopw [5, 14] (fun V i wr => ∃ k : Nat, k ≤ n ∧ i = .int .i64 k ∧ Hid (Led w wr [tOwns elInt w.heap.size 3 V (marks 0 k), tBlk w.heap.size 34 #[.slice A n c, .slice A' m d]])) (fun _ i _ => n - (intOf i).toNat)
  case atStart => exact ⟨0, Nat.zero_le _, rfl, HS⟩
  case round =>
    clear HS
    obtain ⟨k, hk, rfl, HS⟩ := hrel
    by_cases hlt : k < n
    · have hml := hid (marks_len 0 k)
      obtain ⟨A1, c1, rfl, _⟩ := HS.out.form 0 rfl
      have HS2 := hid (HS.out.blk_ wr.heap.size rfl 3 #[.int .i64 k])
      have HM : Hid (marks 0 (k + 1) = marks 0 k ++ [(k : Int)]) := by unfold Hid; rw [marks_succ]; simp
      clear HS
      go_wp2_with (first
        | (at_builtin; refine wpList_append_led rfl _ _ 27 rfl HS2.out 1 rfl Try.underlying27 hi hz0 hz1 (by rw [hz2]; decide) rfl rfl rfl (show Sees elInt _ _ _ 1 [(k : Int)] from sees_new elInt _ _ _ _ rfl) (by rw [hml.out]; omega) HS2.out.bl.size ?_)
        | go_in)
      intro A2 c2 w2 hS3
      have HS3 := hid (hS3.drop 1)
      clear hS3 HS2
      go_wp2
      go_roundw
      case rel => exact ⟨k + 1, by omega, by go_num, by rw [HM.out]; exact HS3⟩
      case measure => simp [intOf]; omega
    · have hkn : k = n := by omega
      subst hkn
      obtain ⟨g, cV, rfl⟩ := HS.out.row_ 0 rfl (marks_len 0 k) hn0
      have p0 := HS.out.cell 1 0 rfl rfl
      have HS1 : Hid (Led w wr [tOwns elInt w.heap.size 3 (.slice (some ⟨g, 0, none⟩) k cV) (rndL (goneF l) fs k 0), tBlk w.heap.size 34 #[.slice A k c, .slice A' m d]]) := HS
      clear hlt HS
      go_wp2_with fail
      clear p0
      go_loopw [25] (fun i wr => ∃ r : Nat, r ≤ k ∧ i = .int .i64 r ∧ Hid (Led w wr [tOwns elInt w.heap.size 3 (.slice (some ⟨g, 0, none⟩) k cV) (rndL (goneF l) fs k r), tBlk w.heap.size 34 #[.slice A k c, .slice A' m d]])) (fun i _ => k - (intOf i).toNat)
      case atStart => exact ⟨0, Nat.zero_le _, rfl, HS1⟩
      case round =>
        clear HS1
        obtain ⟨r, hr, rfl, HS⟩ := hrel
        by_cases hlt : r < k
        · have p1 := HS.out.cell 1 1 rfl rfl
          obtain ⟨X, hX⟩ : ∃ X, X = rndL (goneF l) fs k r := ⟨_, rfl⟩
          have hXl : Hid (X.length = k) := by rw [hX]; exact rndL_len r
          have HN : Hid (rndL (goneF l) fs k (r + 1) = passL (goneF l) fs X) := by rw [hX]; rfl
          rw [← hX] at HS
          clear hX
          have HS1 : Hid (Led w wr [tOwns elInt w.heap.size 3 (.slice (some ⟨g, 0, none⟩) k cV) (passTo (goneF l) fs X 0), tBlk w.heap.size 34 #[.slice A k c, .slice A' m d]]) := HS
          clear HS
          go_wp2_with fail
          clear p1
          go_loopw [30] (fun i wr => ∃ j : Nat, j ≤ m ∧ i = .int .i64 j ∧ Hid (Led w wr [tOwns elInt w.heap.size 3 (.slice (some ⟨g, 0, none⟩) k cV) (passTo (goneF l) fs X j), tBlk w.heap.size 34 #[.slice A k c, .slice A' m d]])) (fun i _ => m - (intOf i).toNat)
          case atStart => exact ⟨0, Nat.zero_le _, rfl, HS1⟩
          case round =>
            clear HS1
            obtain ⟨j, hj, rfl, HS⟩ := hrel
            by_cases hlt2 : j < m
            · obtain ⟨b, o, rfl, _, hc⟩ := HF.out.fibs.at_ hlt2
              obtain ⟨f, hfj⟩ := get_of (k := j) hlf.out hlt2
              have f0 := bl_cell HS.out.bl (hc j f hfj 0 _ rfl)
              have f1 := bl_cell HS.out.bl (hc j f hfj 1 _ rfl)
              have f2 := bl_cell HS.out.bl (hc j f hfj 2 _ rfl)
              have f3 := bl_cell HS.out.bl (hc j f hfj 3 _ rfl)
              simp only [elFib, Nat.add_zero] at f0 f1 f2 f3
              have hfd : fibD fs j = f := getD_of hfj
              have hends := HE.out j (by rw [hlf.out]; exact hlt2)
              rw [hfd] at hends
              obtain ⟨a, ha⟩ : ∃ a : Nat, f.a = (a : Int) := ⟨f.a.toNat, by omega⟩
              obtain ⟨e, hb⟩ : ∃ e : Nat, f.b = (e : Int) := ⟨f.b.toNat, by omega⟩
              rw [ha, hb] at hends
              rw [ha] at f0
              rw [hb] at f1
              have HQ : Hid (goneF l j = hasB l (j : Int)) := rfl
              have HP : Hid (goneF l j = false → passTo (goneF l) fs X (j + 1) = ((passTo (goneF l) fs X j).set a (min (valL (passTo (goneF l) fs X j) a) (valL (passTo (goneF l) fs X j) e))).set e (min (valL (passTo (goneF l) fs X j) a) (valL (passTo (goneF l) fs X j) e))) := fun hq => by
                rw [passTo_no hq, hfd]; unfold joinF; rw [ha, hb]; simp
              have HP2 : Hid (goneF l j = true → passTo (goneF l) fs X (j + 1) = passTo (goneF l) fs X j) := fun hq => by rw [passTo_succ, hq]; rfl
              have hpl : Hid ((passTo (goneF l) fs X j).length = k) := (passTo_len X j).trans hXl.out
              generalize passTo (goneF l) fs X j = Y at *
              have hS1 := HS.out.blk_ wr.heap.size rfl 80 #[.int .i64 (a : Int), .int .i64 (e : Int), .int .i64 f.len, .int .i64 f.risk]
              have ia : (a : Int) < (k : Int) := by omega
              have ie : (e : Int) < (k : Int) := by omega
              have iae : a ≠ e := by omega
              clear hc hfj hfd ha hb hends
              go_wp2_with fail
              refine (containsI_any (j : Int) _ (HV.out.grow hS1.bl) (by unfold maxLen; omega)).mono ?_
              rintro e5 w5 ⟨rfl, rfl⟩
              cases gk : hasB l (j : Int)
              · have HR := hid (HP.out (by rw [HQ.out]; exact gk))
                have v0 := hS1.int_at 1 rfl (j := a) (by rw [hpl.out]; omega)
                have v1 := hS1.int_at 1 rfl (j := e) (by rw [hpl.out]; omega)
                have y0 := hS1.int_free 1 rfl a
                have y1 := hS1.int_free 1 rfl e
                clear HP HP2 HS
                go_wp2_with fail
                generalize wr.alloc (.cells #[.int .i64 (a : Int), .int .i64 (e : Int), .int .i64 f.len, .int .i64 f.risk] 80) = W0 at *
                have C0 : ∀ w', Cls W0 w' → w'.cell? ⟨wr.heap.size, 0, none⟩ = some (.int .i64 (a : Int)) := fun _ h => h.cell (hS1.cell 0 0 rfl rfl)
                have C1 : ∀ w', Cls W0 w' → w'.cell? ⟨wr.heap.size, 1, none⟩ = some (.int .i64 (e : Int)) := fun _ h => h.cell (hS1.cell 0 1 rfl rfl)
                have V0 : ∀ w', Cls W0 w' → w'.cell? ⟨g, a, none⟩ = some (.int .i64 (valL Y a)) := fun _ h => h.cell v0
                have V1 : ∀ w', Cls W0 w' → w'.cell? ⟨g, e, none⟩ = some (.int .i64 (valL Y e)) := fun _ h => h.cell v1
                clear v0 v1 y0 y1
                rcases Int.lt_or_le (valL Y e) (valL Y a) with hle | hle
                · have hx : min (valL Y a) (valL Y e) = valL Y e := by omega
                  rw [hx] at HR
                  clear hx
                  refine region_cls (by kernel_rfl) (by kernel_rfl) ?_
                  repeat (first
                    | ((with_reducible refine quiet_pos ?_ (fun K hK => ?_))
                       · rfl
                       apply Exists.intro
                       refine ⟨fun w' hw' => ?_, ?_⟩
                       · go_simp
                         with_reducible rfl
                       simp only [Act.put, List.setIfInBounds_toArray, List.set_cons_zero, List.set_cons_succ]
                       refine hK _ ?_; clear hK K)
                    | ((with_reducible refine quiet_neg ?_ (fun K hK => ?_))
                       · rfl
                       simp only [Act.put, List.setIfInBounds_toArray, List.set_cons_zero, List.set_cons_succ]
                       refine hK _ ?_; clear hK K))
                  with_reducible refine wpQuiet_nil ?_
                  intro wz hwz'
                  have hS2 := hS1.step hwz'
                  clear C0 C1 V0 V1 hwz' hS1
                  have q0 := hS2.cell 0 0 rfl rfl
                  have q1 := hS2.cell 0 1 rfl rfl
                  have v0 := hS2.int_at 1 rfl (j := a) (by rw [hpl.out]; omega)
                  have v1 := hS2.int_at 1 rfl (j := e) (by rw [hpl.out]; omega)
                  have y0 := hS2.int_free 1 rfl a
                  have y1 := hS2.int_free 1 rfl e
                  have hS3 := hS2.int_set 1 rfl (j := a) (by rw [hpl.out]; omega) (valL Y e)
                  have q2 := hS3.cell 0 0 rfl rfl
                  have q3 := hS3.cell 0 1 rfl rfl
                  have v2 := hS3.int_at 1 rfl (j := e) (by simp; rw [hpl.out]; omega)
                  have y2 := hS3.int_free 1 rfl e
                  clear hS3
                  have HS2 : Hid (∀ u, Led w (((wz.setCell ⟨g, a, none⟩ (.int .i64 (valL Y e))).setCell ⟨g, e, none⟩ (.int .i64 (valL Y e))).drewN u) _) := fun u => (((hS2.int_set 1 rfl (j := a) (by rw [hpl.out]; omega) (valL Y e)).int_set 1 rfl (j := e) (by simp; rw [hpl.out]; omega) (valL Y e)).drop 1).step (bl_drewN (Below.refl _ _) u)
                  clear hS2
                  go_wp2_with fail
                  go_region
                  all_goals
                    go_wp2_with fail
                    refine ⟨?_, by simp [intOf]; omega⟩
                    first
                      | exact ⟨j + 1, by omega, by go_num, by rw [HR.out]; exact HS2.out 1⟩
                      | ((repeat apply Exists.intro); exact ⟨⟨j + 1, by omega, by go_num, by rw [HR.out]; exact HS2.out 1⟩, rfl⟩)
                · have hx : min (valL Y a) (valL Y e) = valL Y a := by omega
                  rw [hx] at HR
                  clear hx
                  refine region_cls (by kernel_rfl) (by kernel_rfl) ?_
                  repeat (first
                    | ((with_reducible refine quiet_pos ?_ (fun K hK => ?_))
                       · rfl
                       apply Exists.intro
                       refine ⟨fun w' hw' => ?_, ?_⟩
                       · go_simp
                         with_reducible rfl
                       simp only [Act.put, List.setIfInBounds_toArray, List.set_cons_zero, List.set_cons_succ]
                       refine hK _ ?_; clear hK K)
                    | ((with_reducible refine quiet_neg ?_ (fun K hK => ?_))
                       · rfl
                       simp only [Act.put, List.setIfInBounds_toArray, List.set_cons_zero, List.set_cons_succ]
                       refine hK _ ?_; clear hK K))
                  with_reducible refine wpQuiet_nil ?_
                  intro wz hwz'
                  have hS2 := hS1.step hwz'
                  clear C0 C1 V0 V1 hwz' hS1
                  have q0 := hS2.cell 0 0 rfl rfl
                  have q1 := hS2.cell 0 1 rfl rfl
                  have v0 := hS2.int_at 1 rfl (j := a) (by rw [hpl.out]; omega)
                  have v1 := hS2.int_at 1 rfl (j := e) (by rw [hpl.out]; omega)
                  have y0 := hS2.int_free 1 rfl a
                  have y1 := hS2.int_free 1 rfl e
                  have hS3 := hS2.int_set 1 rfl (j := a) (by rw [hpl.out]; omega) (valL Y a)
                  have q2 := hS3.cell 0 0 rfl rfl
                  have q3 := hS3.cell 0 1 rfl rfl
                  have v2 := hS3.int_at 1 rfl (j := e) (by simp; rw [hpl.out]; omega)
                  have y2 := hS3.int_free 1 rfl e
                  clear hS3
                  have HS2 : Hid (∀ u, Led w (((wz.setCell ⟨g, a, none⟩ (.int .i64 (valL Y a))).setCell ⟨g, e, none⟩ (.int .i64 (valL Y a))).drewN u) _) := fun u => (((hS2.int_set 1 rfl (j := a) (by rw [hpl.out]; omega) (valL Y a)).int_set 1 rfl (j := e) (by simp; rw [hpl.out]; omega) (valL Y a)).drop 1).step (bl_drewN (Below.refl _ _) u)
                  clear hS2
                  go_wp2_with fail
                  go_region
                  all_goals
                    go_wp2_with fail
                    refine ⟨?_, by simp [intOf]; omega⟩
                    first
                      | exact ⟨j + 1, by omega, by go_num, by rw [HR.out]; exact HS2.out 1⟩
                      | ((repeat apply Exists.intro); exact ⟨⟨j + 1, by omega, by go_num, by rw [HR.out]; exact HS2.out 1⟩, rfl⟩)
              · have HR := hid (HP2.out (by rw [HQ.out]; exact gk))
                have HS2 := hid (hS1.drop 1)
                clear hS1 HP HP2 HS
                go_wp2
                refine ⟨?_, by simp [intOf]; omega⟩
                first
                  | exact ⟨j + 1, by omega, by go_num, by rw [HR.out]; exact HS2⟩
                  | ((repeat apply Exists.intro); exact ⟨⟨j + 1, by omega, by go_num, by rw [HR.out]; exact HS2⟩, rfl⟩)
            · have hjm : j = m := by omega
              have HR : Hid (rndL (goneF l) fs k (r + 1) = passTo (goneF l) fs X j) := by unfold Hid; rw [HN.out, hjm, ← hlf.out]; rfl
              clear hjm
              go_wp2
              refine ⟨?_, by simp [intOf]; omega⟩
              first
                | exact ⟨r + 1, by omega, by go_num, by rw [HR.out]; exact HS⟩
                | ((repeat apply Exists.intro); exact ⟨⟨r + 1, by omega, by go_num, by rw [HR.out]; exact HS⟩, rfl⟩)
        · have hrk : r = k := by omega
          have HR : Hid (compL (goneF l) fs k = rndL (goneF l) fs k r) := by rw [hrk]; rfl
          clear hrk
          go_wp2
          go_ret
          exact ⟨_, rfl, by rw [HR.out]; exact HS.out.own 0 rfl, HS.out.bl⟩
end
end Go.Proofs.Ytgoegldffjfmdaa
/- Sets of fibers as numbers: the reference's l6Mask, walked. Conditions: the numbers are below 20. -/
namespace Go.Proofs.Ytgoegldffjfmdaa
open Go.RowKit
/-- The set as a number. -/
def maskTo (l : List Int) : Nat → Nat
  | 0 => 0
  | k + 1 => maskTo l k ||| 2 ^ (l.getD k 0).toNat
def maskN (l : List Int) : Nat := maskTo l l.length
theorem maskTo_bit {l : List Int} (h : ∀ x ∈ l, 0 ≤ x) (i : Nat) : ∀ k, k ≤ l.length → (maskTo l k).testBit i = decide ((i : Int) ∈ l.take k) := by
  intro k
  induction k with
  | zero => intro _; simp [maskTo]
  | succ k ih =>
    intro hk
    have hkl : k < l.length := by omega
    have e : l.take (k + 1) = l.take k ++ [l[k]] := by rw [List.take_add_one, List.getElem?_eq_getElem hkl]; rfl
    have hx := h _ (List.getElem_mem hkl)
    show (maskTo l k ||| 2 ^ (l.getD k 0).toNat).testBit i = _
    rw [Nat.testBit_or, ih (by omega), Nat.testBit_two_pow, e, getD_of (List.getElem?_eq_getElem hkl)]
    rw [Bool.eq_iff_iff, Bool.or_eq_true, decide_eq_true_eq, decide_eq_true_eq, decide_eq_true_eq, List.mem_append, List.mem_singleton]
    constructor
    · intro h1
      rcases h1 with h1 | h1
      · exact Or.inl h1
      · exact Or.inr (by omega)
    · intro h1
      rcases h1 with h1 | h1
      · exact Or.inl h1
      · exact Or.inr (by omega)
theorem maskN_bit {l : List Int} (h : ∀ x ∈ l, 0 ≤ x) (i : Nat) : (maskN l).testBit i = hasB l (i : Int) := by
  unfold maskN
  rw [maskTo_bit h i _ (Nat.le_refl _), List.take_length, Bool.eq_iff_iff, hasB_iff]
  simp
theorem maskTo_lt {l : List Int} (h : ∀ x ∈ l, 0 ≤ x ∧ x < 20) : ∀ k, k ≤ l.length → maskTo l k < 2 ^ 20 := by
  intro k
  induction k with
  | zero => intro _; simp [maskTo]
  | succ k ih =>
    intro hk
    have hkl : k < l.length := by omega
    have hx := h _ (List.getElem_mem hkl)
    refine Nat.or_lt_two_pow (ih (by omega)) ?_
    rw [getD_of (List.getElem?_eq_getElem hkl)]
    exact Nat.pow_lt_pow_right (by decide) (by omega)
theorem ofInt_small {a : Nat} (h : a < 2 ^ 62) : (BitVec.ofInt 64 (a : Int)).toNat = a := by
  rw [BitVec.ofInt_natCast, BitVec.toNat_ofNat]; exact Nat.mod_eq_of_lt (by omega)
theorem wrap_small {a : Nat} (h : a < 2 ^ 62) : IntKind.i64.wrap (a : Int) = (a : Int) := IntWalk.i64_in _ (by omega)
/-- One bit more. -/
theorem bits_or_n {M N : Nat} (hM : M < 2 ^ 20) (hN : N < 2 ^ 20) : Go.bits .or .i64 (M : Int) (N : Int) = ((M ||| N : Nat) : Int) := by
  have h3 : M ||| N < 2 ^ 20 := Nat.or_lt_two_pow hM hN
  show IntKind.i64.wrap ((BitVec.ofInt 64 (M : Int) ||| BitVec.ofInt 64 (N : Int)).toNat : Int) = _
  rw [BitVec.toNat_or, ofInt_small (by omega), ofInt_small (by omega)]
  exact wrap_small (by omega)
/-- Is bit i set? -/
theorem bits_and_one {M : Nat} (hM : M < 2 ^ 20) (i : Nat) : Go.bits .and .i64 ((M / 2 ^ i : Nat) : Int) 1 = if M.testBit i then 1 else 0 := by
  have h2 : M / 2 ^ i ≤ M := Nat.div_le_self _ _
  have h3 : (M / 2 ^ i) &&& 1 = (M.testBit i).toNat := by
    rw [Nat.testBit_eq_decide_div_mod_eq, Nat.and_one_is_mod]
    have : M / 2 ^ i % 2 = 0 ∨ M / 2 ^ i % 2 = 1 := by omega
    rcases this with h | h <;> simp [h]
  show IntKind.i64.wrap ((BitVec.ofInt 64 ((M / 2 ^ i : Nat) : Int) &&& BitVec.ofInt 64 ((1 : Nat) : Int)).toNat : Int) = _
  rw [BitVec.toNat_and, ofInt_small (by omega), ofInt_small (by omega), h3]
  cases M.testBit i <;> rfl
set_option maxHeartbeats 1000000 in
set_option maxRecDepth 100000 in
theorem mask_any {B c : Nat} {A : Option Addr} {l : List Int} (w : World) (hA : Sees elInt w B A l.length l) (hl : ∀ x ∈ l, 0 ≤ x ∧ x < 20) (hn : l.length ≤ 1048576) :
    Calls Try.prog 108 #[.slice A l.length c] w fun e w' => e = .returned (.int .i64 ((maskN l : Nat) : Int)) ∧ w = w' := by
  have HL := hid hl
  have HB := hid (maskTo_lt hl)
  clear hl
  go_enter Try.func108, Try.ntmps108
  go_wp2
  go_loop [3, 4] (fun t i => ∃ (k M : Nat), k ≤ l.length ∧ i = .int .i64 k ∧ t = .int .i64 (M : Int) ∧ Hid (M = maskTo l k)) (fun _ i => l.length - (intOf i).toNat)
  case atStart => exact ⟨0, 0, Nat.zero_le _, rfl, rfl, rfl⟩
  case round =>
    obtain ⟨k, M, hk, rfl, rfl, hM⟩ := hrel
    by_cases hlt : k < l.length
    · obtain ⟨b, o, rfl, _, hc⟩ := hA.at_ hlt
      obtain ⟨x, hxk⟩ := get_of (k := k) rfl hlt
      have hx := HL.out x (List.mem_of_getElem? hxk)
      obtain ⟨j, rfl⟩ : ∃ j : Nat, x = (j : Int) := ⟨x.toNat, by omega⟩
      have e0 := hc k _ hxk 0 _ rfl
      simp only [elInt, Nat.mul_one, Nat.add_zero] at e0
      have hMb : M < 2 ^ 20 := by rw [hM.out]; exact HB.out k (by omega)
      have hj : (2 : Nat) ^ j < 2 ^ 20 := Nat.pow_lt_pow_right (by decide) (by omega)
      have HN : Hid (maskTo l (k + 1) = M ||| 2 ^ j) := by
        show maskTo l k ||| 2 ^ (l.getD k 0).toNat = _
        rw [getD_of hxk, ← hM.out]; simp
      have HO := hid (bits_or_n hMb hj)
      clear hc hxk hM
      have hw : wrap64 ((2 : Int) ^ j) = ((2 ^ j : Nat) : Int) := by
        have e : ((2 : Int) ^ j) = ((2 ^ j : Nat) : Int) := by simp
        rw [e]
        have h62 : 2 ^ j < 4611686018427387904 := Nat.lt_trans hj (by decide)
        generalize 2 ^ j = y at *
        exact IntWalk.wrap64_in _ (by omega)
      have HW := hid hw
      clear hw
      go_wp2
      exact ⟨⟨k + 1, M ||| 2 ^ j, by omega, by go_num, by rw [HW.out, HO.out], HN.out.symm⟩, by simp [intOf]; omega⟩
    · have hkl : k = l.length := by omega
      have HE : Hid (maskN l = M) := by rw [hM.out, hkl]; rfl
      clear hkl hM
      go_wp2
      go_ret
      exact ⟨by rw [HE.out]; rfl, rfl⟩
end Go.Proofs.Ytgoegldffjfmdaa
/- spec.l6Labels: the reference's components, walked. Conditions: the fibers' ends are nodes; 2 nodes at least; at most 20 fibers. -/
namespace Go.Proofs.Ytgoegldffjfmdaa
open Go.RowKit
set_option maxRecDepth 100000 in
theorem least_any (a b : Int) (w : World) : Calls Try.prog 207 #[.int .i64 a, .int .i64 b] w fun e w' => e = .returned (.int .i64 (min a b)) ∧ w = w' := by
  by_cases h : a < b
  · have H : Hid (min a b = a) := by unfold Hid; omega
    go_enter Try.func207, Try.ntmps207
    go_wp2
    go_ret
    exact ⟨by rw [H.out]; rfl, rfl⟩
  · have H : Hid (min a b = b) := by unfold Hid; omega
    go_enter Try.func207, Try.ntmps207
    go_wp2
    go_ret
    exact ⟨by rw [H.out]; rfl, rfl⟩
section
variable {n c m d : Nat} {A A' : Option Addr} {xs : List ByteArray} {fs : List Fib}
set_option maxHeartbeats 4000000 in
set_option maxRecDepth 100000 in
theorem labels_any (M : Nat) (w : World) (h : NetIs w A n c A' m d xs fs) (hM : M < 2 ^ 20) (he : endsB n fs) (hn0 : 0 < n) (hm20 : m ≤ 20) :
    Calls Try.prog 189 #[.agg #[.slice A n c, .slice A' m d], .int .i64 (M : Int)] w fun e w' => ∃ v, e = .returned v ∧ Owns elInt w' w.heap.size 3 v (compL (fun i => M.testBit i) fs n) ∧ Below w.heap.size w w' := by
  obtain ⟨i0, hi, hz0, hz1, hz2⟩ := info_parts int_info
  have hlf := hid h.flen
  have hn := h.nle
  have HE := hid he
  have HF := hid h
  have HMB := hid hM
  have hS := ((Led.nil w).blk_ w.heap.size rfl 34 #[.slice A n c, .slice A' m d]).empty elInt 3 (w.heap.size + 1) (by simp) w.heap.size (by omega)
  have HS : Hid (Led w ((w.alloc (.cells #[.slice A n c, .slice A' m d] 34)).alloc (.cells #[] 3)) [tOwns elInt w.heap.size 3 (.slice (some ⟨w.heap.size + 1, 0, none⟩) 0 0) (marks 0 0), tBlk w.heap.size 34 #[.slice A n c, .slice A' m d]]) := hS
  clear hS he h hM
  go_enter Try.func189, Try.ntmps189
  go_wp2_with fail
  go_loopw [5, 6] (fun V i wr => ∃ k : Nat, k ≤ n ∧ i = .int .i64 k ∧ Hid (Led w wr [tOwns elInt w.heap.size 3 (V) (marks 0 k), tBlk w.heap.size 34 #[.slice A n c, .slice A' m d]])) (fun _ i _ => n - (intOf i).toNat)
  case atStart => exact ⟨0, Nat.zero_le _, rfl, HS⟩
  case round =>
    clear HS
    obtain ⟨k, hk, rfl, HS⟩ := hrel
    have p0 := HS.out.cell 1 0 rfl rfl
    by_cases hlt : k < n
    · have hml := hid (marks_len 0 k)
      obtain ⟨A1, c1, rfl, _⟩ := HS.out.form 0 rfl
      have HS2 := hid (HS.out.blk_ wr.heap.size rfl 3 #[.int .i64 k])
      have HM : Hid (marks 0 (k + 1) = marks 0 k ++ [(k : Int)]) := by unfold Hid; rw [marks_succ]; simp
      clear HS
      go_wp2_with (first
        | (at_builtin; refine wpList_append_led rfl _ _ 27 rfl HS2.out 1 rfl Try.underlying27 hi hz0 hz1 (by rw [hz2]; decide) rfl rfl rfl (show Sees elInt _ _ _ 1 [(k : Int)] from sees_new elInt _ _ _ _ rfl) (by rw [hml.out]; omega) HS2.out.bl.size ?_)
        | go_in)
      intro A2 c2 w2 hS3
      have HS3 := hid (hS3.drop 1)
      clear hS3 HS2 p0
      go_wp2
      go_roundw
      case rel => exact ⟨k + 1, by omega, by go_num, by rw [HM.out]; exact HS3⟩
      case measure => simp [intOf]; omega
    · have hkn : n = k := by omega
      subst hkn
      obtain ⟨g, cV, rfl⟩ := HS.out.row_ 0 rfl (marks_len 0 n) hn0
      have HS1 : Hid (Led w wr [tOwns elInt w.heap.size 3 (.slice (some ⟨g, 0, none⟩) n cV) (rndL (fun i => M.testBit i) fs n 0), tBlk w.heap.size 34 #[.slice A n c, .slice A' m d]]) := HS
      clear hlt HS
      go_wp2_with fail
      clear p0
      go_loopg [7] (n + 2) (fun gk b wr => ∃ (r : Nat) (more : Bool), b = .bool more ∧ r + gk = n + 2 ∧ Hid (more = true → r ≤ n) ∧ Hid (more = false → rndL (fun i => M.testBit i) fs n r = compL (fun i => M.testBit i) fs n) ∧ Hid (Led w wr [tOwns elInt w.heap.size 3 (.slice (some ⟨g, 0, none⟩) n cV) (rndL (fun i => M.testBit i) fs n r), tBlk w.heap.size 34 #[.slice A n c, .slice A' m d]]))
      case atStart => exact ⟨0, true, rfl, by omega, (show true = true → 0 ≤ n from fun _ => Nat.zero_le _), (show true = false → _ from fun h => Bool.noConfusion h), HS1⟩
      case round =>
        clear HS1
        obtain ⟨r, more, rfl, hrg, hm1, hm2, HS⟩ := hrel
        cases more
        case false =>
          have HR := hid (hm2.out rfl)
          clear hm1 hm2
          go_wp2
          go_ret
          exact ⟨_, rfl, by rw [← HR.out]; exact HS.out.own 0 rfl, HS.out.bl⟩
        case true =>
          have hrn := hm1.out rfl
          clear hm1 hm2
          obtain ⟨X, hX⟩ : ∃ X, X = rndL (fun i => M.testBit i) fs n r := ⟨_, rfl⟩
          have hXl : Hid (X.length = n) := by rw [hX]; exact rndL_len r
          have HN : Hid (rndL (fun i => M.testBit i) fs n (r + 1) = passL (fun i => M.testBit i) fs X) := by rw [hX]; rfl
          rw [← hX] at HS
          have HX := hid hX
          clear hX
          have HS1 : Hid (Led w wr [tOwns elInt w.heap.size 3 (.slice (some ⟨g, 0, none⟩) n cV) (passTo (fun i => M.testBit i) fs X 0), tBlk w.heap.size 34 #[.slice A n c, .slice A' m d]]) := HS
          clear HS
          go_wp2_with fail
          go_loopw [7, 8] (fun b i wr => ∃ j : Nat, j ≤ m ∧ i = .int .i64 j ∧ b = .bool (chgB (fun i => M.testBit i) fs X j) ∧ Hid (Led w wr [tOwns elInt w.heap.size 3 (.slice (some ⟨g, 0, none⟩) n cV) (passTo (fun i => M.testBit i) fs X j), tBlk w.heap.size 34 #[.slice A n c, .slice A' m d]])) (fun _ i _ => m - (intOf i).toNat)
          case atStart => exact ⟨0, Nat.zero_le _, rfl, rfl, HS1⟩
          case round =>
            clear HS1
            obtain ⟨j, hj, rfl, rfl, HS⟩ := hrel
            have p1 := HS.out.cell 1 1 rfl rfl
            obtain ⟨ch, hch⟩ : ∃ ch, ch = chgB (fun i => M.testBit i) fs X j := ⟨_, rfl⟩
            rw [← hch]
            have HCH := hid hch
            clear hch
            by_cases hlt2 : j < m
            · obtain ⟨b, o, rfl, _, hc⟩ := HF.out.fibs.at_ hlt2
              obtain ⟨f, hfj⟩ := get_of (k := j) hlf.out hlt2
              have f0 := bl_cell HS.out.bl (hc j f hfj 0 _ rfl)
              have f1 := bl_cell HS.out.bl (hc j f hfj 1 _ rfl)
              simp only [elFib, Nat.add_zero] at f0 f1
              have hfd : fibD fs j = f := getD_of hfj
              have hends := HE.out j (by rw [hlf.out]; exact hlt2)
              rw [hfd] at hends
              obtain ⟨a, ha⟩ : ∃ a : Nat, f.a = (a : Int) := ⟨f.a.toNat, by omega⟩
              obtain ⟨e, hb⟩ : ∃ e : Nat, f.b = (e : Int) := ⟨f.b.toNat, by omega⟩
              rw [ha, hb] at hends
              rw [ha] at f0
              rw [hb] at f1
              have ia : (a : Int) < (n : Int) := by omega
              have ie : (e : Int) < (n : Int) := by omega
              have ij : (j : Int) < (m : Int) := by omega
              have P1 : ∀ w', Cls wr w' → w'.cell? ⟨w.heap.size, 1, none⟩ = some (.slice (some ⟨b, o, none⟩) m d) := fun _ h => h.cell p1
              have F0 : ∀ w', Cls wr w' → w'.cell? ⟨b, o + j * 4, none⟩ = some (.int .i64 (a : Int)) := fun _ h => h.cell f0
              have F1 : ∀ w', Cls wr w' → w'.cell? ⟨b, o + j * 4 + 1, none⟩ = some (.int .i64 (e : Int)) := fun _ h => h.cell f1
              clear hc hfj f0 f1
              go_wp2_with fail
              refine region_cls (by kernel_rfl) (by kernel_rfl) ?_
              repeat (first
                | ((with_reducible refine quiet_pos ?_ (fun K hK => ?_))
                   · rfl
                   apply Exists.intro
                   refine ⟨fun w' hw' => ?_, ?_⟩
                   · go_simp
                     with_reducible rfl
                   simp only [Act.put, List.setIfInBounds_toArray, List.set_cons_zero, List.set_cons_succ]
                   refine hK _ ?_; clear hK K)
                | ((with_reducible refine quiet_neg ?_ (fun K hK => ?_))
                   · rfl
                   simp only [Act.put, List.setIfInBounds_toArray, List.set_cons_zero, List.set_cons_succ]
                   refine hK _ ?_; clear hK K))
              with_reducible refine wpQuiet_nil ?_
              intro wz hwz'
              go_wp2_with fail
              have hS := HS.out.step hwz'
              clear HS P1 F0 F1 hwz' p1
              have hMB := HMB.out
              have iu : IntKind.u64.wrap (j : Int) = (j : Int) := by rw [IntKind.wrap_u64]; omega
              have imn : min j 64 = j := by omega
              have hdv : ((M : Int) / 2 ^ j) = ((M / 2 ^ j : Nat) : Int) := by simp
              have ib := bits_and_one hMB j
              rw [← hdv] at ib
              clear hdv
              cases gb : M.testBit j
              · rw [gb] at ib
                simp only [Bool.false_eq_true, if_false] at ib
                have hpl : Hid ((passTo (fun i => M.testBit i) fs X j).length = n) := (passTo_len X j).trans hXl.out
                have HP : Hid (passTo (fun i => M.testBit i) fs X (j + 1) = joinF f (passTo (fun i => M.testBit i) fs X j)) := by unfold Hid; rw [passTo_no gb, hfd]
                have HC2 : Hid (chgB (fun i => M.testBit i) fs X (j + 1) = (ch || !(valL (passTo (fun i => M.testBit i) fs X j) a == valL (passTo (fun i => M.testBit i) fs X j) e))) := by
                  show (chgB (fun i => M.testBit i) fs X j || (!(M.testBit j) && !(valL (passTo (fun i => M.testBit i) fs X j) (fibD fs j).a.toNat == valL (passTo (fun i => M.testBit i) fs X j) (fibD fs j).b.toNat))) = _
                  rw [← HCH.out, gb, hfd, ha, hb]; rfl
                generalize passTo (fun i => M.testBit i) fs X j = Y at *
                have v0 := hS.int_at 0 rfl (j := a) (by rw [hpl.out]; omega)
                have v1 := hS.int_at 0 rfl (j := e) (by rw [hpl.out]; omega)
                have V0 : ∀ w', Cls wz w' → w'.cell? ⟨g, a, none⟩ = some (.int .i64 (valL Y a)) := fun _ h => h.cell v0
                have V1 : ∀ w', Cls wz w' → w'.cell? ⟨g, e, none⟩ = some (.int .i64 (valL Y e)) := fun _ h => h.cell v1
                clear v0 v1
                cases gv : (valL Y a == valL Y e)
                · have HJ : Hid (joinF f Y = (Y.set a (min (valL Y a) (valL Y e))).set e (min (valL Y a) (valL Y e))) := by unfold Hid joinF; rw [ha, hb]; simp
                  have HQ : Hid (chgB (fun i => M.testBit i) fs X (j + 1) = true) := by unfold Hid; rw [HC2.out, gv]; simp
                  clear HC2 HCH hfd ha hb gb
                  refine region_cls (by kernel_rfl) (by kernel_rfl) ?_
                  repeat (first
                    | ((with_reducible refine quiet_pos ?_ (fun K hK => ?_))
                       · rfl
                       apply Exists.intro
                       refine ⟨fun w' hw' => ?_, ?_⟩
                       · go_simp
                         with_reducible rfl
                       simp only [Act.put, List.setIfInBounds_toArray, List.set_cons_zero, List.set_cons_succ]
                       refine hK _ ?_; clear hK K)
                    | ((with_reducible refine quiet_neg ?_ (fun K hK => ?_))
                       · rfl
                       simp only [Act.put, List.setIfInBounds_toArray, List.set_cons_zero, List.set_cons_succ]
                       refine hK _ ?_; clear hK K))
                  with_reducible refine wpQuiet_nil ?_
                  intro wz hwz'
                  have hS2 := hS.step hwz'
                  have V0' : ∀ w', Cls wz w' → w'.cell? ⟨g, a, none⟩ = some (.int .i64 (valL Y a)) := fun _ h => V0 _ (bl_then hwz' h)
                  have V1' : ∀ w', Cls wz w' → w'.cell? ⟨g, e, none⟩ = some (.int .i64 (valL Y e)) := fun _ h => V1 _ (bl_then hwz' h)
                  clear hS V0 V1 hwz'
                  go_wp2_with fail
                  refine region_cls (by kernel_rfl) (by kernel_rfl) ?_
                  repeat (first
                    | ((with_reducible refine quiet_pos ?_ (fun K hK => ?_))
                       · rfl
                       apply Exists.intro
                       refine ⟨fun w' hw' => ?_, ?_⟩
                       · go_simp
                         first
                           | with_reducible rfl
                           | (go_at_call 207; with_reducible exact hw'.same (least_any _ _ _))
                       simp only [Act.put, List.setIfInBounds_toArray, List.set_cons_zero, List.set_cons_succ]
                       refine hK _ ?_; clear hK K)
                    | ((with_reducible refine quiet_neg ?_ (fun K hK => ?_))
                       · rfl
                       simp only [Act.put, List.setIfInBounds_toArray, List.set_cons_zero, List.set_cons_succ]
                       refine hK _ ?_; clear hK K))
                  with_reducible refine wpQuiet_nil ?_
                  intro wz hwz'
                  have hS := hS2.step hwz'
                  clear hS2 V0' V1' hwz'
                  have v0 := hS.int_at 0 rfl (j := a) (by rw [hpl.out]; omega)
                  have v1 := hS.int_at 0 rfl (j := e) (by rw [hpl.out]; omega)
                  have y0 := hS.int_free 0 rfl a
                  have y1 := hS.int_free 0 rfl e
                  have hS3 := hS.int_set 0 rfl (j := a) (by rw [hpl.out]; omega) (min (valL Y a) (valL Y e))
                  have v2 := hS3.int_at 0 rfl (j := e) (by simp; rw [hpl.out]; omega)
                  have y2 := hS3.int_free 0 rfl e
                  have HS4 := hid (hS3.int_set 0 rfl (j := e) (by simp; rw [hpl.out]; omega) (min (valL Y a) (valL Y e)))
                  clear hS hS3
                  go_wp2_with fail
                  refine ⟨?_, by simp [intOf]; omega⟩
                  first
                    | exact ⟨j + 1, by omega, by go_num, by rw [HQ.out], by rw [HP.out, HJ.out]; exact HS4⟩
                    | ((repeat apply Exists.intro); exact ⟨⟨j + 1, by omega, by go_num, by rw [HQ.out], by rw [HP.out, HJ.out]; exact HS4⟩, rfl⟩)
                · have he2 : valL Y a = valL Y e := by simpa using gv
                  have HJ : Hid (joinF f Y = Y) := by
                    refine joinF_same (n := n) hpl.out (by omega) (by omega) (by omega) ?_
                    rw [ha, hb]; simpa using he2
                  have HQ : Hid (chgB (fun i => M.testBit i) fs X (j + 1) = ch) := by unfold Hid; rw [HC2.out, gv]; simp
                  clear HC2 HCH hfd ha hb he2 gb
                  refine region_cls (by kernel_rfl) (by kernel_rfl) ?_
                  repeat (first
                    | ((with_reducible refine quiet_pos ?_ (fun K hK => ?_))
                       · rfl
                       apply Exists.intro
                       refine ⟨fun w' hw' => ?_, ?_⟩
                       · go_simp
                         with_reducible rfl
                       simp only [Act.put, List.setIfInBounds_toArray, List.set_cons_zero, List.set_cons_succ]
                       refine hK _ ?_; clear hK K)
                    | ((with_reducible refine quiet_neg ?_ (fun K hK => ?_))
                       · rfl
                       simp only [Act.put, List.setIfInBounds_toArray, List.set_cons_zero, List.set_cons_succ]
                       refine hK _ ?_; clear hK K))
                  with_reducible refine wpQuiet_nil ?_
                  intro wz hwz'
                  have HS3 := hid (hS.step hwz')
                  clear hS
                  go_wp2_with fail
                  refine ⟨?_, by simp [intOf]; omega⟩
                  first
                    | exact ⟨j + 1, by omega, by go_num, by rw [HQ.out], by rw [HP.out, HJ.out]; exact HS3⟩
                    | ((repeat apply Exists.intro); exact ⟨⟨j + 1, by omega, by go_num, by rw [HQ.out], by rw [HP.out, HJ.out]; exact HS3⟩, rfl⟩)
              · rw [gb] at ib
                simp only [if_true] at ib
                have HP : Hid (passTo (fun i => M.testBit i) fs X (j + 1) = passTo (fun i => M.testBit i) fs X j) := by unfold Hid; rw [passTo_succ, gb]; rfl
                have HQ : Hid (chgB (fun i => M.testBit i) fs X (j + 1) = ch) := by
                  show (chgB (fun i => M.testBit i) fs X j || (!(M.testBit j) && _)) = _
                  rw [← HCH.out, gb]; simp
                clear HCH hfd ha hb gb
                refine region_cls (by kernel_rfl) (by kernel_rfl) ?_
                repeat (first
                  | ((with_reducible refine quiet_pos ?_ (fun K hK => ?_))
                     · rfl
                     apply Exists.intro
                     refine ⟨fun w' hw' => ?_, ?_⟩
                     · go_simp
                       with_reducible rfl
                     simp only [Act.put, List.setIfInBounds_toArray, List.set_cons_zero, List.set_cons_succ]
                     refine hK _ ?_; clear hK K)
                  | ((with_reducible refine quiet_neg ?_ (fun K hK => ?_))
                     · rfl
                     simp only [Act.put, List.setIfInBounds_toArray, List.set_cons_zero, List.set_cons_succ]
                     refine hK _ ?_; clear hK K))
                with_reducible refine wpQuiet_nil ?_
                intro wz hwz'
                have HS3 := hid (hS.step hwz')
                clear hS
                go_wp2_with fail
                refine ⟨?_, by simp [intOf]; omega⟩
                first
                  | exact ⟨j + 1, by omega, by go_num, by rw [HQ.out], by rw [HP.out]; exact HS3⟩
                  | ((repeat apply Exists.intro); exact ⟨⟨j + 1, by omega, by go_num, by rw [HQ.out], by rw [HP.out]; exact HS3⟩, rfl⟩)
            · have hjm : j = fs.length := by have := hlf.out; omega
              have HR : Hid (rndL (fun i => M.testBit i) fs n (r + 1) = passTo (fun i => M.testBit i) fs X j) := by unfold Hid; rw [HN.out, hjm]; rfl
              have HG1 : Hid (ch = true → r + 1 ≤ n) := fun hc => by
                apply Classical.byContradiction
                intro hlt
                have h1 := rndL_late (q := fun i => M.testBit i) HE.out (show n ≤ r by omega)
                rw [HN.out, ← HX.out] at h1
                exact chgB_yes hXl.out HE.out (Nat.le_of_eq hjm) (by rw [← HCH.out]; exact hc) h1
              have HG2 : Hid (ch = false → rndL (fun i => M.testBit i) fs n (r + 1) = compL (fun i => M.testBit i) fs n) := fun hc => by
                have h1 := chgB_no (q := fun i => M.testBit i) hXl.out HE.out (Nat.le_of_eq hjm) (by rw [← HCH.out]; exact hc)
                have h2 : rndL (fun i => M.testBit i) fs n (r + 1) = rndL (fun i => M.testBit i) fs n r := by rw [HR.out, h1, HX.out]
                rw [h2]
                exact rndL_done HE.out h2
              clear hjm
              go_wp2_with fail
              go_roundg (gk - 1)
              case measure => omega
              case rel => exact ⟨r + 1, ch, rfl, by omega, HG1, HG2, by rw [HR.out]; exact HS⟩
end
end Go.Proofs.Ytgoegldffjfmdaa
/- ComponentsOf of both sides, walked. Conditions: none. -/
namespace Go.Proofs.Ytgoegldffjfmdaa
open Go.RowKit
section
variable {n c m d c' : Nat} {A A' V : Option Addr} {xs : List ByteArray} {fs : List Fib} {l : List Int}
/-- The list is a set of fibers of a valid network. -/
def coB (xs : List ByteArray) (fs : List Fib) (l : List Int) : Bool := goodB xs fs && risB 0 ((fs.length : Int) - 1) l
def coL (xs : List ByteArray) (fs : List Fib) (l : List Int) : List Int := if coB xs fs l then compL (goneF l) fs xs.length else []
theorem coB_mem (h : coB xs fs l = true) : ∀ x ∈ l, 0 ≤ x ∧ x < fs.length := by
  intro x hx
  unfold coB risB at h
  rw [Bool.and_eq_true] at h
  obtain ⟨k, hk, e⟩ := List.mem_iff_getElem.1 hx
  have h1 := allB_iff.1 h.2 k hk
  unfold riseAt at h1
  rw [Bool.and_eq_true, getD_of (by rw [List.getElem?_eq_getElem hk, e])] at h1
  exact inB_idx h1.1
theorem coL_len : (coL xs fs l).length ≤ 8 := by
  unfold coL
  cases g : coB xs fs l
  · simp
  · unfold coB at g
    rw [Bool.and_eq_true] at g
    have := (goodB_bd g.1).2.1
    simp [compL_len]; omega
theorem passTo_congr {q q' : Nat → Bool} {X : List Int} : ∀ j, (∀ i, i < j → q i = q' i) → passTo q fs X j = passTo q' fs X j := by
  intro j
  induction j with
  | zero => intro _; rfl
  | succ j ih => intro h; rw [passTo_succ, passTo_succ, h j (by omega), ih (fun i hi => h i (by omega))]
theorem compL_congr {q q' : Nat → Bool} (h : ∀ i, i < fs.length → q i = q' i) : compL q fs n = compL q' fs n := by
  suffices hh : ∀ k, rndL q fs n k = rndL q' fs n k from hh n
  intro k
  induction k with
  | zero => rfl
  | succ k ih => rw [rndL_succ, rndL_succ, ih]; exact passTo_congr _ h
set_option maxRecDepth 100000 in
theorem isFiberSet_any (w : World) (h : NetIs w A n c A' m d xs fs) (hv : Sees elInt w w.heap.size V l.length l) (hl : l.length ≤ 1048576) :
    Calls Try.prog 127 #[.agg #[.slice A n c, .slice A' m d], .slice V l.length c'] w fun e w' => e = .returned (.bool (coB xs fs l)) ∧ Below w.heap.size w w' := by
  have hS := (Led.nil w).blk_ w.heap.size rfl 34 #[.slice A n c, .slice A' m d]
  have hm := h.mle
  have HB : Hid (coB xs fs l = (goodB xs fs && risB 0 ((m : Int) - 1) l)) := by unfold Hid coB; rw [h.flen]
  cases g : goodB xs fs
  · go_enter Try.func127, Try.ntmps127
    go_wp2_with fail
    refine (validN _ (h.grow hS.bl)).mono ?_
    rintro e w1 ⟨rfl, hb⟩
    rw [g]
    go_wp2_with fail
    go_ret
    exact ⟨by rw [HB.out, g]; rfl, bl_then hS.bl hb⟩
  · go_enter Try.func127, Try.ntmps127
    go_wp2_with fail
    refine (validN _ (h.grow hS.bl)).mono ?_
    rintro e w1 ⟨rfl, hb⟩
    rw [g]
    replace hS := hS.step hb
    have q1 := hS.cell 0 1 rfl rfl
    go_wp2_with fail
    refine (isSet_any m _ (hv.grow hS.bl) hl hm).mono ?_
    rintro e w2 ⟨rfl, rfl⟩
    go_wp2_with fail
    go_ret
    exact ⟨by rw [HB.out, g]; rfl, hS.bl⟩
set_option maxHeartbeats 1000000 in
set_option maxRecDepth 100000 in
theorem implComponentsOf (w : World) (h : NetIs w A n c A' m d xs fs) (hv : Sees elInt w w.heap.size V l.length l) (hl : l.length ≤ 1048576) :
    Calls Try.prog 123 #[.agg #[.slice A n c, .slice A' m d], .slice V l.length c'] w fun e w' => ∃ v, e = .returned (.tuple #[v, .bool (coB xs fs l)]) ∧ Owns elInt w' w.heap.size 3 v (coL xs fs l) ∧ Below w.heap.size w w' := by
  have hS := (Led.nil w).blk_ w.heap.size rfl 34 #[.slice A n c, .slice A' m d]
  cases g : coB xs fs l
  · have H : Hid (coL xs fs l = []) := by unfold Hid coL; rw [g]; rfl
    go_enter Try.func123, Try.ntmps123
    go_wp2_with fail
    refine (isFiberSet_any _ (h.grow hS.bl) ((hv.grow hS.bl).more hS.bl.size) hl).mono ?_
    rintro e w1 ⟨rfl, hb⟩
    rw [g]
    go_wp2_with fail
    go_ret2
    exact ⟨_, rfl, by rw [H.out]; exact World.ownsRow_nil _ _ _ _, bl_then hS.bl hb⟩
  · have H : Hid (coL xs fs l = compL (goneF l) fs n) := by unfold Hid coL; rw [g, h.xlen]; rfl
    have hg : goodB xs fs = true := by unfold coB at g; rw [Bool.and_eq_true] at g; exact g.1
    have he := goodB_ends hg
    rw [h.xlen] at he
    have hn0 : 0 < n := by have := (goodB_bd hg).1; have := h.xlen; omega
    go_enter Try.func123, Try.ntmps123
    go_wp2_with fail
    refine (isFiberSet_any _ (h.grow hS.bl) ((hv.grow hS.bl).more hS.bl.size) hl).mono ?_
    rintro e w1 ⟨rfl, hb⟩
    rw [g]
    replace hS := hS.step hb
    have q0 := hS.cell 0 0 rfl rfl
    have q1 := hS.cell 0 1 rfl rfl
    go_wp2_with fail
    refine (components_any _ (h.grow hS.bl) (hv.grow hS.bl) hl he hn0).mono ?_
    rintro e w2 ⟨v, rfl, ho, hb2⟩
    have HO := hid (ho.base hS.bl.size)
    clear ho
    go_wp2_with fail
    go_ret2
    exact ⟨_, rfl, by rw [H.out]; exact HO.out, bl_then hS.bl hb2⟩
/-- The labels by a set's number. -/
theorem compL_mask (h : coB xs fs l = true) : compL (fun i => (maskN l).testBit i) fs n = compL (goneF l) fs n :=
  compL_congr fun i _ => maskN_bit (fun x hx => (coB_mem h x hx).1) i
theorem mask_small (h : coB xs fs l = true) : maskN l < 2 ^ 20 ∧ ∀ x ∈ l, 0 ≤ x ∧ x < 20 := by
  have hg : goodB xs fs = true := by unfold coB at h; rw [Bool.and_eq_true] at h; exact h.1
  have h14 := (goodB_bd hg).2.2
  have hx : ∀ x ∈ l, 0 ≤ x ∧ x < 20 := fun x hx => by have := coB_mem h x hx; omega
  exact ⟨maskTo_lt hx _ (Nat.le_refl _), hx⟩
end
end Go.Proofs.Ytgoegldffjfmdaa
/- The risk group of a fiber: the reference's, walked. Conditions: none. -/
namespace Go.Proofs.Ytgoegldffjfmdaa
open Go.RowKit
variable {n c m d : Nat} {A A' : Option Addr} {xs : List ByteArray} {fs : List Fib}
def riskF (fs : List Fib) (j : Nat) : Int := (fs.getD j ⟨0, 0, 0, 0⟩).risk
/-- The fibers that fail together with fiber i. -/
def groupL (fs : List Fib) (i : Nat) : List Int := if riskF fs i == 0 then [(i : Int)] else idsTo (fun j => riskF fs j == riskF fs i) fs.length
theorem riskF_of {j : Nat} {f : Fib} (h : fs[j]? = some f) : riskF fs j = f.risk := by unfold riskF; rw [getD_of h]
theorem filled_int1 (s : Int) : Filled elInt #[.int .i64 s] [s] 1 := by
  intro j x hj hx i u hu
  obtain rfl : j = 0 := by omega
  simp at hx; subst hx
  match i, hu with
  | 0, hu => simp [elInt] at hu; subst hu; rfl
set_option maxHeartbeats 1000000 in
set_option maxRecDepth 100000 in
theorem l2Group_any (i : Nat) (w : World) (h : NetIs w A n c A' m d xs fs) (hi' : i < m) :
    Calls Try.prog 178 #[.agg #[.slice A n c, .slice A' m d], .int .i64 i] w fun e w' => ∃ s : Sl, e = .returned (slV s) ∧ Owns elInt w' w.heap.size 3 (slV s) (groupL fs i) ∧ Below w.heap.size w w' := by
  obtain ⟨i0, hi, hz0, hz1, hz2⟩ := info_parts int_info
  have hb0 := bl_alloc (Below.refl w.heap.size w) (.cells #[.slice A n c, .slice A' m d] 34)
  have hx0 : Blk (w.alloc (.cells #[.slice A n c, .slice A' m d] 34)) w.heap.size 34 #[.slice A n c, .slice A' m d] := Blk.new _ _ _
  have h0 := h.grow hb0
  have hlf := h.flen
  have hm := h.mle
  have hsz0 : (w.alloc (.cells #[.slice A n c, .slice A' m d] 34)).heap.size = w.heap.size + 1 := by simp
  have q1 := hx0.cell 1
  simp at q1
  obtain ⟨fi, hfi⟩ := get_of (k := i) hlf hi'
  obtain ⟨b, o, rfl, _, hc⟩ := h0.fibs.at_ hi'
  have fr := hc i fi hfi 3 _ rfl
  simp only [elFib] at fr
  cases g : (fi.risk == 0)
  · have H : Hid (groupL fs i = idsTo (fun j => riskF fs j == fi.risk) m) := by unfold Hid groupL; rw [riskF_of hfi, g, hlf]; rfl
    have hoe : Hid (Owns elInt ((w.alloc (.cells #[.slice A n c, .slice (some ⟨b, o, none⟩) m d] 34)).alloc (.cells #[] 3)) (w.heap.size + 1) 3 (.slice (some ⟨w.heap.size + 1, 0, none⟩) 0 0) (idsTo (fun j => riskF fs j == fi.risk) 0)) :=
      Owns.of_blk (n := 0) (cap := 0) (cur := #[]) (by have := Blk.new (w.alloc (.cells #[.slice A n c, .slice (some ⟨b, o, none⟩) m d] 34)) 3 #[]; simpa using this) (Nat.le_refl _) rfl (Nat.le_refl _) rfl (by decide) (Filled.zero _ _ _)
    have hbe : Below (w.alloc (.cells #[.slice A n c, .slice (some ⟨b, o, none⟩) m d] 34)).heap.size (w.alloc (.cells #[.slice A n c, .slice (some ⟨b, o, none⟩) m d] 34)) ((w.alloc (.cells #[.slice A n c, .slice (some ⟨b, o, none⟩) m d] 34)).alloc (.cells #[] 3)) := bl_alloc (Below.refl _ _) _
    have HC := hid hc
    clear hfi hc
    go_enter Try.func178, Try.ntmps178
    go_wp2_with fail
    generalize hw0 : w.alloc (.cells #[.slice A n c, .slice (some ⟨b, o, none⟩) m d] 34) = w0 at *
    go_loopw [5, 6] (fun v i wr => ∃ k : Nat, k ≤ m ∧ i = .int .i64 k ∧ Hid (Owns elInt wr (w.heap.size + 1) 3 v (idsTo (fun j => riskF fs j == fi.risk) k)) ∧ Below w0.heap.size w0 wr) (fun _ i _ => m - (intOf i).toNat)
    case atStart => exact ⟨0, Nat.zero_le _, rfl, hoe, hbe⟩
    case round =>
      clear hbe hoe q1
      obtain ⟨k, hk, rfl, hown, hb⟩ := hrel
      have q1 := (hx0.below hb hx0.lt).cell 1
      simp at q1
      by_cases hlt : k < m
      · obtain ⟨f, hfk⟩ := get_of (k := k) hlf hlt
        have f3 := bl_cell hb (HC.out k f hfk 3 _ rfl)
        have fr' := bl_cell hb fr
        simp only [elFib] at f3
        have T0 : ∀ w', Cls wr w' → w'.cell? ⟨b, o + k * 4 + 3, none⟩ = some (.int .i64 f.risk) := fun _ h => h.cell f3
        have T1 : ∀ w', Cls wr w' → w'.cell? ⟨b, o + i * 4 + 3, none⟩ = some (.int .i64 fi.risk) := fun _ h => h.cell fr'
        have Q1 : ∀ w', Cls wr w' → w'.cell? ⟨w.heap.size, 1, none⟩ = some (.slice (some ⟨b, o, none⟩) m d) := fun _ h => h.cell q1
        have iz : (k : Int) < (m : Int) := by omega
        have iz2 : (i : Int) < (m : Int) := by omega
        have hp : Hid ((riskF fs k == fi.risk) = (f.risk == fi.risk)) := by unfold Hid; rw [riskF_of hfk]
        have hwz := hb.size
        have hll := idsTo_len (fun j => riskF fs j == fi.risk) k
        clear hfk f3 fr'
        go_wp2
        refine region_cls (by kernel_rfl) (by kernel_rfl) ?_
        repeat (first
          | ((with_reducible refine quiet_pos ?_ (fun K hK => ?_))
             · rfl
             apply Exists.intro
             refine ⟨fun w' hw' => ?_, ?_⟩
             · go_simp
               with_reducible rfl
             simp only [Act.put, List.setIfInBounds_toArray, List.set_cons_zero, List.set_cons_succ]
             refine hK _ ?_; clear hK K)
          | ((with_reducible refine quiet_neg ?_ (fun K hK => ?_))
             · rfl
             simp only [Act.put, List.setIfInBounds_toArray, List.set_cons_zero, List.set_cons_succ]
             refine hK _ ?_; clear hK K))
        with_reducible refine wpQuiet_nil ?_
        intro wz hwz'
        have hbZ := bl_then hb hwz'
        have hoZ : Hid (Owns elInt _ _ _ _ _) := hown.out.below hwz'
        have hzz := hwz'.size
        clear hown T0 T1 Q1 q1 hb
        cases g3 : (f.risk == fi.risk)
        · have HN : Hid (idsTo (fun j => riskF fs j == fi.risk) (k + 1) = idsTo (fun j => riskF fs j == fi.risk) k) := idsTo_no (hp.out.trans g3)
          have HO := hoZ
          rw [← HN.out] at HO
          clear hp hoZ
          go_wp2
          exact ⟨⟨k + 1, by omega, by go_num, HO, hbZ⟩, by simp [intOf]; omega⟩
        · have HN : Hid (idsTo (fun j => riskF fs j == fi.risk) (k + 1) = idsTo (fun j => riskF fs j == fi.risk) k ++ [(k : Int)]) := idsTo_yes (hp.out.trans g3)
          have hbG := bl_alloc hbZ (.cells #[.int .i64 k] 3)
          have hoG : Hid (Owns elInt _ _ _ _ _) := hoZ.out.below (bl_alloc (Below.refl _ _) (.cells #[.int .i64 k] 3))
          clear hp hoZ
          go_wp2_with (first
            | (at_builtin; refine wpList_append_own _ rfl _ _ 27 rfl (w.heap.size + 1) 3 i0 (.int .i64 0) 1 8 Try.underlying27 hi hz0 hz1 hz2 rfl (by decide) _ (idsTo (fun j => riskF fs j == fi.risk) k).length ((idsTo (fun j => riskF fs j == fi.risk) k).flatMap elInt.cells) rfl hoG.out ⟨_, 0, none⟩ 1 1 [.int .i64 k] rfl rfl (one_new _ _ _ (by simp)) (fun u hu => by simp at hu; subst hu; rfl) (by unfold maxLen; omega) (by omega) (by simp; omega) ?_)
            | go_in)
          intro v' w1 hown' hgrow _
          have HO : Hid (Owns elInt w1 (w.heap.size + 1) 3 v' (idsTo (fun j => riskF fs j == fi.risk) (k + 1))) := by unfold Hid; rw [HN.out]; exact Owns.appended hown'
          have hbN := bl_grown hbG hgrow (fun g hg => by have := (hoG.out.lies g hg).1; omega)
          clear hown' hgrow hoG hbG
          go_wp2
          go_roundw
          case rel => exact ⟨k + 1, by omega, by go_num, HO, hbN⟩
          case measure => simp [intOf]; omega
      · have hkm : k = m := by omega
        rw [hkm] at hown
        obtain ⟨Ao, co, rfl, _, _, _⟩ := hown.out.form
        clear hlt
        go_wp2
        go_ret
        exact ⟨⟨Ao, _, co⟩, rfl, by rw [H.out]; exact hown.out.base (by omega), hb0.trans (hb.mono (by omega))⟩
  · have H : Hid (groupL fs i = [(i : Int)]) := by unfold Hid groupL; rw [riskF_of hfi, g]; rfl
    clear hfi hc
    go_enter Try.func178, Try.ntmps178
    go_wp2_with fail
    go_ret
    exact ⟨⟨some ⟨w.heap.size + 1, 0, none⟩, 1, 1⟩, rfl, by rw [H.out]; exact Owns.of_blk (n := 1) (cap := 1) (cur := #[.int .i64 i]) (by have := Blk.new (w.alloc (.cells #[.slice A n c, .slice (some ⟨b, o, none⟩) m d] 34)) 3 #[.int .i64 i]; simpa using this) (Nat.le_succ _) rfl (Nat.le_refl _) rfl (by decide) (filled_int1 _), bl_alloc hb0 _⟩
end Go.Proofs.Ytgoegldffjfmdaa
