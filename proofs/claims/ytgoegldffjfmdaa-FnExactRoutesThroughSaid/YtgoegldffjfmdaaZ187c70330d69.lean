/- Lemmas and walks that the claim rests on, laid together. Conditions: none. -/
import Derived.Test.YtgoegldffjfmdaaZ1d5c62f55585
import Derived.Test.YtgoegldffjfmdaaZ30c26adfc633
import Derived.Test.YtgoegldffjfmdaaZ61585cc44595
/- Distances by relaxing along fibers: as many rounds as there are nodes suffice. Plain Lean. Conditions: the fibers' ends are nodes, lengths are positive. -/
namespace Go.Proofs.Ytgoegldffjfmdaa
/-- x is as good a distance as y; what is below 0 is none. -/
def better (x y : Int) : Prop := y < 0 ∨ (0 ≤ x ∧ x ≤ y)
theorem better_refl (x : Int) : better x x := by unfold better; omega
theorem better_trans {x y z : Int} (h : better x y) (k : better y z) : better x z := by unfold better at *; omega
/-- May v be reached better by way of u? -/
def canB (u v : Nat) (l : Int) (D : List Int) : Bool := decide (0 ≤ valL D u) && (decide (valL D v < 0) || decide (valL D u + l < valL D v))
def relax (u v : Nat) (l : Int) (D : List Int) : List Int := if canB u v l D then D.set v (valL D u + l) else D
/-- Each fiber there and back. -/
def arcU (fs : List Fib) (j : Nat) : Nat := if j % 2 = 0 then (fibD fs (j / 2)).a.toNat else (fibD fs (j / 2)).b.toNat
def arcV (fs : List Fib) (j : Nat) : Nat := if j % 2 = 0 then (fibD fs (j / 2)).b.toNat else (fibD fs (j / 2)).a.toNat
def arcLn (fs : List Fib) (j : Nat) : Int := (fibD fs (j / 2)).len
def dstTo (q : Nat → Bool) (fs : List Fib) (D : List Int) : Nat → List Int
  | 0 => D
  | j + 1 => if q (j / 2) then dstTo q fs D j else relax (arcU fs j) (arcV fs j) (arcLn fs j) (dstTo q fs D j)
theorem dstTo_succ (q : Nat → Bool) (fs : List Fib) (D : List Int) (j : Nat) : dstTo q fs D (j + 1) = if q (j / 2) then dstTo q fs D j else relax (arcU fs j) (arcV fs j) (arcLn fs j) (dstTo q fs D j) := rfl
theorem dstTo_no {q : Nat → Bool} {fs : List Fib} {D : List Int} {j : Nat} (h : q (j / 2) = false) : dstTo q fs D (j + 1) = relax (arcU fs j) (arcV fs j) (arcLn fs j) (dstTo q fs D j) := by rw [dstTo_succ, h]; rfl
def dstPass (q : Nat → Bool) (fs : List Fib) (D : List Int) : List Int := dstTo q fs D (2 * fs.length)
def dst0 (n s : Nat) : List Int := (List.replicate n (-1)).set s 0
def dstRnd (q : Nat → Bool) (fs : List Fib) (n s : Nat) : Nat → List Int
  | 0 => dst0 n s
  | k + 1 => dstPass q fs (dstRnd q fs n s k)
/-- The distances from s; -1 where there is no way. -/
def distL (q : Nat → Bool) (fs : List Fib) (n s : Nat) : List Int := dstRnd q fs n s n
/-- Lengths are positive. -/
def lensB (fs : List Fib) : Prop := ∀ i, i < fs.length → 1 ≤ (fibD fs i).len
section
variable {q : Nat → Bool} {fs : List Fib} {n s : Nat}
theorem arc_in (he : endsB n fs) {j : Nat} (hj : j < 2 * fs.length) : arcU fs j < n ∧ arcV fs j < n ∧ arcU fs j ≠ arcV fs j := by
  obtain ⟨h0, h1, h2⟩ := he (j / 2) (by omega)
  unfold arcU arcV
  split <;> omega
theorem arc_len (hl : lensB fs) {j : Nat} (hj : j < 2 * fs.length) : 1 ≤ arcLn fs j := hl _ (by omega)
theorem relax_len (u v : Nat) (l : Int) (D : List Int) : (relax u v l D).length = D.length := by unfold relax; split <;> simp
theorem relax_val {u v w : Nat} {l : Int} {D : List Int} (hv : v < D.length) : valL (relax u v l D) w = if w = v ∧ canB u v l D = true then valL D u + l else valL D w := by
  unfold relax
  cases h : canB u v l D
  · simp
  · simp only [if_true]
    rw [valL_set hv]
    by_cases e : w = v
    · simp [e]
    · simp [e]
theorem canB_iff {u v : Nat} {l : Int} {D : List Int} : canB u v l D = true ↔ 0 ≤ valL D u ∧ (valL D v < 0 ∨ valL D u + l < valL D v) := by
  unfold canB; simp
theorem dstTo_len (D : List Int) (j : Nat) : (dstTo q fs D j).length = D.length := by
  induction j with
  | zero => rfl
  | succ j ih => rw [dstTo_succ]; split; exact ih; rw [relax_len]; exact ih
theorem dst0_len : (dst0 n s).length = n := by simp [dst0]
theorem dstRnd_len (k : Nat) : (dstRnd q fs n s k).length = n := by
  induction k with
  | zero => exact dst0_len
  | succ k ih => show (dstPass q fs (dstRnd q fs n s k)).length = n; unfold dstPass; rw [dstTo_len]; exact ih
theorem distL_len : (distL q fs n s).length = n := dstRnd_len n
theorem dstTo_step {D : List Int} (hD : D.length = n) (he : endsB n fs) (hl : lensB fs) {j : Nat} (hj : j < 2 * fs.length) (w : Nat) : better (valL (dstTo q fs D (j + 1)) w) (valL (dstTo q fs D j) w) := by
  rw [dstTo_succ]
  split
  · exact better_refl _
  · obtain ⟨hu, hv, _⟩ := arc_in he hj
    have := arc_len hl hj
    rw [relax_val (by rw [dstTo_len, hD]; exact hv)]
    split
    · rename_i h
      have h2 := canB_iff.1 h.2
      rw [h.1]
      unfold better; omega
    · exact better_refl _
theorem dstTo_mono {D : List Int} (hD : D.length = n) (he : endsB n fs) (hl : lensB fs) {i j : Nat} (hij : i ≤ j) (hj : j ≤ 2 * fs.length) (w : Nat) : better (valL (dstTo q fs D j) w) (valL (dstTo q fs D i) w) := by
  induction j with
  | zero => rw [show i = 0 by omega]; exact better_refl _
  | succ j ih =>
    rcases Nat.lt_or_ge i (j + 1) with h | h
    · exact better_trans (dstTo_step hD he hl (by omega) w) (ih (by omega) (by omega))
    · rw [show i = j + 1 by omega]; exact better_refl _
theorem dstPass_better {D : List Int} (hD : D.length = n) (he : endsB n fs) (hl : lensB fs) (w : Nat) : better (valL (dstPass q fs D) w) (valL D w) := dstTo_mono hD he hl (Nat.zero_le _) (Nat.le_refl _) w
theorem dstPass_arc {D : List Int} (hD : D.length = n) (he : endsB n fs) (hl : lensB fs) {j : Nat} (hj : j < 2 * fs.length) (hq : q (j / 2) = false) (hu : 0 ≤ valL D (arcU fs j)) :
    0 ≤ valL (dstPass q fs D) (arcV fs j) ∧ valL (dstPass q fs D) (arcV fs j) ≤ valL D (arcU fs j) + arcLn fs j := by
  have h1 := dstTo_mono (q := q) hD he hl (Nat.zero_le j) (Nat.le_of_lt hj) (arcU fs j)
  have h2 := dstTo_mono (q := q) hD he hl (show j + 1 ≤ 2 * fs.length from hj) (Nat.le_refl _) (arcV fs j)
  have e0 : dstTo q fs D 0 = D := rfl
  rw [e0] at h1
  obtain ⟨hu', hv', _⟩ := arc_in he hj
  have hl1 := arc_len hl hj
  have h3 : valL (dstTo q fs D (j + 1)) (arcV fs j) = if arcV fs j = arcV fs j ∧ canB (arcU fs j) (arcV fs j) (arcLn fs j) (dstTo q fs D j) = true then valL (dstTo q fs D j) (arcU fs j) + arcLn fs j else valL (dstTo q fs D j) (arcV fs j) := by
    rw [dstTo_no hq]; exact relax_val (by rw [dstTo_len, hD]; exact hv')
  have h4 : 0 ≤ valL (dstTo q fs D (j + 1)) (arcV fs j) ∧ valL (dstTo q fs D (j + 1)) (arcV fs j) ≤ valL (dstTo q fs D j) (arcU fs j) + arcLn fs j := by
    rw [h3]
    unfold better at h1
    split
    · omega
    · rename_i h
      have hc : ¬ (canB (arcU fs j) (arcV fs j) (arcLn fs j) (dstTo q fs D j) = true) := fun hc => h ⟨rfl, hc⟩
      rw [canB_iff] at hc
      omega
  unfold dstPass
  unfold better at h1 h2
  omega
/-- Some arc leads to a distance of c at most that is better than what is known. -/
def impP (q : Nat → Bool) (fs : List Fib) (D : List Int) (c : Int) : Prop := ∃ j, j < 2 * fs.length ∧ q (j / 2) = false ∧ canB (arcU fs j) (arcV fs j) (arcLn fs j) D = true ∧ valL D (arcU fs j) + arcLn fs j ≤ c
theorem dstTo_stay {D : List Int} (hD : D.length = n) (he : endsB n fs) (hl : lensB fs) {c : Int} (hc : ¬ impP q fs D c) {j : Nat} (hj : j ≤ 2 * fs.length) :
    ∀ w, (0 ≤ valL D w → valL D w ≤ c → valL (dstTo q fs D j) w = valL D w) ∧ (0 ≤ valL (dstTo q fs D j) w → valL (dstTo q fs D j) w ≤ c → valL D w = valL (dstTo q fs D j) w) := by
  induction j with
  | zero => exact fun w => ⟨fun _ _ => rfl, fun _ _ => rfl⟩
  | succ j ih =>
    have ih := ih (by omega)
    intro w
    rw [dstTo_succ]
    cases hq : q (j / 2)
    · simp only [Bool.false_eq_true, if_false]
      obtain ⟨hu, hv, _⟩ := arc_in he (j := j) (by omega)
      have hl1 := arc_len hl (j := j) (by omega)
      rw [relax_val (by rw [dstTo_len, hD]; exact hv)]
      by_cases h : w = arcV fs j ∧ canB (arcU fs j) (arcV fs j) (arcLn fs j) (dstTo q fs D j) = true
      · rw [if_pos h]
        obtain ⟨hw, hcan⟩ := h
        have hcan' := canB_iff.1 hcan
        have iu := ih (arcU fs j)
        have iv := ih (arcV fs j)
        rw [← hw] at iv hcan'
        have key : ¬ (valL (dstTo q fs D j) (arcU fs j) + arcLn fs j ≤ c) := by
          intro hle
          have e1 := iu.2 hcan'.1 (by omega)
          have hno : ¬ (canB (arcU fs j) (arcV fs j) (arcLn fs j) D = true) := fun hx => hc ⟨j, by omega, hq, hx, by omega⟩
          rw [canB_iff, ← hw] at hno
          have := iv.1
          omega
        constructor
        · intro a1 a2
          have := iv.1 a1 a2
          omega
        · intro a1 a2; omega
      · rw [if_neg h]; exact ih w
    · simp only [if_true]; exact ih w
theorem dstPass_stay {D : List Int} (hD : D.length = n) (he : endsB n fs) (hl : lensB fs) {c : Int} (hc : ¬ impP q fs D c) (w : Nat) :
    (0 ≤ valL D w → valL D w ≤ c → valL (dstPass q fs D) w = valL D w) ∧ (0 ≤ valL (dstPass q fs D) w → valL (dstPass q fs D) w ≤ c → valL D w = valL (dstPass q fs D) w) := dstTo_stay hD he hl hc (Nat.le_refl _) w
theorem least_of {p : Nat → Prop} (h : ∃ k, p k) : ∃ k, p k ∧ ∀ j, j < k → ¬ p j := by
  obtain ⟨k, hk⟩ := h
  induction k using Nat.strongRecOn with
  | _ k ih =>
    rcases Classical.em (∃ j, j < k ∧ p j) with ⟨j, hj, hp⟩ | hno
    · exact ih j hj hp
    · exact ⟨k, hk, fun j hj hp => hno ⟨j, hj, hp⟩⟩
/-- How many nodes have a distance of c at most. -/
def cntD (n : Nat) (D : List Int) (c : Int) : Nat := (List.range n).countP fun v => decide (0 ≤ valL D v) && decide (valL D v ≤ c)
theorem val_repl (n v : Nat) : valL (List.replicate n (-1)) v = if v < n then -1 else 0 := by
  unfold valL
  by_cases h : v < n
  · rw [if_pos h]; simp [h]
  · rw [if_neg h]; simp [h]
theorem dst0_val (hs : s < n) (v : Nat) (hv : v < n) : valL (dst0 n s) v = if v = s then 0 else -1 := by
  unfold dst0
  rw [valL_set (by simp; exact hs), val_repl, if_pos hv]
/-- No arc leads on to a better distance. -/
def dstFix (q : Nat → Bool) (fs : List Fib) (D : List Int) : Prop := ∀ c, ¬ impP q fs D c
theorem dstFix_pass {D : List Int} (hD : D.length = n) (he : endsB n fs) (hl : lensB fs) (h : dstFix q fs D) : dstPass q fs D = D := by
  refine valL_ext (by unfold dstPass; rw [dstTo_len]) (fun v => ?_)
  have h1 := dstPass_stay hD he hl (h (valL D v)) v
  have h2 := dstPass_stay hD he hl (h (valL (dstPass q fs D) v)) v
  have h3 := dstPass_better (q := q) hD he hl v
  by_cases a : 0 ≤ valL D v
  · exact h1.1 a (Int.le_refl _)
  · by_cases b : 0 ≤ valL (dstPass q fs D) v
    · exact (h2.2 b (Int.le_refl _)).symm
    · -- both are none: no step has turned it
      suffices hh : ∀ j, j ≤ 2 * fs.length → valL (dstTo q fs D j) v = valL D v from hh _ (Nat.le_refl _)
      intro j
      induction j with
      | zero => intro _; rfl
      | succ j ih =>
        intro hj
        have ih := ih (by omega)
        have hmono := dstTo_mono (q := q) hD he hl hj (Nat.le_refl _) v
        unfold dstPass at b
        rw [dstTo_succ]
        cases hq : q (j / 2)
        · simp only [Bool.false_eq_true, if_false]
          obtain ⟨hu, hv, _⟩ := arc_in he (j := j) (by omega)
          have hl1 := arc_len hl (j := j) (by omega)
          have hval : valL (dstTo q fs D (j + 1)) v = if v = arcV fs j ∧ canB (arcU fs j) (arcV fs j) (arcLn fs j) (dstTo q fs D j) = true then valL (dstTo q fs D j) (arcU fs j) + arcLn fs j else valL (dstTo q fs D j) v := by
            rw [dstTo_no hq]; exact relax_val (by rw [dstTo_len, hD]; exact hv)
          rw [relax_val (by rw [dstTo_len, hD]; exact hv)]
          split
          · rename_i hx
            rw [if_pos hx] at hval
            have := (canB_iff.1 hx.2).1
            unfold better at hmono
            omega
          · exact ih
        · simp only [if_true]; exact ih
theorem dst_or (he : endsB n fs) (hl : lensB fs) (hs : s < n) (k : Nat) :
    dstFix q fs (dstRnd q fs n s k) ∨ ∃ c, ¬ impP q fs (dstRnd q fs n s k) c ∧ k + 1 ≤ cntD n (dstRnd q fs n s k) c := by
  induction k with
  | zero =>
    right
    refine ⟨0, ?_, ?_⟩
    · rintro ⟨j, hj, hq, hc, hle⟩
      have := arc_len hl hj
      have := (canB_iff.1 hc).1
      omega
    · show 0 < cntD n (dst0 n s) 0
      unfold cntD
      rw [List.countP_pos_iff]
      exact ⟨s, by simpa using hs, by rw [dst0_val hs s hs]; simp⟩
  | succ k ih =>
    have hD : (dstRnd q fs n s k).length = n := dstRnd_len k
    rcases Classical.em (dstFix q fs (dstRnd q fs n s k)) with hf | hf
    · left
      show dstFix q fs (dstPass q fs (dstRnd q fs n s k))
      rw [dstFix_pass hD he hl hf]; exact hf
    · right
      obtain ⟨c, hc, hk⟩ := ih.resolve_left hf
      have hex : ∃ t : Nat, impP q fs (dstRnd q fs n s k) (t : Int) := by
        have ⟨c', hc'⟩ : ∃ c', impP q fs (dstRnd q fs n s k) c' := Classical.byContradiction fun h => hf fun c' hc' => h ⟨c', hc'⟩
        obtain ⟨j, hj, hq, hcan, hle⟩ := hc'
        have := (canB_iff.1 hcan).1
        have := arc_len hl hj
        exact ⟨c'.toNat, j, hj, hq, hcan, by omega⟩
      obtain ⟨t, ht, hmin⟩ := least_of hex
      have hpos : 0 < t := by
        obtain ⟨j, hj, hq, hcan, hle⟩ := ht
        have := (canB_iff.1 hcan).1
        have := arc_len hl hj
        omega
      have hprev : ¬ impP q fs (dstRnd q fs n s k) ((t : Int) - 1) := by
        have := hmin (t - 1) (by omega)
        rwa [show ((t - 1 : Nat) : Int) = (t : Int) - 1 by omega] at this
      have hct : c < t := by
        apply Classical.byContradiction
        intro h
        obtain ⟨j, hj, hq, hcan, hle⟩ := ht
        exact hc ⟨j, hj, hq, hcan, by omega⟩
      have hstay := fun w => dstPass_stay hD he hl hprev w
      refine ⟨t, ?_, ?_⟩
      · rintro ⟨j, hj, hq, hcan, hle⟩
        have h1 := canB_iff.1 hcan
        have hl1 := arc_len hl hj
        change 0 ≤ valL (dstPass q fs (dstRnd q fs n s k)) _ ∧ (valL (dstPass q fs (dstRnd q fs n s k)) _ < 0 ∨ valL (dstPass q fs (dstRnd q fs n s k)) _ + _ < valL (dstPass q fs (dstRnd q fs n s k)) _) at h1
        change valL (dstPass q fs (dstRnd q fs n s k)) _ + _ ≤ _ at hle
        have h2 := (hstay (arcU fs j)).2 h1.1 (by omega)
        have h3 := dstPass_arc (q := q) hD he hl hj hq (by omega)
        omega
      · have hlt : cntD n (dstRnd q fs n s k) c < cntD n (dstRnd q fs n s (k + 1)) t := by
          refine countP_lt (fun v _ hv => ?_) ?_
          · simp only [Bool.and_eq_true, decide_eq_true_eq] at hv ⊢
            have := (hstay v).1 hv.1 (by omega)
            show 0 ≤ valL (dstPass q fs (dstRnd q fs n s k)) v ∧ valL (dstPass q fs (dstRnd q fs n s k)) v ≤ t
            omega
          · obtain ⟨j, hj, hq, hcan, hle⟩ := ht
            have h1 := canB_iff.1 hcan
            have hl1 := arc_len hl hj
            have h3 := dstPass_arc (q := q) hD he hl hj hq h1.1
            refine ⟨arcV fs j, by simpa using (arc_in he hj).2.1, ?_, ?_⟩
            · have hge : ¬ (valL (dstRnd q fs n s k) (arcU fs j) + arcLn fs j ≤ c) := fun h => hc ⟨j, hj, hq, hcan, h⟩
              have : ¬ (0 ≤ valL (dstRnd q fs n s k) (arcV fs j) ∧ valL (dstRnd q fs n s k) (arcV fs j) ≤ c) := by omega
              simpa using this
            · simp only [Bool.and_eq_true, decide_eq_true_eq]
              show 0 ≤ valL (dstPass q fs (dstRnd q fs n s k)) _ ∧ valL (dstPass q fs (dstRnd q fs n s k)) _ ≤ t
              omega
        omega
theorem distL_fixed (he : endsB n fs) (hl : lensB fs) (hs : s < n) : dstFix q fs (distL q fs n s) := by
  rcases dst_or (q := q) he hl hs n with h | ⟨c, _, h⟩
  · exact h
  · have : cntD n (dstRnd q fs n s n) c ≤ n := by unfold cntD; exact Nat.le_trans List.countP_le_length (by simp)
    omega
theorem distL_fix (he : endsB n fs) (hl : lensB fs) (hs : s < n) : dstPass q fs (distL q fs n s) = distL q fs n s := dstFix_pass distL_len he hl (distL_fixed he hl hs)
theorem dstRnd_stay {k : Nat} (h : dstRnd q fs n s (k + 1) = dstRnd q fs n s k) : ∀ j, k ≤ j → dstRnd q fs n s j = dstRnd q fs n s k := by
  intro j
  induction j with
  | zero => intro hk; rw [show k = 0 by omega]
  | succ j ih =>
    intro hk
    rcases Nat.lt_or_ge j k with h1 | h1
    · rw [show k = j + 1 by omega]
    · show dstPass q fs (dstRnd q fs n s j) = _
      rw [ih h1]; exact h
theorem dstRnd_done (he : endsB n fs) (hl : lensB fs) (hs : s < n) {k : Nat} (h : dstRnd q fs n s (k + 1) = dstRnd q fs n s k) : dstRnd q fs n s k = distL q fs n s := by
  rcases Nat.le_total k n with h1 | h1
  · exact (dstRnd_stay h n h1).symm
  · exact dstRnd_stay (distL_fix he hl hs) k h1
theorem dstRnd_late (he : endsB n fs) (hl : lensB fs) (hs : s < n) {k : Nat} (h : n ≤ k) : dstRnd q fs n s (k + 1) = dstRnd q fs n s k := by
  rw [dstRnd_stay (distL_fix (q := q) he hl hs) k h, dstRnd_stay (distL_fix (q := q) he hl hs) (k + 1) (by omega)]
/-- Has one of the first j arcs turned a distance? -/
def dchB (q : Nat → Bool) (fs : List Fib) (D : List Int) : Nat → Bool
  | 0 => false
  | j + 1 => dchB q fs D j || (!q (j / 2) && canB (arcU fs j) (arcV fs j) (arcLn fs j) (dstTo q fs D j))
theorem dchB_no {D : List Int} {j : Nat} (h : dchB q fs D j = false) : dstTo q fs D j = D := by
  induction j with
  | zero => rfl
  | succ j ih =>
    unfold dchB at h
    rw [Bool.or_eq_false_iff] at h
    have ih := ih h.1
    rw [dstTo_succ]
    cases hq : q (j / 2)
    · have h2 := h.2
      rw [hq] at h2
      simp only [Bool.false_eq_true, if_false]
      unfold relax
      rw [if_neg (by simpa using h2)]
      exact ih
    · simp only [if_true]; exact ih
theorem dchB_yes {D : List Int} (hD : D.length = n) (he : endsB n fs) (hl : lensB fs) {j : Nat} (hj : j ≤ 2 * fs.length) (h : dchB q fs D j = true) : dstPass q fs D ≠ D := by
  have ⟨i, hi, hq, hc⟩ : ∃ i, i < 2 * fs.length ∧ q (i / 2) = false ∧ canB (arcU fs i) (arcV fs i) (arcLn fs i) (dstTo q fs D i) = true := by
    induction j with
    | zero => cases h
    | succ j ih =>
      unfold dchB at h
      rcases Bool.or_eq_true_iff.1 h with h | h
      · exact ih (by omega) h
      · exact ⟨j, by omega, by simpa using (Bool.and_eq_true_iff.1 h).1, (Bool.and_eq_true_iff.1 h).2⟩
  intro hEq
  obtain ⟨hu, hv, _⟩ := arc_in he hi
  have hl1 := arc_len hl hi
  have h1 := canB_iff.1 hc
  have e : valL (dstTo q fs D (i + 1)) (arcV fs i) = valL (dstTo q fs D i) (arcU fs i) + arcLn fs i := by
    rw [dstTo_no hq, relax_val (by rw [dstTo_len, hD]; exact hv), if_pos ⟨rfl, hc⟩]
  have k1 := dstTo_mono (q := q) hD he hl (show i + 1 ≤ 2 * fs.length from hi) (Nat.le_refl _) (arcV fs i)
  have k2 := dstTo_mono (q := q) hD he hl (Nat.zero_le i) (Nat.le_of_lt hi) (arcV fs i)
  have e0 : dstTo q fs D 0 = D := rfl
  have em : dstTo q fs D (2 * fs.length) = D := hEq
  rw [e0] at k2
  rw [em, e] at k1
  unfold better at k1 k2
  omega
/-- All but the start lie away. -/
theorem dstRnd_pos (he : endsB n fs) (hl : lensB fs) (hs : s < n) (k : Nat) : ∀ v, v < n → (v = s → valL (dstRnd q fs n s k) v = 0) ∧ (v ≠ s → valL (dstRnd q fs n s k) v = -1 ∨ 1 ≤ valL (dstRnd q fs n s k) v) := by
  induction k with
  | zero =>
    intro v hv
    show (_ → valL (dst0 n s) v = 0) ∧ (_ → valL (dst0 n s) v = -1 ∨ _)
    rw [dst0_val hs v hv]
    exact ⟨fun h => if_pos h, fun h => .inl (if_neg h)⟩
  | succ k ih =>
    have hD : (dstRnd q fs n s k).length = n := dstRnd_len k
    suffices h : ∀ j, j ≤ 2 * fs.length → ∀ v, v < n → (v = s → valL (dstTo q fs (dstRnd q fs n s k) j) v = 0) ∧ (v ≠ s → valL (dstTo q fs (dstRnd q fs n s k) j) v = -1 ∨ 1 ≤ valL (dstTo q fs (dstRnd q fs n s k) j) v) from h _ (Nat.le_refl _)
    intro j
    induction j with
    | zero => exact fun _ => ih
    | succ j ih2 =>
      intro hj v hv
      have i2 := ih2 (by omega)
      rw [dstTo_succ]
      split
      · exact i2 v hv
      · obtain ⟨hu, hv', _⟩ := arc_in he (j := j) (by omega)
        have hl1 := arc_len hl (j := j) (by omega)
        rw [relax_val (by rw [dstTo_len, hD]; exact hv')]
        split
        · rename_i hx
          have hc := canB_iff.1 hx.2
          have := i2 v hv
          rw [← hx.1] at hc
          refine ⟨fun e => ?_, fun _ => .inr (by omega)⟩
          have := this.1 e
          omega
        · exact i2 v hv
theorem distL_pos (he : endsB n fs) (hl : lensB fs) (hs : s < n) {v : Nat} (hv : v < n) : (v = s → valL (distL q fs n s) v = 0) ∧ (v ≠ s → valL (distL q fs n s) v = -1 ∨ 1 ≤ valL (distL q fs n s) v) := dstRnd_pos he hl hs n v hv
end
end Go.Proofs.Ytgoegldffjfmdaa
/- A route that came in. Conditions: none. -/
namespace Go.Proofs.Ytgoegldffjfmdaa
open Go.ChangeShapes Go.WideShapes Go.ChangeAt Go.RowKit Go.Deep Go.Joins
section
variable {H : Type} {enc : TypeId × Value → H} {W : World} {spare : Nat → Bool} {held : Bool}
theorem cellsR : Try.prog.cellsOf 112 = 2 := by kernel_rfl
/-- A route that came in. -/
def RouteArg (W : World) (s : Int) (A : Option Addr) (n c : Nat) (xs : List Int) : Prop := (-9223372036854775808 ≤ s ∧ s ≤ 9223372036854775807) ∧ IntsArg W A n c xs
set_option maxRecDepth 100000 in
theorem open_route {base : Nat} {v : Value} {d : DataW H} {p : List MemPlace} (hv : Value.okWide Try.prog W .any base 112 v) (h : DataW.Trod enc Try.prog W 0 spare held 112 v d p) :
    ∃ s A n c xs, v = .agg #[.int .i64 s, .slice A n c] ∧ RouteArg W s A n c xs := by
  obtain ⟨v0, v1, y0, y1, k, rfl, _, _, h0, h1⟩ := open_agg2 Try.underlying112 (by kernel_rfl) cellsR hv h
  obtain ⟨s, e0, hs⟩ := el_int Try.underlying3 _ _ _ h0
  obtain ⟨A, n, c, xs, e1, b1, b2, b3, b4⟩ := open_sl elInt _ Try.underlying27 cellsI (el_int Try.underlying3) h1
  simp [elInt] at e0 e1
  exact ⟨s, A, n, c, xs, by rw [e0, e1], hs, ⟨b1, b2, b3, b4⟩⟩
end
end Go.Proofs.Ytgoegldffjfmdaa
/- Routes that came in: opened, measured. Conditions: the number lies in 0 .. 1048576. -/
namespace Go.Proofs.Ytgoegldffjfmdaa
open Go.ChangeShapes Go.WideShapes Go.ChangeAt Go.RowKit Go.Deep Go.Joins
section
variable {H : Type} {enc : TypeId × Value → H} {W : World} {spare : Nat → Bool} {held : Bool}
theorem cellsSlI : Try.prog.cellsOf 27 = 1 := by kernel_rfl
/-- Where a route's fibers lie, of a route that came in. -/
def RtGood (W : World) (s : Int × Sl) : Prop := s.2.n ≤ s.2.c ∧ s.2.c ≤ maxLen ∧ ∃ r : List Int, Sees elInt W W.heap.size s.2.A s.2.n r
set_option maxRecDepth 100000 in
theorem el_rt (fuel : Nat) (cs : List Value) (y : DataW H × List MemPlace) (h : DataW.trod enc Try.prog W 0 spare held fuel 112 cs = some y) : ∃ a, cs = elRt.cells a ∧ RtGood W a := by
  obtain ⟨ys, n, _, _, hl, hyl, hf⟩ := DataW.trod_struct Try.underlying112 h
  rw [cellsR] at hl
  have h0 := hf 0 _ rfl
  have h1 := hf 1 _ rfl
  rw [List.getElem?_eq_getElem (by rw [hyl]; decide)] at h0
  rw [List.getElem?_eq_getElem (by rw [hyl]; decide)] at h1
  match cs, hl with
  | [v0, v1], _ =>
    obtain ⟨s, e0, _⟩ := el_int Try.underlying3 _ _ _ h0
    obtain ⟨A, n, c, xs, e1, b1, b2, b3, _⟩ := open_sl elInt _ Try.underlying27 cellsI (el_int Try.underlying3) h1
    simp [elInt, cellsI, cellsSlI] at e0 e1
    exact ⟨(s, ⟨A, n, c⟩), by simp [elRt, slV, e0, e1], b1, b2, xs, b3⟩
theorem rows_of {W : World} : ∀ ss : List (Int × Sl), (∀ s ∈ ss, RtGood W s) → ∃ rows : List (Int × List Int), ss.length = rows.length ∧ ∀ (i : Nat) s r, ss[i]? = some s → rows[i]? = some r → s.1 = r.1 ∧ s.2.n = r.2.length ∧ Sees elInt W W.heap.size s.2.A s.2.n r.2 := by
  intro ss
  induction ss with
  | nil => intro _; exact ⟨[], rfl, fun i s r h => by simp at h⟩
  | cons s ss ih =>
    intro h
    obtain ⟨rows, hl, hr⟩ := ih fun x hx => h x (List.mem_cons_of_mem _ hx)
    obtain ⟨_, _, r, hs⟩ := h s List.mem_cons_self
    refine ⟨(s.1, r) :: rows, by simp [hl], fun i s' r' h1 h2 => ?_⟩
    cases i with
    | zero =>
      simp at h1 h2
      subst h1; subst h2
      exact ⟨rfl, hs.len.symm, hs⟩
    | succ i => exact hr i s' r' (by simpa using h1) (by simpa using h2)
/-- A list of routes that came in. -/
def RoutesArg (W : World) (A : Option Addr) (n c : Nat) (ss : List (Int × Sl)) (rows : List (Int × List Int)) : Prop :=
  n ≤ c ∧ c ≤ maxLen ∧ SeesRS W A n ss rows ∧ ∀ s ∈ ss, s.2.n ≤ s.2.c ∧ s.2.c ≤ maxLen
set_option maxRecDepth 100000 in
theorem open_routes {base : Nat} {v : Value} {d : DataW H} {p : List MemPlace} (hv : Value.okWide Try.prog W .any base 41 v) (h : DataW.Trod enc Try.prog W 0 spare held 41 v d p) :
    ∃ A n c ss rows, v = .slice A n c ∧ RoutesArg W A n c ss rows := by
  obtain ⟨A, n, c, ss, rfl, h1, h2, h3, h4⟩ := open_sl_val elRt (RtGood W) Try.underlying41 cellsR el_rt hv h
  obtain ⟨rows, hl, hr⟩ := rows_of ss h4
  exact ⟨A, n, c, ss, rows, rfl, h1, h2, ⟨h3, hl, hr⟩, fun s hs => ⟨(h4 s hs).1, (h4 s hs).2.1⟩⟩
end
/-- The fibers of the first k routes. -/
def rtsTo (rows : List (Int × List Int)) (k : Nat) : Nat := ((rows.take k).map fun r => r.2.length).sum
def rtsTot (rows : List (Int × List Int)) : Nat := rows.length + rtsTo rows rows.length
theorem rtsTo_succ {rows : List (Int × List Int)} {k : Nat} {r : Int × List Int} (h : rows[k]? = some r) : rtsTo rows (k + 1) = rtsTo rows k + r.2.length := by
  unfold rtsTo
  rw [List.take_add_one, h]
  simp
theorem rtsTo_mono {rows : List (Int × List Int)} {j k : Nat} (h : j ≤ k) : rtsTo rows j ≤ rtsTo rows k := by
  unfold rtsTo
  obtain ⟨d, rfl⟩ := Nat.exists_eq_add_of_le h
  rw [List.take_add, List.map_append, List.sum_append]; omega
theorem rts_le_tot {rows : List (Int × List Int)} {r : Int × List Int} (h : r ∈ rows) : r.2.length ≤ rtsTot rows := by
  obtain ⟨k, hk⟩ := List.getElem?_of_mem h
  have h1 := rtsTo_succ hk
  have h2 := rtsTo_mono (rows := rows) (j := k + 1) (k := rows.length) (List.getElem?_eq_some_iff.1 hk).1
  unfold rtsTot; omega
theorem offR_tot (k : Int) (rows : List (Int × List Int)) : offR k rows rows.length = k + (rtsTot rows : Nat) := by
  have key : ∀ j, j ≤ rows.length → offR k rows j = k + ((j + rtsTo rows j : Nat) : Int) := by
    intro j
    induction j with
    | zero => intro _; rw [offR_zero]; simp [rtsTo]
    | succ j ih =>
      intro hj
      obtain ⟨r, hr⟩ : ∃ r, rows[j]? = some r := ⟨rows[j]'(by omega), List.getElem?_eq_getElem _⟩
      rw [offR_succ hr, ih (by omega), rtsTo_succ hr]
      push_cast
      omega
  rw [key _ (Nat.le_refl _)]
  rfl
set_option maxHeartbeats 1000000 in
set_option maxRecDepth 100000 in
theorem szRouteS_any {n c : Nat} {A : Option Addr} {ss : List (Int × Sl)} {rows : List (Int × List Int)} (left : Int) (w : World) (hA : SeesRS w A n ss rows) (hn : n ≤ maxLen) (hx : ∀ s ∈ ss, s.2.n ≤ maxLen) (h0 : 0 ≤ left) (hl : left ≤ 1048576) :
    Calls Try.prog 24 #[.slice A n c, .int .i64 left] w fun e w' => e = .returned (.int .i64 (lessI left (rtsTot rows))) ∧ Below w.heap.size w w' := by
  have hlr : rows.length = n := by rw [← hA.2.1]; exact hA.1.len
  have HX := hid hx
  unfold maxLen at hn
  by_cases hs : (n : Int) ≤ left
  · have HL := hid hlr
    clear hlr hx
    have e0 : decide (left - (n : Int) < 0) = false := by simp; omega
    go_enter Try.func24, Try.ntmps24
    go_wp2
    clear e0
    go_loopw [1, 5] (fun l i wr => ∃ (k : Nat) (r : Int), k ≤ n ∧ i = .int .i64 k ∧ l = .int .i64 r ∧ 0 ≤ r ∧ r ≤ 1048576 ∧ Hid (r = left - n - rtsTo rows k) ∧ Below w.heap.size w wr) (fun _ i _ => n - (intOf i).toNat)
    case atStart => exact ⟨0, left - n, Nat.zero_le _, rfl, rfl, by omega, by omega, by unfold Hid rtsTo; simp, Below.refl _ _⟩
    case round =>
      obtain ⟨k, r, hk, rfl, rfl, hr0, hr1, hr, hb⟩ := hrel
      by_cases hlt : k < n
      · obtain ⟨x, hxk⟩ := get_of (k := k) HL.out hlt
        obtain ⟨⟨s0, s⟩, hsk⟩ := get_of (k := k) hA.1.len hlt
        obtain ⟨b, o, rfl, _, hc⟩ := hA.1.at_ hlt
        have f0 := bl_cell hb (hc k _ hsk 0 _ rfl)
        have f1 := bl_cell hb (hc k _ hsk 1 _ rfl)
        simp only [elRt, Nat.add_zero, slV] at f0 f1
        have hsn : s.n = x.2.length := (hA.2.2 k _ x hsk hxk).2.1
        have hsm := HX.out _ (List.mem_of_getElem? hsk)
        simp only at hsm
        have hsucc := rtsTo_succ hxk
        have hmono := rtsTo_mono (rows := rows) (j := k + 1) (k := n) hlt
        have HC := hid (szRoute_any (R := s.A) (kr := s.n) (er := s.c) s0 r wr hsm hr0 hr1)
        clear hc hxk hsk hsm
        rcases lessI_bd (left := r) (t := s.n) with ⟨h1, h2⟩ | ⟨h1, h2, h3⟩
        · have HN : Hid (lessI left (rtsTot rows) = -1) := lessI_neg (by have := hr.out; have := HL.out; unfold rtsTot; rw [this]; omega)
          rw [h1] at HC
          clear hsucc hmono h1 h2 hsn
          go_wp2_with fail
          refine HC.out.mono ?_
          rintro e w2 ⟨rfl, hb2⟩
          have HB2 := hid (bl_then hb hb2)
          clear HC hb2
          go_wp2
          go_ret
          exact ⟨by rw [HN.out]; rfl, HB2.out⟩
        · obtain ⟨q, hq⟩ : ∃ q, q = lessI r s.n := ⟨_, rfl⟩
          have hq2 : q = r - s.n := by rw [hq]; exact lessI_pos h3
          have HR : Hid (q = left - n - rtsTo rows (k + 1)) := by have := hr.out; unfold Hid; omega
          rw [← hq] at HC h1 h2
          clear hsucc hmono hr hq hq2 h3 hsn
          go_wp2_with fail
          refine HC.out.mono ?_
          rintro e w2 ⟨rfl, hb2⟩
          have HB2 := hid (bl_then hb hb2)
          clear HC hb2 f0 f1
          go_wp2
          go_roundw
          case rel => exact ⟨k + 1, _, by omega, by go_num, rfl, by omega, by omega, HR, HB2.out⟩
          case measure => simp [intOf]; omega
      · have HR : Hid (lessI left (rtsTot rows) = r) := by
          obtain rfl : k = n := by omega
          have h1 := hr.out; have h2 := HL.out
          refine hid ?_
          rw [lessI_pos (by unfold rtsTot; rw [h2]; omega)]; unfold rtsTot; rw [h2]; omega
        clear hr
        go_wp2
        go_ret
        exact ⟨by rw [HR.out]; rfl, hb⟩
  · have HN : Hid (lessI left (rtsTot rows) = -1) := lessI_neg (by unfold rtsTot; omega)
    clear hlr hx
    go_enter Try.func24, Try.ntmps24
    go_wp2
    go_ret
    exact ⟨by rw [HN.out]; rfl, Below.refl _ _⟩
end Go.Proofs.Ytgoegldffjfmdaa
/- toRouteS, walked: routes in new memory. Conditions: at most 1048576 routes, and fibers of a route. -/
namespace Go.Proofs.Ytgoegldffjfmdaa
open Go.RowKit
def put2 (cur : Array Value) (k : Nat) (x : Int × Sl) : Array Value := (cur.setIfInBounds (k * 2) (.int .i64 x.1)).setIfInBounds (k * 2 + 1) (slV x.2)
theorem put2_size (cur : Array Value) (k : Nat) (x : Int × Sl) : (put2 cur k x).size = cur.size := by simp [put2]
theorem put2_other {cur : Array Value} {k i : Nat} {x : Int × Sl} (h : i < k * 2) : (put2 cur k x)[i]? = cur[i]? := by
  unfold put2
  rw [Array.getElem?_setIfInBounds_ne (by omega), Array.getElem?_setIfInBounds_ne (by omega)]
theorem put2_new {cur : Array Value} {k : Nat} {x : Int × Sl} (hs : k * 2 + 1 < cur.size) : ∀ i u, (elRt.cells x)[i]? = some u → (put2 cur k x)[k * 2 + i]? = some u := by
  intro i u hu
  unfold put2
  have hu' : [Value.int .i64 x.1, slV x.2][i]? = some u := hu
  match i, hu' with
  | 0, hu' =>
    rw [Array.getElem?_setIfInBounds_ne (by omega)]
    rw [Nat.add_zero, Array.getElem?_setIfInBounds_self_of_lt (by omega)]; exact hu'
  | 1, hu' => rw [Array.getElem?_setIfInBounds_self_of_lt (by simp; omega)]; exact hu'
  | i + 2, hu' => simp at hu'
theorem Filled.put2 {cur : Array Value} {ss : List (Int × Sl)} {k : Nat} {x : Int × Sl} (h : Filled elRt cur ss k) (hl : ss.length = k) (hs : k * 2 + 1 < cur.size) : Filled elRt (put2 cur k x) (ss ++ [x]) (k + 1) := by
  have h' : Filled elRt cur (ss ++ [x]) k := fun j y hj hy i u hu => h j y hj (by rwa [List.getElem?_append_left (by omega)] at hy) i u hu
  exact h'.step (by rw [List.getElem?_append_right (by omega), hl]; simp) (fun _ hi => put2_other hi) (put2_new hs)
theorem Blk.put2 {w : World} {g : Nat} {e : TypeId} {cur : Array Value} (h : Blk w g e cur) (k : Nat) (x : Int × Sl) :
    Blk ((w.setCell ⟨g, k * 2, none⟩ (.int .i64 x.1)).setCell ⟨g, k * 2 + 1, none⟩ (slV x.2)) g e (put2 cur k x) :=
  (h.set _ _).set _ _
/-- The routes that have been copied. -/
def RtsTo (w : World) (base : Nat) (rows : List (Int × List Int)) (ss : List (Int × Sl)) : Prop :=
  (∀ (i : Nat) s r, ss[i]? = some s → rows[i]? = some r → s.1 = r.1 ∧ Owns elInt w base 3 (slV s.2) r.2) ∧ (∀ (i j : Nat) s t g, i < j → ss[i]? = some s → ss[j]? = some t → (slV s.2).ownBlock = some g → ¬ ((slV t.2).ownBlock = some g)) ∧
  ∀ (i : Nat) s g, ss[i]? = some s → (slV s.2).ownBlock = some g → g < w.heap.size
theorem RtsTo.push {w w2 w3 : World} {base g : Nat} {rows : List (Int × List Int)} {ss : List (Int × Sl)} {x : Int × Sl} {r : Int × List Int} (h : RtsTo w base rows ss) (hr : rows[ss.length]? = some r) (hb : Below w.heap.size w w2) (hbase : base ≤ w.heap.size) (h1 : x.1 = r.1)
    (ho : Owns elInt w2 w.heap.size 3 (slV x.2) r.2) (hg : g < base) (ht : Touch (fun b => b = g) w2 w3) : RtsTo w3 base rows (ss ++ [x]) := by
  have key : ∀ (v : Value) (b : Nat) (l : List Int), Owns elInt w2 b 3 v l → base ≤ b → Owns elInt w3 base 3 v l := fun v b l h hb => (h.touch ht (fun g' hg' e => by have := (h.lies g' hg').1; omega)).base hb
  refine ⟨fun i s r' e1 e2 => ?_, fun i j s t g' hij e1 e2 e3 e4 => ?_, fun i s g' e1 e2 => ?_⟩
  · rcases Nat.lt_or_ge i ss.length with hi | hi
    · rw [List.getElem?_append_left hi] at e1
      obtain ⟨a, b⟩ := h.1 i s r' e1 e2
      exact ⟨a, key _ _ _ (b.below hb) (Nat.le_refl _)⟩
    · rw [List.getElem?_append_right hi] at e1
      have e0 : i - ss.length = 0 := by have := (List.getElem?_eq_some_iff.1 e1).1; simp at this; omega
      have ei : i = ss.length := by omega
      rw [e0] at e1
      simp at e1; subst e1
      rw [ei, hr] at e2
      injection e2 with e2; subst e2
      exact ⟨h1, key _ _ _ ho hbase⟩
  · rcases Nat.lt_or_ge j ss.length with hj | hj
    · rw [List.getElem?_append_left hj] at e2
      rw [List.getElem?_append_left (by omega)] at e1
      exact h.2.1 i j s t g' hij e1 e2 e3 e4
    · rw [List.getElem?_append_right hj] at e2
      have e0 : j - ss.length = 0 := by have := (List.getElem?_eq_some_iff.1 e2).1; simp at this; omega
      rw [e0] at e2
      simp at e2; subst e2
      rw [List.getElem?_append_left (by omega)] at e1
      have a1 := h.2.2 i s g' e1 e3
      have a2 := (ho.lies g' e4).1
      omega
  · have hsz : w2.heap.size ≤ w3.heap.size := ht.size
    rcases Nat.lt_or_ge i ss.length with hi | hi
    · rw [List.getElem?_append_left hi] at e1
      have := h.2.2 i s g' e1 e2
      have := hb.size
      omega
    · rw [List.getElem?_append_right hi] at e1
      have e0 : i - ss.length = 0 := by have := (List.getElem?_eq_some_iff.1 e1).1; simp at this; omega
      rw [e0] at e1
      simp at e1; subst e1
      have := (ho.lies g' e2).2
      omega
set_option maxHeartbeats 2000000 in
set_option maxRecDepth 100000 in
theorem toRouteS_any {n c : Nat} {A : Option Addr} {ss : List (Int × Sl)} {rows : List (Int × List Int)} (w : World) (hA : SeesRS w A n ss rows) (hn : n ≤ 1048576) (hx : ∀ r ∈ rows, r.2.length ≤ 1048576) :
    Calls Try.prog 26 #[.slice A n c] w fun e w' => ∃ v tt, e = .returned v ∧ OwnsRS w' w.heap.size v tt rows ∧ Below w.heap.size w w' := by
  have hlr : rows.length = n := by rw [← hA.2.1]; exact hA.1.len
  have HX := hid hx
  have HL := hid hlr
  obtain ⟨i0, hi, hz0, hz1, hz2⟩ := info_parts rt_info
  have hmk := fun W => make_n (P := Try.prog) Try.underlying45 hi hz0 (n := n) (by rw [hz2]; omega) (by omega) W
  rw [hz1] at hmk
  clear hi hz0 hz1 hz2 hx hlr
  go_enter Try.func26, Try.ntmps26
  go_wp2
  have hb0 := bl_alloc (Below.refl w.heap.size w) (.cells (madeCells #[.int .i64 0, .slice none 0 0] (n * 2)) 29)
  have hk0 : Hid (Blk (w.alloc (.cells (madeCells #[.int .i64 0, .slice none 0 0] (n * 2)) 29)) w.heap.size 29 (madeCells #[.int .i64 0, .slice none 0 0] (n * 2))) := Blk.new _ _ _
  have hs0 : Hid ((madeCells #[.int .i64 0, .slice none 0 0] (n * 2)).size = n * 2) := size_madeCells _ _
  have hr0 : Hid (RtsTo (w.alloc (.cells (madeCells #[.int .i64 0, .slice none 0 0] (n * 2)) 29)) (w.heap.size + 1) rows []) := ⟨fun i s r h => by simp at h, fun i j s t g _ h => by simp at h, fun i s g h => by simp at h⟩
  have hp0 : Hid (w.heap.size + 1 ≤ (w.alloc (.cells (madeCells #[.int .i64 0, .slice none 0 0] (n * 2)) 29)).heap.size) := by unfold Hid; simp
  clear hmk
  go_loopw [4] (fun i wr => ∃ (k : Nat) (cur : Array Value) (tt : List (Int × Sl)), k ≤ n ∧ i = .int .i64 k ∧ tt.length = k ∧ Hid (Blk wr w.heap.size 29 cur) ∧ Hid (cur.size = n * 2) ∧ Hid (Filled elRt cur tt k) ∧ Hid (RtsTo wr (w.heap.size + 1) rows tt) ∧ Hid (w.heap.size + 1 ≤ wr.heap.size) ∧ Below w.heap.size w wr) (fun i _ => n - (intOf i).toNat)
  case atStart => exact ⟨0, _, [], Nat.zero_le _, rfl, rfl, hk0, hs0, Filled.zero _ _ _, hr0, hp0, hb0⟩
  case round =>
    clear hb0 hk0 hs0 hr0 hp0
    obtain ⟨k, cur, tt, hk, rfl, htl, hblk, hsz, hfill, hrt, hpp, hb⟩ := hrel
    by_cases hlt : k < n
    · obtain ⟨x, hxk⟩ := get_of (k := k) HL.out hlt
      obtain ⟨⟨s0, s⟩, hsk⟩ := get_of (k := k) hA.1.len hlt
      have hgr := hA.grow hb
      obtain ⟨b, o, rfl, _, hc⟩ := hA.1.at_ hlt
      have f0 := bl_cell hb (hc k _ hsk 0 _ rfl)
      have f1 := bl_cell hb (hc k _ hsk 1 _ rfl)
      simp only [elRt, Nat.add_zero, slV] at f0 f1
      obtain ⟨e0, hsn, hsee⟩ := hgr.2.2 k _ x hsk hxk
      simp only at e0 hsn hsee
      subst e0
      have HC := hid (toRoute_any (er := s.c) x.1 wr hsee (Nat.le_refl _) (by rw [hsn]; exact HX.out x (List.mem_of_getElem? hxk)))
      rw [hsn] at f1 HC
      have HXK := hid hxk
      have HT := hid htl
      clear hc hxk hsk hsee hgr hsn htl
      go_wp2_with fail
      refine HC.out.mono ?_
      rintro e w2 ⟨R1, e1, rfl, _, ho2, hb2⟩
      have hblk2 := hid (hblk.out.below hb2 hblk.out.lt)
      obtain ⟨u0, hu0⟩ := hblk2.out.cell_ (i := k * 2) (by rw [hsz.out]; omega)
      obtain ⟨u1, hu1⟩ := hblk2.out.cell_ (i := k * 2 + 1) (by rw [hsz.out]; omega)
      have z0 := hblk2.out.frozen (k * 2)
      have z1 := hblk2.out.frozen (k * 2 + 1)
      have HB := hid (hblk2.out.put2 k (x.1, ⟨R1, x.2.length, e1⟩))
      have HS : Hid ((put2 cur k (x.1, ⟨R1, x.2.length, e1⟩)).size = n * 2) := (put2_size _ _ _).trans hsz.out
      have HF := hid (hfill.out.put2 (x := (x.1, ⟨R1, x.2.length, e1⟩)) HT.out (by rw [hsz.out]; omega))
      have hb3 := bl_set (bl_set (bl_then hb hb2) (p := ⟨w.heap.size, k * 2, none⟩) (.int .i64 x.1) (Nat.le_refl _)) (p := ⟨w.heap.size, k * 2 + 1, none⟩) (.slice R1 x.2.length e1) (Nat.le_refl _)
      have htc : Touch (fun b => b = w.heap.size) w2 ((w2.setCell ⟨w.heap.size, k * 2, none⟩ (.int .i64 x.1)).setCell ⟨w.heap.size, k * 2 + 1, none⟩ (.slice R1 x.2.length e1)) :=
        (Touch.set (S := fun b => b = w.heap.size) w2 (p := ⟨w.heap.size, k * 2, none⟩) rfl _).trans (Touch.set (S := fun b => b = w.heap.size) _ (p := ⟨w.heap.size, k * 2 + 1, none⟩) rfl _)
      have HR := hid (hrt.out.push (x := (x.1, ⟨R1, x.2.length, e1⟩)) (r := x) (by rw [HT.out]; exact HXK.out) hb2 hpp.out rfl ho2 (Nat.lt_succ_self _) htc)
      have HP : Hid (w.heap.size + 1 ≤ ((w2.setCell ⟨w.heap.size, k * 2, none⟩ (.int .i64 x.1)).setCell ⟨w.heap.size, k * 2 + 1, none⟩ (.slice R1 x.2.length e1)).heap.size) := Nat.le_trans hpp.out (Nat.le_trans hb2.size htc.size)
      have HTL : Hid ((tt ++ [((x.1, ⟨R1, x.2.length, e1⟩) : Int × Sl)]).length = k + 1) := by unfold Hid; rw [List.length_append, HT.out]; rfl
      clear f0 f1 hblk hblk2 hsz hfill ho2 htc hrt hpp HC hb2 HXK
      go_wp2
      go_roundw
      case rel => exact ⟨k + 1, _, _, by omega, by go_num, HTL.out, HB, HS, HF, HR, HP, hb3⟩
      case measure => simp [intOf]; omega
    · have hkn : k = n := by omega
      have HE : Hid (OwnsRS wr w.heap.size (.slice (some ⟨w.heap.size, 0, none⟩) n n) tt rows) :=
        ⟨Owns.of_filled hblk.out (Nat.le_refl _) (by omega) hsz.out (by simp only [maxLen]; omega) (by rw [← hkn]; exact hfill.out), by rw [HL.out]; omega, fun i s r e1 e2 => ⟨(hrt.out.1 i s r e1 e2).1, (hrt.out.1 i s r e1 e2).2.base (Nat.le_succ _)⟩, hrt.out.2.1⟩
      clear hblk hsz hfill hrt hpp htl
      go_wp2
      go_ret
      exact ⟨_, tt, rfl, HE.out, hb⟩
end Go.Proofs.Ytgoegldffjfmdaa
