/- Components by labels that are joined along fibers: as many rounds as there are nodes suffice. Plain Lean. Conditions: the fibers' ends are nodes. -/
import Derived.Test.YtdnmkcalpfkfhaaFib
import Derived.Test.YtdnmkcalpfkfhaaNet1
import Derived.Test.YtdnmkcalpfkfhaaMem
namespace Go.Proofs.Ytdnmkcalpfkfhaa
def valL (L : List Int) (v : Nat) : Int := L.getD v 0
def fibD (fs : List Fib) (i : Nat) : Fib := fs.getD i ⟨0, 0, 0, 0⟩
/-- A fiber joins the labels of its ends. -/
def joinF (f : Fib) (L : List Int) : List Int := (L.set f.a.toNat (min (valL L f.a.toNat) (valL L f.b.toNat))).set f.b.toNat (min (valL L f.a.toNat) (valL L f.b.toNat))
/-- .. each of the first i fibers that is not gone. -/
def passTo (q : Nat → Bool) (fs : List Fib) (L : List Int) : Nat → List Int
  | 0 => L
  | i + 1 => if q i then passTo q fs L i else joinF (fibD fs i) (passTo q fs L i)
def passL (q : Nat → Bool) (fs : List Fib) (L : List Int) : List Int := passTo q fs L fs.length
/-- k rounds. -/
def rndL (q : Nat → Bool) (fs : List Fib) (n : Nat) : Nat → List Int
  | 0 => marks 0 n
  | k + 1 => passL q fs (rndL q fs n k)
/-- The labels: the smallest node of each component. -/
def compL (q : Nat → Bool) (fs : List Fib) (n : Nat) : List Int := rndL q fs n n
/-- The fibers' ends are nodes. -/
def endsB (n : Nat) (fs : List Fib) : Prop := ∀ i, i < fs.length → 0 ≤ (fibD fs i).a ∧ (fibD fs i).a < (fibD fs i).b ∧ (fibD fs i).b < n
theorem valL_set {L : List Int} {a v : Nat} {x : Int} (ha : a < L.length) : valL (L.set a x) v = if v = a then x else valL L v := by
  unfold valL
  by_cases h : v = a
  · subst h; rw [if_pos rfl]; simp [ha]
  · rw [if_neg h]; simp [show ¬ a = v from fun e => h e.symm]
theorem valL_get {L : List Int} {v : Nat} (h : v < L.length) : L[v]? = some (valL L v) := by unfold valL; simp [h]
theorem passTo_succ (q : Nat → Bool) (fs : List Fib) (L : List Int) (i : Nat) : passTo q fs L (i + 1) = if q i then passTo q fs L i else joinF (fibD fs i) (passTo q fs L i) := rfl
theorem passTo_no {q : Nat → Bool} {fs : List Fib} {L : List Int} {i : Nat} (h : q i = false) : passTo q fs L (i + 1) = joinF (fibD fs i) (passTo q fs L i) := by rw [passTo_succ, h]; rfl
theorem rndL_succ (q : Nat → Bool) (fs : List Fib) (n k : Nat) : rndL q fs n (k + 1) = passL q fs (rndL q fs n k) := rfl
theorem joinF_len (f : Fib) (L : List Int) : (joinF f L).length = L.length := by simp [joinF]
theorem joinF_val {f : Fib} {L : List Int} {n : Nat} (hL : L.length = n) (h0 : 0 ≤ f.a) (h1 : f.a < f.b) (h2 : f.b < n) (v : Nat) :
    valL (joinF f L) v = if v = f.a.toNat ∨ v = f.b.toNat then min (valL L f.a.toNat) (valL L f.b.toNat) else valL L v := by
  unfold joinF
  rw [valL_set (by simp; omega), valL_set (by omega)]
  by_cases e1 : v = f.b.toNat
  · rw [if_pos e1, if_pos (.inr e1)]
  · rw [if_neg e1]
    by_cases e2 : v = f.a.toNat
    · rw [if_pos e2, if_pos (.inl e2)]
    · rw [if_neg e2, if_neg (by rintro (h | h); exact e2 h; exact e1 h)]
theorem joinF_same {f : Fib} {L : List Int} {n : Nat} (hL : L.length = n) (h0 : 0 ≤ f.a) (h1 : f.a < f.b) (h2 : f.b < n) (he : valL L f.a.toNat = valL L f.b.toNat) : joinF f L = L := by
  unfold joinF
  rw [he, show min (valL L f.b.toNat) (valL L f.b.toNat) = valL L f.b.toNat by omega]
  have ha : L[f.a.toNat]? = some (valL L f.b.toNat) := by rw [← he]; exact valL_get (by omega)
  have hb : L[f.b.toNat]? = some (valL L f.b.toNat) := valL_get (by omega)
  have e1 : L.set f.a.toNat (valL L f.b.toNat) = L := by
    apply List.ext_getElem?
    intro i
    rw [List.getElem?_set]
    by_cases h : f.a.toNat = i
    · rw [if_pos h, if_pos (by omega), ← h, ha]
    · rw [if_neg h]
  rw [e1]
  apply List.ext_getElem?
  intro i
  rw [List.getElem?_set]
  by_cases h : f.b.toNat = i
  · rw [if_pos h, if_pos (by omega), ← h, hb]
  · rw [if_neg h]
section
variable {q : Nat → Bool} {fs : List Fib} {n : Nat}
theorem passTo_len (L : List Int) (i : Nat) : (passTo q fs L i).length = L.length := by
  induction i with
  | zero => rfl
  | succ i ih => rw [passTo_succ]; split; exact ih; rw [joinF_len]; exact ih
theorem rndL_len (k : Nat) : (rndL q fs n k).length = n := by
  induction k with
  | zero => exact marks_len 0 n
  | succ k ih => rw [rndL_succ]; unfold passL; rw [passTo_len]; exact ih
theorem compL_len : (compL q fs n).length = n := rndL_len n
theorem passTo_step {L : List Int} (hL : L.length = n) (he : endsB n fs) {i : Nat} (hi : i < fs.length) (v : Nat) : valL (passTo q fs L (i + 1)) v ≤ valL (passTo q fs L i) v := by
  rw [passTo_succ]
  split
  · exact Int.le_refl _
  · obtain ⟨h0, h1, h2⟩ := he i hi
    rw [joinF_val (n := n) (by rw [passTo_len, hL]) h0 h1 h2]
    split
    · rename_i h; rcases h with h | h <;> subst h <;> omega
    · exact Int.le_refl _
theorem passTo_mono {L : List Int} (hL : L.length = n) (he : endsB n fs) {i j : Nat} (hij : i ≤ j) (hj : j ≤ fs.length) (v : Nat) : valL (passTo q fs L j) v ≤ valL (passTo q fs L i) v := by
  induction j with
  | zero => rw [show i = 0 by omega]; exact Int.le_refl _
  | succ j ih =>
    rcases Nat.lt_or_ge i (j + 1) with h | h
    · exact Int.le_trans (passTo_step hL he (by omega) v) (ih (by omega) (by omega))
    · rw [show i = j + 1 by omega]; exact Int.le_refl _
theorem passL_le {L : List Int} (hL : L.length = n) (he : endsB n fs) (v : Nat) : valL (passL q fs L) v ≤ valL L v := passTo_mono hL he (Nat.zero_le _) (Nat.le_refl _) v
theorem passL_edge {L : List Int} (hL : L.length = n) (he : endsB n fs) {i : Nat} (hi : i < fs.length) (hq : q i = false) :
    valL (passL q fs L) (fibD fs i).a.toNat ≤ valL L (fibD fs i).b.toNat ∧ valL (passL q fs L) (fibD fs i).b.toNat ≤ valL L (fibD fs i).a.toNat := by
  obtain ⟨h0, h1, h2⟩ := he i hi
  have k1 := fun v => passTo_mono (q := q) hL he (show i + 1 ≤ fs.length from hi) (Nat.le_refl _) v
  have k2 := fun v => passTo_mono (q := q) hL he (Nat.zero_le i) (Nat.le_of_lt hi) v
  have e : ∀ v, valL (passTo q fs L (i + 1)) v = if v = (fibD fs i).a.toNat ∨ v = (fibD fs i).b.toNat then min (valL (passTo q fs L i) (fibD fs i).a.toNat) (valL (passTo q fs L i) (fibD fs i).b.toNat) else valL (passTo q fs L i) v := fun v => by
    rw [passTo_no hq]; exact joinF_val (n := n) (by rw [passTo_len, hL]) h0 h1 h2 v
  have ka := k1 (fibD fs i).a.toNat
  have kb := k1 (fibD fs i).b.toNat
  rw [e, if_pos (.inl rfl)] at ka
  rw [e, if_pos (.inr rfl)] at kb
  have la := k2 (fibD fs i).a.toNat
  have lb := k2 (fibD fs i).b.toNat
  unfold passL
  have e0 : passTo q fs L 0 = L := rfl
  rw [e0] at la lb
  omega
/-- No fiber leads out of the nodes whose label is c at most. -/
def shutL (q : Nat → Bool) (fs : List Fib) (L : List Int) (c : Int) : Prop := ∀ i, i < fs.length → q i = false → (valL L (fibD fs i).a.toNat ≤ c ↔ valL L (fibD fs i).b.toNat ≤ c)
theorem passL_shut {L : List Int} (hL : L.length = n) (he : endsB n fs) {c : Int} (hc : shutL q fs L c) (v : Nat) : valL (passL q fs L) v ≤ c ↔ valL L v ≤ c := by
  suffices h : ∀ i, i ≤ fs.length → ∀ v, (valL (passTo q fs L i) v ≤ c ↔ valL L v ≤ c) from h _ (Nat.le_refl _) v
  intro i
  induction i with
  | zero => intro _ v; exact Iff.rfl
  | succ i ih =>
    intro hi v
    have ih := ih (by omega)
    rw [passTo_succ]
    cases hq : q i
    · obtain ⟨h0, h1, h2⟩ := he i (by omega)
      have hs := hc i (by omega) hq
      simp only [Bool.false_eq_true, if_false]
      rw [joinF_val (n := n) (by rw [passTo_len, hL]) h0 h1 h2]
      have ia := ih (fibD fs i).a.toNat
      have ib := ih (fibD fs i).b.toNat
      split
      · rename_i h
        rcases h with h | h <;> subst h <;> omega
      · exact ih v
    · simp only [if_true]; exact ih v
/-- How many nodes have a label of c at most. -/
def cntL (n : Nat) (L : List Int) (c : Int) : Nat := (List.range n).countP fun v => decide (valL L v ≤ c)
theorem countP_lt {α : Type} {p r : α → Bool} : ∀ {l : List α}, (∀ x ∈ l, p x = true → r x = true) → (∃ x ∈ l, p x = false ∧ r x = true) → l.countP p < l.countP r := by
  intro l
  induction l with
  | nil => rintro _ ⟨x, hx, _⟩; cases hx
  | cons y l ih =>
    intro h1 h2
    have hle : l.countP p ≤ l.countP r := List.countP_mono_left (fun x hx h => h1 x (by simp [hx]) h)
    rw [List.countP_cons, List.countP_cons]
    obtain ⟨x, hx, hp, hr⟩ := h2
    rcases List.mem_cons.1 hx with rfl | hx
    · rw [hp, hr]; simp; omega
    · have := ih (fun z hz => h1 z (by simp [hz])) ⟨x, hx, hp, hr⟩
      have hy := h1 y (by simp)
      cases h3 : p y
      · simp; omega
      · rw [hy h3]; simp; omega
theorem shut_or (he : endsB n fs) (c : Int) (k : Nat) : shutL q fs (rndL q fs n k) c ∨ k + 1 ≤ cntL n (rndL q fs n k) c := by
  induction k with
  | zero =>
    by_cases h : 1 ≤ cntL n (rndL q fs n 0) c
    · exact .inr h
    · left
      have h0 : cntL n (rndL q fs n 0) c = 0 := by omega
      have hn : ∀ v, v < n → ¬ (valL (rndL q fs n 0) v ≤ c) := by
        intro v hv
        have := List.countP_eq_zero.1 h0 v (by simpa using hv)
        simpa using this
      intro i hi _
      obtain ⟨h0, h1, h2⟩ := he i hi
      exact ⟨fun h => absurd h (hn _ (by omega)), fun h => absurd h (hn _ (by omega))⟩
  | succ k ih =>
    have hL : (rndL q fs n k).length = n := rndL_len k
    rcases Classical.em (shutL q fs (rndL q fs n k) c) with hs | hs
    · left
      intro i hi hq
      show valL (passL q fs (rndL q fs n k)) _ ≤ c ↔ valL (passL q fs (rndL q fs n k)) _ ≤ c
      rw [passL_shut hL he hs, passL_shut hL he hs]
      exact hs i hi hq
    · right
      have hk : k + 1 ≤ cntL n (rndL q fs n k) c := by
        rcases ih with h | h
        · exact absurd h hs
        · exact h
      unfold shutL at hs
      have ⟨i, hi, hq, hne⟩ : ∃ i, i < fs.length ∧ q i = false ∧ ¬ (valL (rndL q fs n k) (fibD fs i).a.toNat ≤ c ↔ valL (rndL q fs n k) (fibD fs i).b.toNat ≤ c) := by
        apply Classical.byContradiction
        intro hno
        exact hs fun i hi hq => Classical.byContradiction fun h => hno ⟨i, hi, hq, h⟩
      obtain ⟨h0, h1, h2⟩ := he i hi
      obtain ⟨ea, eb⟩ := passL_edge (q := q) hL he hi hq
      have hlt : cntL n (rndL q fs n k) c < cntL n (rndL q fs n (k + 1)) c := by
        refine countP_lt (fun v _ hv => ?_) ?_
        · have := passL_le (q := q) hL he v
          simp only [decide_eq_true_eq] at hv ⊢
          exact Int.le_trans this hv
        · by_cases hA : valL (rndL q fs n k) (fibD fs i).a.toNat ≤ c
          · have hB : ¬ valL (rndL q fs n k) (fibD fs i).b.toNat ≤ c := fun h => hne ⟨fun _ => h, fun _ => hA⟩
            refine ⟨(fibD fs i).b.toNat, by simp; omega, by simpa using hB, ?_⟩
            simp only [decide_eq_true_eq]
            exact Int.le_trans eb hA
          · have hB : valL (rndL q fs n k) (fibD fs i).b.toNat ≤ c := by
              apply Classical.byContradiction
              intro h
              exact hne ⟨fun x => absurd x hA, fun x => absurd x h⟩
            refine ⟨(fibD fs i).a.toNat, by simp; omega, by simpa using hA, ?_⟩
            simp only [decide_eq_true_eq]
            exact Int.le_trans ea hB
      omega
theorem shut_all (he : endsB n fs) (c : Int) : shutL q fs (compL q fs n) c := by
  rcases shut_or (q := q) he c n with h | h
  · exact h
  · have : cntL n (rndL q fs n n) c ≤ n := by unfold cntL; exact Nat.le_trans List.countP_le_length (by simp)
    omega
theorem valL_ext {L M : List Int} (hl : L.length = M.length) (h : ∀ v, valL L v = valL M v) : L = M := by
  apply List.ext_getElem?
  intro i
  rcases Nat.lt_or_ge i L.length with hi | hi
  · have := h i
    unfold valL at this
    rw [List.getD_eq_getElem?_getD, List.getD_eq_getElem?_getD, List.getElem?_eq_getElem hi, List.getElem?_eq_getElem (by omega : i < M.length)] at this
    rw [List.getElem?_eq_getElem hi, List.getElem?_eq_getElem (by omega : i < M.length)]
    simpa using this
  · rw [List.getElem?_eq_none hi, List.getElem?_eq_none (by omega)]
/-- A further round turns nothing. -/
theorem compL_fix (he : endsB n fs) : passL q fs (compL q fs n) = compL q fs n := by
  have hL : (compL q fs n).length = n := compL_len
  refine valL_ext (by unfold passL; rw [passTo_len]) (fun v => ?_)
  have h1 := (passL_shut hL he (shut_all (q := q) he (valL (passL q fs (compL q fs n)) v)) v).1 (Int.le_refl _)
  have h2 := passL_le (q := q) hL he v
  omega
/-- The ends of a fiber that is not gone have one label. -/
theorem compL_edge (he : endsB n fs) {i : Nat} (hi : i < fs.length) (hq : q i = false) : valL (compL q fs n) (fibD fs i).a.toNat = valL (compL q fs n) (fibD fs i).b.toNat := by
  have h1 := (shut_all (q := q) he (valL (compL q fs n) (fibD fs i).a.toNat) i hi hq).1 (Int.le_refl _)
  have h2 := (shut_all (q := q) he (valL (compL q fs n) (fibD fs i).b.toNat) i hi hq).2 (Int.le_refl _)
  omega
theorem rndL_stay {k : Nat} (h : rndL q fs n (k + 1) = rndL q fs n k) : ∀ j, k ≤ j → rndL q fs n j = rndL q fs n k := by
  intro j
  induction j with
  | zero => intro hk; rw [show k = 0 by omega]
  | succ j ih =>
    intro hk
    rcases Nat.lt_or_ge j k with h1 | h1
    · rw [show k = j + 1 by omega]
    · have := ih h1
      show passL q fs (rndL q fs n j) = _
      rw [this]; exact h
/-- Where a round turns nothing the labels are found. -/
theorem rndL_done (he : endsB n fs) {k : Nat} (h : rndL q fs n (k + 1) = rndL q fs n k) : rndL q fs n k = compL q fs n := by
  rcases Nat.le_total k n with h1 | h1
  · exact (rndL_stay h n h1).symm
  · exact rndL_stay (compL_fix he) k h1
theorem rndL_late (he : endsB n fs) {k : Nat} (h : n ≤ k) : rndL q fs n (k + 1) = rndL q fs n k := by
  rw [rndL_stay (compL_fix (q := q) he) k h, rndL_stay (compL_fix (q := q) he) (k + 1) (by omega)]
/-- Has one of the first i fibers turned a label? -/
def chgB (q : Nat → Bool) (fs : List Fib) (L : List Int) : Nat → Bool
  | 0 => false
  | i + 1 => chgB q fs L i || (!q i && !(valL (passTo q fs L i) (fibD fs i).a.toNat == valL (passTo q fs L i) (fibD fs i).b.toNat))
theorem chgB_no {L : List Int} (hL : L.length = n) (he : endsB n fs) {i : Nat} (hi : i ≤ fs.length) (h : chgB q fs L i = false) : passTo q fs L i = L := by
  induction i with
  | zero => rfl
  | succ i ih =>
    unfold chgB at h
    rw [Bool.or_eq_false_iff] at h
    have ih := ih (by omega) h.1
    rw [passTo_succ]
    cases hq : q i
    · simp only [Bool.false_eq_true, if_false]
      obtain ⟨h0, h1, h2⟩ := he i (by omega)
      rw [joinF_same (n := n) (by rw [passTo_len, hL]) h0 h1 h2 (by have := h.2; rw [hq] at this; simpa using this)]
      exact ih
    · simp only [if_true]; exact ih
theorem chgB_yes {L : List Int} (hL : L.length = n) (he : endsB n fs) {i : Nat} (hi : i ≤ fs.length) (h : chgB q fs L i = true) : passL q fs L ≠ L := by
  have ⟨j, hj, hq, hne⟩ : ∃ j, j < fs.length ∧ q j = false ∧ valL (passTo q fs L j) (fibD fs j).a.toNat ≠ valL (passTo q fs L j) (fibD fs j).b.toNat := by
    induction i with
    | zero => cases h
    | succ i ih =>
      unfold chgB at h
      rcases Bool.or_eq_true_iff.1 h with h | h
      · exact ih (by omega) h
      · exact ⟨i, by omega, by simpa using (Bool.and_eq_true_iff.1 h).1, by simpa using (Bool.and_eq_true_iff.1 h).2⟩
  obtain ⟨h0, h1, h2⟩ := he j hj
  have e : ∀ v, valL (passTo q fs L (j + 1)) v = if v = (fibD fs j).a.toNat ∨ v = (fibD fs j).b.toNat then min (valL (passTo q fs L j) (fibD fs j).a.toNat) (valL (passTo q fs L j) (fibD fs j).b.toNat) else valL (passTo q fs L j) v := fun v => by
    rw [passTo_no hq]; exact joinF_val (n := n) (by rw [passTo_len, hL]) h0 h1 h2 v
  intro hEq
  have k1 := fun v => passTo_mono (q := q) hL he (show j + 1 ≤ fs.length from hj) (Nat.le_refl _) v
  have k2 := fun v => passTo_mono (q := q) hL he (Nat.zero_le j) (Nat.le_of_lt hj) v
  have e0 : passTo q fs L 0 = L := rfl
  have em : passTo q fs L fs.length = L := hEq
  have a1 := k1 (fibD fs j).a.toNat
  have b1 := k1 (fibD fs j).b.toNat
  have a2 := k2 (fibD fs j).a.toNat
  have b2 := k2 (fibD fs j).b.toNat
  rw [e, if_pos (.inl rfl), em] at a1
  rw [e, if_pos (.inr rfl), em] at b1
  rw [e0] at a2 b2
  omega
end
end Go.Proofs.Ytdnmkcalpfkfhaa
