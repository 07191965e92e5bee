/- Lemmas and walks that the claim rests on, laid together. Conditions: none. -/
import Derived.Test.YtjfafhehpfjofaaGreatZ0a7cb1c9072e
import Derived.Test.YtjfafhehpfjofaaGreatZed1f78547694
import Derived.Deep.RegionHeld3
import Derived.Laws.CopyOwn
import Derived.Laws.Externs
import Derived.Lib.Overlaps
import Derived.Lib.AppendZeros
import Derived.Lib.AppendZerosOnto
import Derived.Lib.SliceRun
import Derived.Deep.RegionLaw
import Derived.BigQuiet
import Derived.Test.YtjfafhehpfjofaaGreatRows
import Derived.Deep.RegionHeld
import Derived.Below
/- Components by labels that are joined along fibers: as many rounds as there are nodes suffice. Plain Lean. Conditions: the fibers' ends are nodes. -/
namespace Go.Proofs.YtjfafhehpfjofaaGreat
def valL (L : List Int) (v : Nat) : Int := L.getD v 0
def fibD (fs : List Fib) (i : Nat) : Fib := fs.getD i ⟨0, 0, 0, 0⟩
/-- A fiber joins the labels of its ends. -/
def joinF (f : Fib) (L : List Int) : List Int := (L.set f.a.toNat (min (valL L f.a.toNat) (valL L f.b.toNat))).set f.b.toNat (min (valL L f.a.toNat) (valL L f.b.toNat))
/-- .. each of the first i fibers that is not gone. -/
def passTo (q : Nat → Bool) (fs : List Fib) (L : List Int) : Nat → List Int
  | 0 => L
  | i + 1 => if q i then passTo q fs L i else joinF (fibD fs i) (passTo q fs L i)
def passL (q : Nat → Bool) (fs : List Fib) (L : List Int) : List Int := passTo q fs L fs.length
/-- k rounds. -/
def rndL (q : Nat → Bool) (fs : List Fib) (n : Nat) : Nat → List Int
  | 0 => marks 0 n
  | k + 1 => passL q fs (rndL q fs n k)
/-- The labels: the smallest node of each component. -/
def compL (q : Nat → Bool) (fs : List Fib) (n : Nat) : List Int := rndL q fs n n
/-- The fibers' ends are nodes. -/
def endsB (n : Nat) (fs : List Fib) : Prop := ∀ i, i < fs.length → 0 ≤ (fibD fs i).a ∧ (fibD fs i).a < (fibD fs i).b ∧ (fibD fs i).b < n
theorem valL_set {L : List Int} {a v : Nat} {x : Int} (ha : a < L.length) : valL (L.set a x) v = if v = a then x else valL L v := by
  unfold valL
  by_cases h : v = a
  · subst h; rw [if_pos rfl]; simp [ha]
  · rw [if_neg h]; simp [show ¬ a = v from fun e => h e.symm]
theorem valL_get {L : List Int} {v : Nat} (h : v < L.length) : L[v]? = some (valL L v) := by unfold valL; simp [h]
theorem passTo_succ (q : Nat → Bool) (fs : List Fib) (L : List Int) (i : Nat) : passTo q fs L (i + 1) = if q i then passTo q fs L i else joinF (fibD fs i) (passTo q fs L i) := rfl
theorem passTo_no {q : Nat → Bool} {fs : List Fib} {L : List Int} {i : Nat} (h : q i = false) : passTo q fs L (i + 1) = joinF (fibD fs i) (passTo q fs L i) := by rw [passTo_succ, h]; rfl
theorem rndL_succ (q : Nat → Bool) (fs : List Fib) (n k : Nat) : rndL q fs n (k + 1) = passL q fs (rndL q fs n k) := rfl
theorem joinF_len (f : Fib) (L : List Int) : (joinF f L).length = L.length := by simp [joinF]
theorem joinF_val {f : Fib} {L : List Int} {n : Nat} (hL : L.length = n) (h0 : 0 ≤ f.a) (h1 : f.a < f.b) (h2 : f.b < n) (v : Nat) :
    valL (joinF f L) v = if v = f.a.toNat ∨ v = f.b.toNat then min (valL L f.a.toNat) (valL L f.b.toNat) else valL L v := by
  unfold joinF
  rw [valL_set (by simp; omega), valL_set (by omega)]
  by_cases e1 : v = f.b.toNat
  · rw [if_pos e1, if_pos (.inr e1)]
  · rw [if_neg e1]
    by_cases e2 : v = f.a.toNat
    · rw [if_pos e2, if_pos (.inl e2)]
    · rw [if_neg e2, if_neg (by rintro (h | h); exact e2 h; exact e1 h)]
theorem joinF_same {f : Fib} {L : List Int} {n : Nat} (hL : L.length = n) (h0 : 0 ≤ f.a) (h1 : f.a < f.b) (h2 : f.b < n) (he : valL L f.a.toNat = valL L f.b.toNat) : joinF f L = L := by
  unfold joinF
  rw [he, show min (valL L f.b.toNat) (valL L f.b.toNat) = valL L f.b.toNat by omega]
  have ha : L[f.a.toNat]? = some (valL L f.b.toNat) := by rw [← he]; exact valL_get (by omega)
  have hb : L[f.b.toNat]? = some (valL L f.b.toNat) := valL_get (by omega)
  have e1 : L.set f.a.toNat (valL L f.b.toNat) = L := by
    apply List.ext_getElem?
    intro i
    rw [List.getElem?_set]
    by_cases h : f.a.toNat = i
    · rw [if_pos h, if_pos (by omega), ← h, ha]
    · rw [if_neg h]
  rw [e1]
  apply List.ext_getElem?
  intro i
  rw [List.getElem?_set]
  by_cases h : f.b.toNat = i
  · rw [if_pos h, if_pos (by omega), ← h, hb]
  · rw [if_neg h]
section
variable {q : Nat → Bool} {fs : List Fib} {n : Nat}
theorem passTo_len (L : List Int) (i : Nat) : (passTo q fs L i).length = L.length := by
  induction i with
  | zero => rfl
  | succ i ih => rw [passTo_succ]; split; exact ih; rw [joinF_len]; exact ih
theorem rndL_len (k : Nat) : (rndL q fs n k).length = n := by
  induction k with
  | zero => exact marks_len 0 n
  | succ k ih => rw [rndL_succ]; unfold passL; rw [passTo_len]; exact ih
theorem compL_len : (compL q fs n).length = n := rndL_len n
theorem passTo_step {L : List Int} (hL : L.length = n) (he : endsB n fs) {i : Nat} (hi : i < fs.length) (v : Nat) : valL (passTo q fs L (i + 1)) v ≤ valL (passTo q fs L i) v := by
  rw [passTo_succ]
  split
  · exact Int.le_refl _
  · obtain ⟨h0, h1, h2⟩ := he i hi
    rw [joinF_val (n := n) (by rw [passTo_len, hL]) h0 h1 h2]
    split
    · rename_i h; rcases h with h | h <;> subst h <;> omega
    · exact Int.le_refl _
theorem passTo_mono {L : List Int} (hL : L.length = n) (he : endsB n fs) {i j : Nat} (hij : i ≤ j) (hj : j ≤ fs.length) (v : Nat) : valL (passTo q fs L j) v ≤ valL (passTo q fs L i) v := by
  induction j with
  | zero => rw [show i = 0 by omega]; exact Int.le_refl _
  | succ j ih =>
    rcases Nat.lt_or_ge i (j + 1) with h | h
    · exact Int.le_trans (passTo_step hL he (by omega) v) (ih (by omega) (by omega))
    · rw [show i = j + 1 by omega]; exact Int.le_refl _
theorem passL_le {L : List Int} (hL : L.length = n) (he : endsB n fs) (v : Nat) : valL (passL q fs L) v ≤ valL L v := passTo_mono hL he (Nat.zero_le _) (Nat.le_refl _) v
theorem passL_edge {L : List Int} (hL : L.length = n) (he : endsB n fs) {i : Nat} (hi : i < fs.length) (hq : q i = false) :
    valL (passL q fs L) (fibD fs i).a.toNat ≤ valL L (fibD fs i).b.toNat ∧ valL (passL q fs L) (fibD fs i).b.toNat ≤ valL L (fibD fs i).a.toNat := by
  obtain ⟨h0, h1, h2⟩ := he i hi
  have k1 := fun v => passTo_mono (q := q) hL he (show i + 1 ≤ fs.length from hi) (Nat.le_refl _) v
  have k2 := fun v => passTo_mono (q := q) hL he (Nat.zero_le i) (Nat.le_of_lt hi) v
  have e : ∀ v, valL (passTo q fs L (i + 1)) v = if v = (fibD fs i).a.toNat ∨ v = (fibD fs i).b.toNat then min (valL (passTo q fs L i) (fibD fs i).a.toNat) (valL (passTo q fs L i) (fibD fs i).b.toNat) else valL (passTo q fs L i) v := fun v => by
    rw [passTo_no hq]; exact joinF_val (n := n) (by rw [passTo_len, hL]) h0 h1 h2 v
  have ka := k1 (fibD fs i).a.toNat
  have kb := k1 (fibD fs i).b.toNat
  rw [e, if_pos (.inl rfl)] at ka
  rw [e, if_pos (.inr rfl)] at kb
  have la := k2 (fibD fs i).a.toNat
  have lb := k2 (fibD fs i).b.toNat
  unfold passL
  have e0 : passTo q fs L 0 = L := rfl
  rw [e0] at la lb
  omega
/-- No fiber leads out of the nodes whose label is c at most. -/
def shutL (q : Nat → Bool) (fs : List Fib) (L : List Int) (c : Int) : Prop := ∀ i, i < fs.length → q i = false → (valL L (fibD fs i).a.toNat ≤ c ↔ valL L (fibD fs i).b.toNat ≤ c)
theorem passL_shut {L : List Int} (hL : L.length = n) (he : endsB n fs) {c : Int} (hc : shutL q fs L c) (v : Nat) : valL (passL q fs L) v ≤ c ↔ valL L v ≤ c := by
  suffices h : ∀ i, i ≤ fs.length → ∀ v, (valL (passTo q fs L i) v ≤ c ↔ valL L v ≤ c) from h _ (Nat.le_refl _) v
  intro i
  induction i with
  | zero => intro _ v; exact Iff.rfl
  | succ i ih =>
    intro hi v
    have ih := ih (by omega)
    rw [passTo_succ]
    cases hq : q i
    · obtain ⟨h0, h1, h2⟩ := he i (by omega)
      have hs := hc i (by omega) hq
      simp only [Bool.false_eq_true, if_false]
      rw [joinF_val (n := n) (by rw [passTo_len, hL]) h0 h1 h2]
      have ia := ih (fibD fs i).a.toNat
      have ib := ih (fibD fs i).b.toNat
      split
      · rename_i h
        rcases h with h | h <;> subst h <;> omega
      · exact ih v
    · simp only [if_true]; exact ih v
/-- How many nodes have a label of c at most. -/
def cntL (n : Nat) (L : List Int) (c : Int) : Nat := (List.range n).countP fun v => decide (valL L v ≤ c)
theorem countP_lt {α : Type} {p r : α → Bool} : ∀ {l : List α}, (∀ x ∈ l, p x = true → r x = true) → (∃ x ∈ l, p x = false ∧ r x = true) → l.countP p < l.countP r := by
  intro l
  induction l with
  | nil => rintro _ ⟨x, hx, _⟩; cases hx
  | cons y l ih =>
    intro h1 h2
    have hle : l.countP p ≤ l.countP r := List.countP_mono_left (fun x hx h => h1 x (by simp [hx]) h)
    rw [List.countP_cons, List.countP_cons]
    obtain ⟨x, hx, hp, hr⟩ := h2
    rcases List.mem_cons.1 hx with rfl | hx
    · rw [hp, hr]; simp; omega
    · have := ih (fun z hz => h1 z (by simp [hz])) ⟨x, hx, hp, hr⟩
      have hy := h1 y (by simp)
      cases h3 : p y
      · simp; omega
      · rw [hy h3]; simp; omega
theorem shut_or (he : endsB n fs) (c : Int) (k : Nat) : shutL q fs (rndL q fs n k) c ∨ k + 1 ≤ cntL n (rndL q fs n k) c := by
  induction k with
  | zero =>
    by_cases h : 1 ≤ cntL n (rndL q fs n 0) c
    · exact .inr h
    · left
      have h0 : cntL n (rndL q fs n 0) c = 0 := by omega
      have hn : ∀ v, v < n → ¬ (valL (rndL q fs n 0) v ≤ c) := by
        intro v hv
        have := List.countP_eq_zero.1 h0 v (by simpa using hv)
        simpa using this
      intro i hi _
      obtain ⟨h0, h1, h2⟩ := he i hi
      exact ⟨fun h => absurd h (hn _ (by omega)), fun h => absurd h (hn _ (by omega))⟩
  | succ k ih =>
    have hL : (rndL q fs n k).length = n := rndL_len k
    rcases Classical.em (shutL q fs (rndL q fs n k) c) with hs | hs
    · left
      intro i hi hq
      show valL (passL q fs (rndL q fs n k)) _ ≤ c ↔ valL (passL q fs (rndL q fs n k)) _ ≤ c
      rw [passL_shut hL he hs, passL_shut hL he hs]
      exact hs i hi hq
    · right
      have hk : k + 1 ≤ cntL n (rndL q fs n k) c := by
        rcases ih with h | h
        · exact absurd h hs
        · exact h
      unfold shutL at hs
      have ⟨i, hi, hq, hne⟩ : ∃ i, i < fs.length ∧ q i = false ∧ ¬ (valL (rndL q fs n k) (fibD fs i).a.toNat ≤ c ↔ valL (rndL q fs n k) (fibD fs i).b.toNat ≤ c) := by
        apply Classical.byContradiction
        intro hno
        exact hs fun i hi hq => Classical.byContradiction fun h => hno ⟨i, hi, hq, h⟩
      obtain ⟨h0, h1, h2⟩ := he i hi
      obtain ⟨ea, eb⟩ := passL_edge (q := q) hL he hi hq
      have hlt : cntL n (rndL q fs n k) c < cntL n (rndL q fs n (k + 1)) c := by
        refine countP_lt (fun v _ hv => ?_) ?_
        · have := passL_le (q := q) hL he v
          simp only [decide_eq_true_eq] at hv ⊢
          exact Int.le_trans this hv
        · by_cases hA : valL (rndL q fs n k) (fibD fs i).a.toNat ≤ c
          · have hB : ¬ valL (rndL q fs n k) (fibD fs i).b.toNat ≤ c := fun h => hne ⟨fun _ => h, fun _ => hA⟩
            refine ⟨(fibD fs i).b.toNat, by simp; omega, by simpa using hB, ?_⟩
            simp only [decide_eq_true_eq]
            exact Int.le_trans eb hA
          · have hB : valL (rndL q fs n k) (fibD fs i).b.toNat ≤ c := by
              apply Classical.byContradiction
              intro h
              exact hne ⟨fun x => absurd x hA, fun x => absurd x h⟩
            refine ⟨(fibD fs i).a.toNat, by simp; omega, by simpa using hA, ?_⟩
            simp only [decide_eq_true_eq]
            exact Int.le_trans ea hB
      omega
theorem shut_all (he : endsB n fs) (c : Int) : shutL q fs (compL q fs n) c := by
  rcases shut_or (q := q) he c n with h | h
  · exact h
  · have : cntL n (rndL q fs n n) c ≤ n := by unfold cntL; exact Nat.le_trans List.countP_le_length (by simp)
    omega
theorem valL_ext {L M : List Int} (hl : L.length = M.length) (h : ∀ v, valL L v = valL M v) : L = M := by
  apply List.ext_getElem?
  intro i
  rcases Nat.lt_or_ge i L.length with hi | hi
  · have := h i
    unfold valL at this
    rw [List.getD_eq_getElem?_getD, List.getD_eq_getElem?_getD, List.getElem?_eq_getElem hi, List.getElem?_eq_getElem (by omega : i < M.length)] at this
    rw [List.getElem?_eq_getElem hi, List.getElem?_eq_getElem (by omega : i < M.length)]
    simpa using this
  · rw [List.getElem?_eq_none hi, List.getElem?_eq_none (by omega)]
/-- A further round turns nothing. -/
theorem compL_fix (he : endsB n fs) : passL q fs (compL q fs n) = compL q fs n := by
  have hL : (compL q fs n).length = n := compL_len
  refine valL_ext (by unfold passL; rw [passTo_len]) (fun v => ?_)
  have h1 := (passL_shut hL he (shut_all (q := q) he (valL (passL q fs (compL q fs n)) v)) v).1 (Int.le_refl _)
  have h2 := passL_le (q := q) hL he v
  omega
/-- The ends of a fiber that is not gone have one label. -/
theorem compL_edge (he : endsB n fs) {i : Nat} (hi : i < fs.length) (hq : q i = false) : valL (compL q fs n) (fibD fs i).a.toNat = valL (compL q fs n) (fibD fs i).b.toNat := by
  have h1 := (shut_all (q := q) he (valL (compL q fs n) (fibD fs i).a.toNat) i hi hq).1 (Int.le_refl _)
  have h2 := (shut_all (q := q) he (valL (compL q fs n) (fibD fs i).b.toNat) i hi hq).2 (Int.le_refl _)
  omega
theorem rndL_stay {k : Nat} (h : rndL q fs n (k + 1) = rndL q fs n k) : ∀ j, k ≤ j → rndL q fs n j = rndL q fs n k := by
  intro j
  induction j with
  | zero => intro hk; rw [show k = 0 by omega]
  | succ j ih =>
    intro hk
    rcases Nat.lt_or_ge j k with h1 | h1
    · rw [show k = j + 1 by omega]
    · have := ih h1
      show passL q fs (rndL q fs n j) = _
      rw [this]; exact h
/-- Where a round turns nothing the labels are found. -/
theorem rndL_done (he : endsB n fs) {k : Nat} (h : rndL q fs n (k + 1) = rndL q fs n k) : rndL q fs n k = compL q fs n := by
  rcases Nat.le_total k n with h1 | h1
  · exact (rndL_stay h n h1).symm
  · exact rndL_stay (compL_fix he) k h1
theorem rndL_late (he : endsB n fs) {k : Nat} (h : n ≤ k) : rndL q fs n (k + 1) = rndL q fs n k := by
  rw [rndL_stay (compL_fix (q := q) he) k h, rndL_stay (compL_fix (q := q) he) (k + 1) (by omega)]
/-- Has one of the first i fibers turned a label? -/
def chgB (q : Nat → Bool) (fs : List Fib) (L : List Int) : Nat → Bool
  | 0 => false
  | i + 1 => chgB q fs L i || (!q i && !(valL (passTo q fs L i) (fibD fs i).a.toNat == valL (passTo q fs L i) (fibD fs i).b.toNat))
theorem chgB_no {L : List Int} (hL : L.length = n) (he : endsB n fs) {i : Nat} (hi : i ≤ fs.length) (h : chgB q fs L i = false) : passTo q fs L i = L := by
  induction i with
  | zero => rfl
  | succ i ih =>
    unfold chgB at h
    rw [Bool.or_eq_false_iff] at h
    have ih := ih (by omega) h.1
    rw [passTo_succ]
    cases hq : q i
    · simp only [Bool.false_eq_true, if_false]
      obtain ⟨h0, h1, h2⟩ := he i (by omega)
      rw [joinF_same (n := n) (by rw [passTo_len, hL]) h0 h1 h2 (by have := h.2; rw [hq] at this; simpa using this)]
      exact ih
    · simp only [if_true]; exact ih
theorem chgB_yes {L : List Int} (hL : L.length = n) (he : endsB n fs) {i : Nat} (hi : i ≤ fs.length) (h : chgB q fs L i = true) : passL q fs L ≠ L := by
  have ⟨j, hj, hq, hne⟩ : ∃ j, j < fs.length ∧ q j = false ∧ valL (passTo q fs L j) (fibD fs j).a.toNat ≠ valL (passTo q fs L j) (fibD fs j).b.toNat := by
    induction i with
    | zero => cases h
    | succ i ih =>
      unfold chgB at h
      rcases Bool.or_eq_true_iff.1 h with h | h
      · exact ih (by omega) h
      · exact ⟨i, by omega, by simpa using (Bool.and_eq_true_iff.1 h).1, by simpa using (Bool.and_eq_true_iff.1 h).2⟩
  obtain ⟨h0, h1, h2⟩ := he j hj
  have e : ∀ v, valL (passTo q fs L (j + 1)) v = if v = (fibD fs j).a.toNat ∨ v = (fibD fs j).b.toNat then min (valL (passTo q fs L j) (fibD fs j).a.toNat) (valL (passTo q fs L j) (fibD fs j).b.toNat) else valL (passTo q fs L j) v := fun v => by
    rw [passTo_no hq]; exact joinF_val (n := n) (by rw [passTo_len, hL]) h0 h1 h2 v
  intro hEq
  have k1 := fun v => passTo_mono (q := q) hL he (show j + 1 ≤ fs.length from hj) (Nat.le_refl _) v
  have k2 := fun v => passTo_mono (q := q) hL he (Nat.zero_le j) (Nat.le_of_lt hj) v
  have e0 : passTo q fs L 0 = L := rfl
  have em : passTo q fs L fs.length = L := hEq
  have a1 := k1 (fibD fs j).a.toNat
  have b1 := k1 (fibD fs j).b.toNat
  have a2 := k2 (fibD fs j).a.toNat
  have b2 := k2 (fibD fs j).b.toNat
  rw [e, if_pos (.inl rfl), em] at a1
  rw [e, if_pos (.inr rfl), em] at b1
  rw [e0] at a2 b2
  omega
end
end Go.Proofs.YtjfafhehpfjofaaGreat
/- Stores into a row of numbers of the ledger. Conditions: none. -/
namespace Go.Proofs.YtjfafhehpfjofaaGreat
open Go.RowKit
section
variable {w0 w w' : World} {L : List Thing}
/-- A row of one element at least lies at a block's head. -/
theorem Led.row {α : Type} {E : El α} (h : Led w0 w L) (i : Nat) {base : Nat} {e : TypeId} {v : Value} {xs : List α} (hi : L[i]? = some (tOwns E base e v xs)) (hne : 0 < xs.length) : ∃ g c, v = .slice (some ⟨g, 0, none⟩) xs.length c := by
  rcases Owns.cases (h.own i hi) with ⟨_, h0⟩ | ⟨g, c, cur, hv, _⟩
  · rw [h0] at hne; simp at hne
  · exact ⟨g, c, hv⟩
theorem Led.row_ {α : Type} {E : El α} (h : Led w0 w L) (i : Nat) {base n : Nat} {e : TypeId} {v : Value} {xs : List α} (hi : L[i]? = some (tOwns E base e v xs)) (hn : xs.length = n) (hne : 0 < n) : ∃ g c, v = .slice (some ⟨g, 0, none⟩) n c := by
  subst hn; exact h.row i hi hne
theorem Led.int_at (h : Led w0 w L) (i : Nat) {base g c n : Nat} {xs : List Int} (hi : L[i]? = some (tOwns elInt base 3 (.slice (some ⟨g, 0, none⟩) n c) xs)) {j : Nat} (hj : j < xs.length) : w.cell? ⟨g, j, none⟩ = some (.int .i64 (valL xs j)) := by
  rcases Owns.cases (h.own i hi) with ⟨h0, _⟩ | ⟨g1, c1, cur, hv, _, hb, _, _, _, hf⟩
  · cases h0
  · injection hv with h1 h2 h3
    injection h1 with h1
    injection h1 with h1
    subst h1
    have := hf j _ hj (valL_get hj) 0 _ rfl
    rw [hb.cell]
    simpa [elInt] using this
theorem Led.int_free (h : Led w0 w L) (i : Nat) {base g c n : Nat} {xs : List Int} (hi : L[i]? = some (tOwns elInt base 3 (.slice (some ⟨g, 0, none⟩) n c) xs)) (j : Nat) : w.frozen? ⟨g, j, none⟩ = false := by
  rcases Owns.cases (h.own i hi) with ⟨h0, _⟩ | ⟨g1, c1, cur, hv, _, hb, _, _, _, hf⟩
  · cases h0
  · injection hv with h1 h2 h3
    injection h1 with h1
    injection h1 with h1
    subst h1
    exact hb.frozen j
/-- One number is stored. -/
theorem Led.int_set (h : Led w0 w L) (i : Nat) {base g c n : Nat} {xs : List Int} (hi : L[i]? = some (tOwns elInt base 3 (.slice (some ⟨g, 0, none⟩) n c) xs)) {j : Nat} (hj : j < xs.length) (x : Int) :
    Led w0 (w.setCell ⟨g, j, none⟩ (.int .i64 x)) (L.set i (tOwns elInt base 3 (.slice (some ⟨g, 0, none⟩) n c) (xs.set j x))) := by
  have ho := h.own i hi
  rcases Owns.cases ho with ⟨h0, _⟩ | ⟨g1, c1, cur, hv, hbase, hb, hnc, hcm, hs, hf⟩
  · cases h0
  · injection hv with h1 h2 h3
    injection h1 with h1
    injection h1 with h1
    subst h1
    subst h3
    refine h.touch i hi rfl (Touch.set (S := fun b => (Value.slice (some ⟨g, 0, none⟩) n c).ownBlock = some b) w (p := ⟨g, j, none⟩) rfl _) ?_
    show Owns elInt _ base 3 (.slice (some ⟨g, 0, none⟩) n c) (xs.set j x)
    rw [h2]
    refine Owns.of_blk (hb.set j _) hbase (by simp) hnc (by simp [hs]) hcm (fun k y hk hy i u hu => ?_)
    have hu' : [Value.int .i64 y][i]? = some u := hu
    match i, hu' with
    | 0, hu' =>
      simp at hu'; subst hu'
      have e : k * elInt.sz + 0 = k := by show k * 1 + 0 = k; omega
      rw [e]
      rw [List.getElem?_set] at hy
      by_cases hjk : j = k
      · subst hjk
        rw [if_pos rfl, if_pos hj] at hy
        injection hy with hy; subst hy
        have hlt : j < cur.size := by rw [hs]; show j < c * 1; omega
        rw [Array.getElem?_setIfInBounds_self_of_lt hlt]
      · rw [if_neg hjk] at hy
        rw [Array.getElem?_setIfInBounds_ne hjk]
        have := hf k y hk hy 0 _ rfl
        rw [e] at this
        exact this
    | i + 1, hu' => simp at hu'
end
theorem marks_succ (k : Int) (n : Nat) : marks k (n + 1) = marks k n ++ [k + (n : Int)] := by simp [marks, List.range_succ]
end Go.Proofs.YtjfafhehpfjofaaGreat
/- Things of a ledger, picked and put into another order. Conditions: none. -/
namespace Go.Proofs.YtjfafhehpfjofaaGreat
open Go.RowKit
/-- A proposition kept apart (no assumption is taken for it). -/
structure Kept (P : Prop) : Prop where
  out : P
theorem share {P G : Prop} (k : Kept P → G) (h : P) : G := k ⟨h⟩
theorem Led.pick {w0 w : World} {L : List Thing} (h : Led w0 w L) (is : List Nat) (hn : is.Nodup) (he : is.all (fun i => decide (i < L.length)) = true) : Led w0 w (is.filterMap fun i => L[i]?) := by
  have hm : is.map (fun i => L[i]?) = (is.filterMap fun i => L[i]?).map some := by
    clear hn
    induction is with
    | nil => rfl
    | cons x is ih =>
      rw [List.all_cons, Bool.and_eq_true, decide_eq_true_eq] at he
      rw [List.map_cons, List.filterMap_cons, List.getElem?_eq_getElem he.1, ih he.2]
      rfl
  have key : ∀ (i : Nat) t, (is.filterMap fun i => L[i]?)[i]? = some t → ∃ k, is[i]? = some k ∧ L[k]? = some t := fun i t ht => by
    have h1 : (is.map (fun i => L[i]?))[i]? = some (some t) := by rw [hm, List.getElem?_map, ht]; rfl
    rw [List.getElem?_map] at h1
    cases hk : is[i]? with
    | none => rw [hk] at h1; cases h1
    | some k =>
      rw [hk] at h1
      injection h1 with h1
      exact ⟨k, rfl, h1⟩
  refine ⟨h.bl, fun i t ht => ?_, fun i j a b hij ha hb => ?_⟩
  · obtain ⟨k, _, hk⟩ := key i t ht
    exact h.all k t hk
  · obtain ⟨k, hk1, hk⟩ := key i a ha
    obtain ⟨l, hl1, hl⟩ := key j b hb
    exact h.apart k l a b (fun e => hij (by
      subst e
      exact (List.getElem?_inj (List.getElem?_eq_some_iff.1 hk1).1 hn).1 (hk1.trans hl1.symm))) hk hl
end Go.Proofs.YtjfafhehpfjofaaGreat
/- A network copied: copyNetwork, l2Own, walked. Conditions: none. -/
namespace Go.Proofs.YtjfafhehpfjofaaGreat
open Go.RowKit
/-- A network that owns its rows, out of the ledger. -/
theorem Led.netOwn2 {w0 w : World} {L : List Thing} (h : Led w0 w L) (i j : Nat) {b0 b1 b2 : Nat} {A A' : Option Addr} {n c m d : Nat} {xs : List ByteArray} {fs : List Fib} (hi : L[i]? = some (tOwns elStr b1 9 (.slice A n c) xs)) (hj : L[j]? = some (tOwns elFib b2 64 (.slice A' m d) fs))
    (hn : n = xs.length) (hm : m = fs.length) (hb1 : b0 ≤ b1) (hb2 : b0 ≤ b2) : NetOwn w b0 A n c A' m d xs fs := by
  have h1 := (h.own i hi).base hb1
  have h2 := (h.own j hj).base hb2
  obtain ⟨_, _, e1, a1, a2, _⟩ := h1.form
  obtain ⟨_, _, e2, b1, b2, _⟩ := h2.form
  injection e1 with _ e3 e4
  injection e2 with _ e5 e6
  exact ⟨by omega, by omega, by omega, by omega, hn.symm, hm.symm, h1, h2⟩
/-- What was made in two stretches. -/
theorem Led.join {w0 w w' : World} {L M : List Thing} (h : Led w0 w L) (k : Led w w' M) : Led w0 w' (M ++ L) := by
  have h' := h.step k.bl
  have hlo : ∀ (i : Nat) t, L[i]? = some t → ∀ b, t.S b → b < w.heap.size := fun i t hi b hb => t.lies w (h.all i t hi).1 b hb
  refine ⟨h'.bl, fun i t ht => ?_, fun i j a b hij ha hb x h1 h2 => ?_⟩
  · rw [List.getElem?_append] at ht
    split at ht
    · exact ⟨(k.all i t ht).1, fun b hb => Nat.le_trans h.bl.size ((k.all i t ht).2 b hb)⟩
    · exact h'.all _ t ht
  · rw [List.getElem?_append] at ha hb
    split at ha <;> split at hb
    · exact k.apart i j a b hij ha hb x h1 h2
    · have e1 := (k.all i a ha).2 x h1
      have e2 := hlo _ b hb x h2
      omega
    · have e1 := (k.all j b hb).2 x h2
      have e2 := hlo _ a ha x h1
      omega
    · exact h'.apart _ _ a b (by omega) ha hb x h1 h2
section
variable {n c m d : Nat} {A A' : Option Addr} {xs : List ByteArray} {fs : List Fib}
end
end Go.Proofs.YtjfafhehpfjofaaGreat
/- slices.Insert of one fiber, walked. Conditions: at most 1048576 fibers. -/
namespace Go.Proofs.YtjfafhehpfjofaaGreat
open Go.RowKit
theorem splice_get {α : Type} (L : List α) (off : Nat) (cs : List α) (h : off + cs.length ≤ L.length) (q : Nat) :
    (splice L off cs)[q]? = if q < off then L[q]? else if q < off + cs.length then cs[q - off]? else L[q]? := by
  unfold splice
  rw [List.getElem?_append, List.length_take, Nat.min_eq_left (by omega)]
  split
  · rename_i hq
    rw [List.getElem?_take, if_pos hq]
  · rename_i hq
    rw [List.getElem?_append]
    by_cases h2 : q < off + cs.length
    · rw [if_pos (by omega), if_pos h2]
    · rw [if_neg (by omega), if_neg h2, List.getElem?_drop]
      congr 1; omega
theorem touch_row (w : World) (g : Nat) (cs : Array Value) : Touch (fun b => b = g) w (w.setRow g cs) :=
  ⟨rfl, rfl, rfl, by simp [World.setRow], fun k _ hn => setRow_other w g k cs hn⟩
section
variable {P : Program}
/-- copy of elements of sz cells. -/
theorem run_copy_rowK (w : World) (dT sT ty elem : TypeId) (g o dLen dCap : Nat) (a : Addr) (sLen sCap : Nat) (cur : Array Value) (t : TypeId) (cs : List Value) (sz : Nat)
    (hu : P.underlying dT = some (.slice elem)) (hs : (P.info? elem).map (·.size) = some sz)
    (hg : w.heap[g]? = some (.cells cur t (0, 0))) (hn : cs.length = Nat.min sLen dLen * sz)
    (hsrc : ∀ j v, cs[j]? = some v → w.cell? (a.add j) = some v) (hfit : o + cs.length ≤ cur.size) (h1 : ∀ v ∈ cs, v.oneCell' = true) :
    (Builtin.copy_ #[dT, sT] ty #[.slice (some ⟨g, o, none⟩) dLen dCap, .slice (some a) sLen sCap]).run P w =
      .ok (goInt (Nat.min sLen dLen)) (w.setRow g (cur.toList.take o ++ cs ++ cur.toList.drop (o + cs.length)).toArray) := by
  have hl := run_loadCells_list (P := P) w a cs hsrc
  have hst := run_storeCells_at P g o t cs 0 cur w hg (by simpa using hfit) h1
  cases hq : P.info? elem with
  | none => simp [hq] at hs
  | some i =>
    have hi : i.size = sz := by simpa [hq] using hs
    simp [Builtin.copy_, run_underlying hu, Builtin.lenOf, Builtin.firstCells, sizeOf, typeInfo, hq, hi, ← hn, hl, hst]
theorem wp_copyK {o : Oper} {a : Act} {w : World} {K : Act → World → Prop} {Q : Exit → Act → World → Prop} (d s : Operand) (dT sT : TypeId)
    (ho : o.op = .call { callee := .builtin .copy, args := #[d, s], argTypes := #[dT, sT] }) (elem : TypeId) (sz : Nat) (hu : P.underlying dT = some (.slice elem)) (hsz : (P.info? elem).map (·.size) = some sz)
    (g off dLen dCap : Nat) (ad : Addr) (sLen sCap : Nat) (hd : a.eval d = .slice (some ⟨g, off, none⟩) dLen dCap) (hs : a.eval s = .slice (some ad) sLen sCap)
    (cur : List Value) (t : TypeId) (hg : w.heap[g]? = some (.cells cur.toArray t (0, 0))) (cs : List Value) (k : Nat) (hk : Nat.min sLen dLen = k) (hn : cs.length = k * sz)
    (hsrc : ∀ j v, cs[j]? = some v → w.cell? (ad.add j) = some v) (hfit : off + cs.length ≤ cur.length) (h1 : ∀ v ∈ cs, v.oneCell' = true)
    (h : ∀ w', Hid (w'.heap[g]? = some (.cells (splice cur off cs).toArray t (0, 0))) → Touch (fun b => b = g) w w' → K (a.put o.dst (goInt k)) w') : Oper.wp P o a w K Q := by
  subst hk
  have hrun := run_copy_rowK (P := P) w dT sT o.type elem g off dLen dCap ad sLen sCap cur.toArray t cs sz hu hsz hg hn hsrc (by simpa using hfit) h1
  unfold Oper.wp
  simp [execOp, ho, resolve, invoke, builtin, hd, hs, hrun, Result.andThen]
  exact h _ (show _ = _ by simpa [splice] using setRow_heap w g _ _ t _ hg) (by simpa using touch_row w g _)
theorem stepI {ops : Array Oper} {o : Oper} {a : Act} {w : World} {K : Act → World → Prop} {Q : Exit → Act → World → Prop} {E : Prop} (hgd : o.guard = none) (h : Oper.wp P o a w K Q) : if Region.wanted o (yielded ops a.tmps) = true then Oper.wp P o a w K Q else E := by
  rw [if_pos (by simp [Region.wanted, hgd])]; exact h
theorem wpList_copyK {ops : Array Oper} {rest : List Oper} {o : Oper} {a : Act} {w : World} {Q : Exit → Act → World → Prop} (hgd : o.guard = none) (d s : Operand) (dT sT : TypeId)
    (ho : o.op = .call { callee := .builtin .copy, args := #[d, s], argTypes := #[dT, sT] }) (elem : TypeId) (sz : Nat) (hu : P.underlying dT = some (.slice elem)) (hsz : (P.info? elem).map (·.size) = some sz)
    (g off dLen dCap : Nat) (ad : Addr) (sLen sCap : Nat) (hd : a.eval d = .slice (some ⟨g, off, none⟩) dLen dCap) (hs : a.eval s = .slice (some ad) sLen sCap)
    (cur : List Value) (t : TypeId) (hg : w.heap[g]? = some (.cells cur.toArray t (0, 0))) (cs : List Value) (k : Nat) (hk : Nat.min sLen dLen = k) (hn : cs.length = k * sz)
    (hsrc : ∀ j v, cs[j]? = some v → w.cell? (ad.add j) = some v) (hfit : off + cs.length ≤ cur.length) (h1 : ∀ v ∈ cs, v.oneCell' = true)
    (h : ∀ w', Hid (w'.heap[g]? = some (.cells (splice cur off cs).toArray t (0, 0))) → Touch (fun b => b = g) w w' → wpList P ops Q rest (a.put o.dst (goInt k)) w') : wpList P ops Q (o :: rest) a w :=
  wpList_plain hgd fun _ hK => wp_copyK d s dT sT ho elem sz hu hsz g off dLen dCap ad sLen sCap hd hs cur t hg cs k hk hn hsrc hfit h1 fun w' h2 h3 => hK _ _ (h w' h2 h3)
end
theorem fib_four : (Tryz.prog.info? 64).map (·.size) = some 4 := by kernel_rfl
theorem sees_fib {w : World} {g : Nat} {f : Fib} (h : Blk w g 64 #[.int .i64 f.a, .int .i64 f.b, .int .i64 f.len, .int .i64 f.risk]) : Sees elFib w w.heap.size (some ⟨g, 0, none⟩) 1 [f] := by
  refine ⟨rfl, .inr ⟨g, 0, rfl, h.lt, fun q x hx j u hu => ?_⟩⟩
  rcases q with _ | q
  · simp at hx; subst hx
    have e := h.cell (0 + 0 * elFib.sz + j)
    rw [e]
    have hu' : ([.int .i64 f.a, .int .i64 f.b, .int .i64 f.len, .int .i64 f.risk] : List Value)[j]? = some u := hu
    rw [← hu']
    simp
  · simp at hx
/-- The cells of a row of fibers, part of it. -/
def partC (cur : Array Value) (k n : Nat) : List Value := (cur.toList.drop (k * 4)).take ((n - k) * 4)
section
variable {cur : Array Value} {fs : List Fib} {n k c : Nat}
theorem partC_len (hs : cur.size = c * 4) (hnc : n ≤ c) (hk : k ≤ n) : (partC cur k n).length = (n - k) * 4 := by
  unfold partC
  rw [List.length_take, List.length_drop, Array.length_toList, hs]
  omega
theorem partC_get {j : Nat} {v : Value} (h : (partC cur k n)[j]? = some v) : j < (n - k) * 4 ∧ cur[k * 4 + j]? = some v := by
  unfold partC at h
  rw [List.getElem?_take] at h
  split at h
  · rename_i hj
    rw [List.getElem?_drop, Array.getElem?_toList] at h
    exact ⟨hj, h⟩
  · cases h
theorem partC_at {j : Nat} (hj : j < (n - k) * 4) : (partC cur k n)[j]? = cur[k * 4 + j]? := by
  unfold partC
  rw [List.getElem?_take, if_pos hj, List.getElem?_drop, Array.getElem?_toList]
theorem row_one (hf : Filled elFib cur fs n) (hl : fs.length = n) {q : Nat} {v : Value} (hq : q < n * 4) (h : cur[q]? = some v) : v.oneCell' = true := by
  have h1 : q / 4 < n := by omega
  obtain ⟨x, hx⟩ : ∃ x, fs[q / 4]? = some x := ⟨fs[q / 4]'(by omega), by simp [hl, h1]⟩
  have h3 : q % 4 < (elFib.cells x).length := by rw [elFib.len]; show q % 4 < 4; omega
  have h4 := hf (q / 4) x h1 hx (q % 4) _ (List.getElem?_eq_getElem h3)
  have e : q / 4 * elFib.sz + q % 4 = q := by show q / 4 * 4 + q % 4 = q; omega
  rw [e, h] at h4
  injection h4 with h4
  rw [h4]
  exact elFib.one x _ (List.getElem_mem h3)
theorem partC_one (hf : Filled elFib cur fs n) (hl : fs.length = n) : ∀ v ∈ partC cur k n, v.oneCell' = true := by
  intro v hv
  obtain ⟨j, hj⟩ := List.getElem?_of_mem hv
  obtain ⟨h1, h2⟩ := partC_get hj
  exact row_one hf hl (by omega) h2
/-- A row with one fiber more. -/
theorem filled_ins {R : Array Value} {f : Fib} (hl : fs.length = n) (hk : k ≤ n) (hf : Filled elFib cur fs n) (h1 : ∀ q, q < k * 4 → R[q]? = cur[q]?) (h2 : ∀ j, j < 4 → R[k * 4 + j]? = (elFib.cells f)[j]?) (h3 : ∀ q, k * 4 ≤ q → q < n * 4 → R[q + 4]? = cur[q]?) :
    Filled elFib R (fs.take k ++ f :: fs.drop k) (n + 1) := by
  intro j x hj hx i u hu
  have hi : i < 4 := by have := (List.getElem?_eq_some_iff.1 hu).1; rw [elFib.len] at this; exact this
  show R[j * 4 + i]? = some u
  rw [List.getElem?_append, List.length_take, Nat.min_eq_left (by omega)] at hx
  by_cases hjk : j < k
  · rw [if_pos hjk, List.getElem?_take, if_pos hjk] at hx
    rw [h1 _ (by omega)]
    exact hf j x (by omega) hx i u hu
  · rw [if_neg hjk] at hx
    obtain ⟨d, rfl⟩ : ∃ d, j = k + d := ⟨j - k, by omega⟩
    rw [show k + d - k = d by omega] at hx
    rcases d with _ | d
    · simp at hx; subst hx
      rw [Nat.add_zero, h2 i hi]; exact hu
    · simp only [List.getElem?_cons_succ, List.getElem?_drop] at hx
      rw [show (k + (d + 1)) * 4 + i = ((k + d) * 4 + i) + 4 by omega, h3 _ (by omega) (by omega)]
      exact hf (k + d) x (by omega) hx i u hu
end
theorem ins_room {cur : Array Value} {fs : List Fib} {f : Fib} {n k c : Nat} {M : List Value} (hs : cur.size = c * 4) (hnc : n ≤ c) (hk : k ≤ n) (hM : ∀ q, q < k * 4 → M[q]? = cur[q]?) (hl : (n + 1) * 4 ≤ M.length) (hfl : fs.length = n) (hf : Filled elFib cur fs n) :
    Filled elFib (splice (splice M ((k + 1) * 4) (partC cur k n)) (k * 4) (elFib.cells f)).toArray (fs.take k ++ f :: fs.drop k) (n + 1) := by
  have hp := partC_len hs hnc hk
  have h4 : (elFib.cells f).length = 4 := rfl
  have hl1 : (splice M ((k + 1) * 4) (partC cur k n)).length = M.length := length_splice _ _ _ (by omega)
  have hg := splice_get (splice M ((k + 1) * 4) (partC cur k n)) (k * 4) (elFib.cells f) (by omega)
  have hg1 := splice_get M ((k + 1) * 4) (partC cur k n) (by omega)
  refine filled_ins hfl hk hf (fun q hq => ?_) (fun j hj => ?_) (fun q h1 h2 => ?_)
  · rw [List.getElem?_toArray, hg, if_pos hq, hg1, if_pos (by omega), hM q hq]
  · rw [List.getElem?_toArray, hg, if_neg (by omega), if_pos (by omega), show k * 4 + j - k * 4 = j by omega]
  · rw [List.getElem?_toArray, hg, if_neg (by omega), if_neg (by omega), hg1, if_neg (by omega), if_pos (by omega), partC_at (by omega), show k * 4 + (q + 4 - (k + 1) * 4) = q by omega]
theorem ins_grow {cur : Array Value} {fs : List Fib} {f : Fib} {n k c : Nat} {M : List Value} (hs : cur.size = c * 4) (hnc : n ≤ c) (hk : k ≤ n) (hM : ∀ q, q < k * 4 → M[q]? = cur[q]?) (hl : (n + 1) * 4 ≤ M.length) (hfl : fs.length = n) (hf : Filled elFib cur fs n) :
    Filled elFib (splice (splice M (k * 4) (elFib.cells f)) ((k + 1) * 4) (partC cur k n)).toArray (fs.take k ++ f :: fs.drop k) (n + 1) := by
  have hp := partC_len hs hnc hk
  have h4 : (elFib.cells f).length = 4 := rfl
  have hl1 : (splice M (k * 4) (elFib.cells f)).length = M.length := length_splice _ _ _ (by omega)
  have hg := splice_get (splice M (k * 4) (elFib.cells f)) ((k + 1) * 4) (partC cur k n) (by omega)
  have hg1 := splice_get M (k * 4) (elFib.cells f) (by omega)
  refine filled_ins hfl hk hf (fun q hq => ?_) (fun j hj => ?_) (fun q h1 h2 => ?_)
  · rw [List.getElem?_toArray, hg, if_pos (by omega), hg1, if_pos hq, hM q hq]
  · rw [List.getElem?_toArray, hg, if_pos (by omega), hg1, if_neg (by omega), if_pos (by omega), show k * 4 + j - k * 4 = j by omega]
  · rw [List.getElem?_toArray, hg, if_neg (by omega), if_pos (by omega), partC_at (by omega), show k * 4 + (q + 4 - (k + 1) * 4) = q by omega]
end Go.Proofs.YtjfafhehpfjofaaGreat
/- A fiber more in a network, in plain Lean. Conditions: none. -/
namespace Go.Proofs.YtjfafhehpfjofaaGreat
section
variable {xs : List ByteArray} {fs : List Fib} {f : Fib}
/-- The fiber comes behind the first k. -/
def aheadF (fs : List Fib) (f : Fib) (k : Nat) : Bool := decide (cmpFib (fs.getD k default) f ≤ 0)
/-- Where it goes. -/
def atTo (fs : List Fib) (f : Fib) : Nat → Nat → Nat
  | 0, k => k
  | r + 1, k => if aheadF fs f k then atTo fs f r (k + 1) else k
def atF (fs : List Fib) (f : Fib) : Nat := atTo fs f fs.length 0
theorem atTo_is {k : Nat} (hk : k ≤ fs.length) (h : allTo (aheadF fs f) k) (hi : k = fs.length ∨ aheadF fs f k = false) : ∀ r j, j + r = fs.length → j ≤ k → atTo fs f r j = k := by
  intro r
  induction r with
  | zero =>
    intro j hj hjk
    show j = k
    omega
  | succ r ih =>
    intro j hj hjk
    unfold atTo
    rcases Nat.lt_or_ge j k with h1 | h1
    · rw [if_pos (h j h1)]; exact ih (j + 1) (by omega) (by omega)
    · rcases hi with h2 | h2
      · omega
      · rw [show j = k by omega, h2]; rfl
theorem atF_is {k : Nat} (hk : k ≤ fs.length) (h : allTo (aheadF fs f) k) (hi : k = fs.length ∨ aheadF fs f k = false) : atF fs f = k := atTo_is hk h hi _ _ (by omega) (by omega)
theorem atTo_spec : ∀ r j, j + r = fs.length → allTo (aheadF fs f) j → atTo fs f r j ≤ fs.length ∧ allTo (aheadF fs f) (atTo fs f r j) ∧ (atTo fs f r j = fs.length ∨ aheadF fs f (atTo fs f r j) = false) := by
  intro r
  induction r with
  | zero => intro j hj h; exact ⟨by show j ≤ _; omega, h, .inl (by show j = _; omega)⟩
  | succ r ih =>
    intro j hj h
    unfold atTo
    cases g : aheadF fs f j
    · exact ⟨by show j ≤ _; omega, h, .inr g⟩
    · exact ih (j + 1) (by omega) (allTo_succ h g)
theorem atF_le : atF fs f ≤ fs.length := (atTo_spec fs.length 0 (by omega) (allTo_zero _)).1
theorem atF_ahead : allTo (aheadF fs f) (atF fs f) := (atTo_spec fs.length 0 (by omega) (allTo_zero _)).2.1
theorem atF_stop : atF fs f = fs.length ∨ aheadF fs f (atF fs f) = false := (atTo_spec fs.length 0 (by omega) (allTo_zero _)).2.2
def insF (fs : List Fib) (f : Fib) : List Fib := fs.take (atF fs f) ++ f :: fs.drop (atF fs f)
theorem insF_len : (insF fs f).length = fs.length + 1 := by
  have := atF_le (fs := fs) (f := f)
  unfold insF; simp; omega
theorem insF_lo {j : Nat} (h : j < atF fs f) : (insF fs f).getD j default = fs.getD j default := by
  have := atF_le (fs := fs) (f := f)
  unfold insF
  rw [List.getD_eq_getElem?_getD, List.getD_eq_getElem?_getD, List.getElem?_append_left (by simp; omega), List.getElem?_take, if_pos h]
theorem insF_at : (insF fs f).getD (atF fs f) default = f := by
  have := atF_le (fs := fs) (f := f)
  unfold insF
  rw [List.getD_eq_getElem?_getD, List.getElem?_append_right (by simp; omega)]
  simp [Nat.min_eq_left this]
theorem insF_hi {j : Nat} (h : atF fs f ≤ j) : (insF fs f).getD (j + 1) default = fs.getD j default := by
  have := atF_le (fs := fs) (f := f)
  unfold insF
  rw [List.getD_eq_getElem?_getD, List.getD_eq_getElem?_getD, List.getElem?_append_right (by simp; omega)]
  simp [Nat.min_eq_left this]
  rw [show j + 1 - atF fs f = (j - atF fs f) + 1 by omega, List.getElem?_cons_succ, List.getElem?_drop, show atF fs f + (j - atF fs f) = j by omega]
theorem cmpB_neg_ (a b : Int) : cmpB a b = -cmpB b a := by unfold cmpB; split <;> (try split) <;> (try split) <;> omega
theorem cmpFib_neg (f g : Fib) : cmpFib f g = -cmpFib g f := by
  unfold cmpFib orI orI orI orI orI
  rw [cmpB_neg_ f.a, cmpB_neg_ f.b, cmpB_neg_ f.len, cmpB_neg_ f.risk]
  split <;> split <;> (try omega) <;> (try (split <;> split <;> (try omega))) <;> (try (split <;> split <;> (try omega))) <;> (try (split <;> split <;> (try omega)))
theorem insF_good (h : allTo (fibAt xs.length fs) fs.length) : allB (fibAt xs.length (insF fs f)) (fs.length + 1) = fibB xs.length f := by
  have hle := atF_le (fs := fs) (f := f)
  rw [Bool.eq_iff_iff, allB_iff]
  constructor
  · intro hh
    have h1 := hh (atF fs f) (by omega)
    unfold fibAt at h1
    rw [Bool.and_eq_true, insF_at] at h1
    exact h1.1
  · intro hf j hj
    have hold : ∀ i, i < fs.length → fibB xs.length (fs.getD i default) = true ∧ (i = 0 ∨ cmpFib (fs.getD (i - 1) default) (fs.getD i default) ≤ 0) := fun i hi => by
      have h1 := h i hi
      unfold fibAt at h1
      rw [Bool.and_eq_true, Bool.or_eq_true, beq_iff_eq, decide_eq_true_eq] at h1
      exact h1
    unfold fibAt
    rw [Bool.and_eq_true, Bool.or_eq_true, beq_iff_eq, decide_eq_true_eq]
    rcases Nat.lt_trichotomy j (atF fs f) with h1 | h1 | h1
    · rw [insF_lo h1]
      refine ⟨(hold j (by omega)).1, ?_⟩
      rcases (hold j (by omega)).2 with h2 | h2
      · exact .inl h2
      · right
        rw [insF_lo (by omega)]; exact h2
    · subst h1
      rw [insF_at]
      refine ⟨hf, ?_⟩
      rcases Nat.eq_zero_or_pos (atF fs f) with h2 | h2
      · exact .inl h2
      · right
        rw [insF_lo (by omega)]
        have := atF_ahead (fs := fs) (f := f) (atF fs f - 1) (by omega)
        unfold aheadF at this
        simpa using this
    · obtain ⟨i, rfl⟩ : ∃ i, j = i + 1 := ⟨j - 1, by omega⟩
      rw [insF_hi (by omega)]
      refine ⟨(hold i (by omega)).1, .inr ?_⟩
      rw [Nat.add_sub_cancel]
      rcases Nat.lt_or_ge (atF fs f) i with h2 | h2
      · obtain ⟨k, rfl⟩ : ∃ k, i = k + 1 := ⟨i - 1, by omega⟩
        rw [insF_hi (by omega)]
        rcases (hold (k + 1) (by omega)).2 with h3 | h3
        · omega
        · simpa using h3
      · have e : i = atF fs f := by omega
        subst e
        rw [insF_at, cmpFib_neg]
        rcases atF_stop (fs := fs) (f := f) with h3 | h3
        · omega
        · unfold aheadF at h3
          rw [decide_eq_false_iff_not] at h3
          omega
/-- May the fiber be added? -/
def addB (xs : List ByteArray) (fs : List Fib) (f : Fib) : Bool := (goodB xs fs && fibB xs.length f) && decide (fs.length < 14)
theorem addB_eq : addB xs fs f = (goodB xs fs && goodB xs (insF fs f)) := by
  unfold addB
  cases g : goodB xs fs
  · rfl
  · have g' := g
    unfold goodB at g'
    rw [Bool.and_eq_true, Bool.and_eq_true, Bool.and_eq_true] at g'
    have h1 := insF_good (f := f) (allB_iff.1 g'.2)
    have e : goodB xs (insF fs f) = (decide (fs.length + 1 ≤ 14) && fibB xs.length f) := by
      unfold goodB
      rw [insF_len, h1, g'.1.1.1, g'.1.2]; simp
    rw [e, Bool.true_and, Bool.true_and, Bool.and_comm]
    congr 1
def addX (xs : List ByteArray) (fs : List Fib) (f : Fib) : List ByteArray := if addB xs fs f then xs else []
def addF (xs : List ByteArray) (fs : List Fib) (f : Fib) : List Fib := if addB xs fs f then insF fs f else []
def addI (xs : List ByteArray) (fs : List Fib) (f : Fib) : Int := if addB xs fs f then atF fs f else 0
theorem goodB_sizes (h : goodB xs fs = true) : xs.length ≤ 8 ∧ fs.length ≤ 14 := by unfold goodB at h; simp at h; omega
theorem add_small (xs : List ByteArray) (fs : List Fib) (f : Fib) : (addX xs fs f).length ≤ 8 ∧ (addF xs fs f).length ≤ 14 := by
  unfold addX addF
  cases g : addB xs fs f
  · simp
  · rw [addB_eq, Bool.and_eq_true] at g
    have h1 := goodB_sizes g.1
    have h2 := goodB_sizes g.2
    simp; omega
end
end Go.Proofs.YtjfafhehpfjofaaGreat
/- AddFiber of the reference, walked. Conditions: none. -/
namespace Go.Proofs.YtjfafhehpfjofaaGreat
open Go.RowKit
theorem Sees.backE {α : Type} {E : El α} {w : World} {B b o n k : Nat} {l : List α} (h : Sees E w B (some ⟨b, o, none⟩) n l) (hk : k ≤ n) : Sees E w B (some ⟨b, o + k * E.sz, none⟩) (n - k) (l.drop k) := by
  refine ⟨by rw [List.length_drop, h.1], ?_⟩
  rcases h.2 with h0 | ⟨b', o', e, hb, hc⟩
  · exact .inl (by omega)
  · injection e with e
    injection e with e1 e2
    subst e1 e2
    refine .inr ⟨b, _, rfl, hb, fun j x hx i u hu => ?_⟩
    rw [List.getElem?_drop] at hx
    have h1 := hc (k + j) x hx i u hu
    have e : o + (k + j) * E.sz + i = o + k * E.sz + j * E.sz + i := by rw [Nat.add_mul]; omega
    rw [← e]; exact h1
section
variable {n c m d : Nat} {A A' : Option Addr} {xs : List ByteArray} {fs : List Fib} {f : Fib}
end
end Go.Proofs.YtjfafhehpfjofaaGreat
/- l1Least, l1Most, l2Put of the reference, walked. Conditions: as each states. By put2.py. -/
namespace Go.Proofs.YtjfafhehpfjofaaGreat
open Go.RowKit
theorem l1Least_any (a b : Int) (w : World) : Calls Tryz.prog 60 #[.int .i64 a, .int .i64 b] w fun e w' => ∃ v : Int, e = .returned (.int .i64 v) ∧ (v = a ∨ v = b) ∧ w = w' := by
  by_cases h : a < b
  all_goals
    go_enter Tryz.func60, Tryz.ntmps60
    go_wp2
    go_ret
  · exact ⟨a, rfl, .inl rfl, rfl⟩
  · exact ⟨b, rfl, .inr rfl, rfl⟩
theorem l1Most_any (a b : Int) (w : World) : Calls Tryz.prog 61 #[.int .i64 a, .int .i64 b] w fun e w' => ∃ v : Int, e = .returned (.int .i64 v) ∧ (v = a ∨ v = b) ∧ (a ≤ v ∧ b ≤ v) ∧ w = w' := by
  by_cases h : a > b
  all_goals
    go_enter Tryz.func61, Tryz.ntmps61
    go_wp2
    go_ret
  · exact ⟨a, rfl, .inl rfl, ⟨by omega, by omega⟩, rfl⟩
  · exact ⟨b, rfl, .inr rfl, ⟨by omega, by omega⟩, rfl⟩
section
variable {m d : Nat} {A' : Option Addr} {fs : List Fib} {f : Fib}
set_option maxHeartbeats 2000000 in
set_option maxRecDepth 100000 in
theorem l2Put_any (w : World) (hA : Sees elFib w w.heap.size A' m fs) (hmd : m ≤ d) (hm : m ≤ 1048576) (hsf : smallF f) (hsx : ∀ x ∈ fs, smallF x) :
    Calls Tryz.prog 59 #[.slice A' m d, .agg #[.int .i64 f.a, .int .i64 f.b, .int .i64 f.len, .int .i64 f.risk]] w fun e w' => ∃ A1 c1 gs, e = .returned (.slice A1 (m + 1) c1) ∧ gs.length = m + 1 ∧ (∀ x ∈ gs, smallF x) ∧ Owns elFib w' w.heap.size 64 (.slice A1 (m + 1) c1) gs ∧ Below w.heap.size w w' := by
  have hS := (Led.nil w).blk_ w.heap.size rfl 64 #[.int .i64 f.a, .int .i64 f.b, .int .i64 f.len, .int .i64 f.risk]
  obtain ⟨j0, hj, hy0, hy1, hy2⟩ := info_parts fib_info
  have HN := hid hA
  have hlf := hA.len
  replace hsf := hid hsf
  replace hsx := hid hsx
  have HS := hid hS
  clear hS hA
  go_enter Tryz.func59, Tryz.ntmps59
  go_wp2_with fail
  go_loopw [5] (fun i wr => ∃ k : Nat, k ≤ m ∧ i = .int .i64 k ∧ Hid (Led w wr [tBlk w.heap.size 64 #[.int .i64 f.a, .int .i64 f.b, .int .i64 f.len, .int .i64 f.risk]])) (fun i _ => m - (intOf i).toNat)
  case atStart => exact ⟨0, Nat.zero_le _, rfl, HS⟩
  case round =>
    clear HS
    obtain ⟨k, hk, rfl, HS⟩ := hrel
    have E0 : ∀ w', Cls wr w' → w'.cell? ⟨w.heap.size, 0, none⟩ = some (.int .i64 f.a) := fun _ h => h.cell (HS.out.cell 0 0 rfl rfl)
    have E1 : ∀ w', Cls wr w' → w'.cell? ⟨w.heap.size, 1, none⟩ = some (.int .i64 f.b) := fun _ h => h.cell (HS.out.cell 0 1 rfl rfl)
    have E2 : ∀ w', Cls wr w' → w'.cell? ⟨w.heap.size, 2, none⟩ = some (.int .i64 f.len) := fun _ h => h.cell (HS.out.cell 0 2 rfl rfl)
    have E3 : ∀ w', Cls wr w' → w'.cell? ⟨w.heap.size, 3, none⟩ = some (.int .i64 f.risk) := fun _ h => h.cell (HS.out.cell 0 3 rfl rfl)
    by_cases hlt : k < m
    · obtain ⟨b, o, rfl, _, hc⟩ := HN.out.at_ hlt
      obtain ⟨x, hxk⟩ := get_of (k := k) hlf hlt
      have f0 := bl_cell HS.out.bl (hc k x hxk 0 _ rfl)
      have f1 := bl_cell HS.out.bl (hc k x hxk 1 _ rfl)
      have f2 := bl_cell HS.out.bl (hc k x hxk 2 _ rfl)
      have f3 := bl_cell HS.out.bl (hc k x hxk 3 _ rfl)
      simp only [elFib, Nat.add_zero] at f0 f1 f2 f3
      have F0 : ∀ w', Cls wr w' → w'.cell? ⟨b, o + k * 4, none⟩ = some (.int .i64 x.a) := fun _ h => h.cell f0
      have F1 : ∀ w', Cls wr w' → w'.cell? ⟨b, o + k * 4 + 1, none⟩ = some (.int .i64 x.b) := fun _ h => h.cell f1
      have F2 : ∀ w', Cls wr w' → w'.cell? ⟨b, o + k * 4 + 2, none⟩ = some (.int .i64 x.len) := fun _ h => h.cell f2
      have F3 : ∀ w', Cls wr w' → w'.cell? ⟨b, o + k * 4 + 3, none⟩ = some (.int .i64 x.risk) := fun _ h => h.cell f3
      have iz : (k : Int) < (m : Int) := by omega
      have hsx1 := hid (hsx.out x (List.mem_of_getElem? hxk))
      clear hc f0 f1 f2 f3 hxk
      by_cases hcmp : befF x f ≤ 0
      · have hd : decide (befF x f ≤ 0) = true := decide_eq_true hcmp
        go_wp2_with fail
        refine region_cls (by kernel_rfl) (by kernel_rfl) ?_
        repeat (first
          | ((with_reducible refine quiet_pos ?_ (fun K hK => ?_))
             · rfl
             apply Exists.intro
             refine ⟨fun w' hw' => ?_, ?_⟩
             · go_simp
               first
                 | with_reducible rfl
                 | (go_at_call 72; exact hw'.call (l2Before_any x f _ hsx1.out hsf.out))
             simp only [Act.put, List.setIfInBounds_toArray, List.set_cons_zero, List.set_cons_succ]
             refine hK _ ?_; clear hK K)
          | ((with_reducible refine quiet_neg ?_ (fun K hK => ?_))
             · rfl
             simp only [Act.put, List.setIfInBounds_toArray, List.set_cons_zero, List.set_cons_succ]
             refine hK _ ?_; clear hK K))
        with_reducible refine wpQuiet_nil ?_
        intro wz hwz'
        have HS1 := hid (HS.out.step hwz')
        clear HS E0 E1 E2 E3 F0 F1 F2 F3 hwz'
        go_wp2
        go_roundw
        case rel => exact ⟨k + 1, by omega, by go_num, HS1⟩
        case measure => simp [intOf]; omega
      · have hd : decide (befF x f ≤ 0) = false := decide_eq_false hcmp
        go_wp2_with fail
        refine region_cls (by kernel_rfl) (by kernel_rfl) ?_
        repeat (first
          | ((with_reducible refine quiet_pos ?_ (fun K hK => ?_))
             · rfl
             apply Exists.intro
             refine ⟨fun w' hw' => ?_, ?_⟩
             · go_simp
               first
                 | with_reducible rfl
                 | (go_at_call 72; exact hw'.call (l2Before_any x f _ hsx1.out hsf.out))
             simp only [Act.put, List.setIfInBounds_toArray, List.set_cons_zero, List.set_cons_succ]
             refine hK _ ?_; clear hK K)
          | ((with_reducible refine quiet_neg ?_ (fun K hK => ?_))
             · rfl
             simp only [Act.put, List.setIfInBounds_toArray, List.set_cons_zero, List.set_cons_succ]
             refine hK _ ?_; clear hK K))
        with_reducible refine wpQuiet_nil ?_
        intro wz hwz'
        clear F0 F1 F2 F3
        have hdk : ¬ (d = k) := by omega
        have hkd : (k : Int) ≤ (d : Int) := by omega
        replace HS := hid (HS.out.step hwz')
        clear E0 E1 E2 E3 hwz'
        obtain ⟨T, hT⟩ : ∃ T, T = fs.take k := ⟨_, rfl⟩
        have HT : Hid (fs.take k = T) := hT.symm
        have hTl : Hid (T.length = k) := by unfold Hid; rw [hT, List.length_take]; omega
        obtain ⟨T2, hT2⟩ : ∃ T2, T2 = T ++ [f] := ⟨_, rfl⟩
        have HT2 : Hid (T ++ [f] = T2) := hT2.symm
        have hT2l : Hid (T2.length = k + 1) := by unfold Hid; rw [hT2, List.length_append, hTl.out]; rfl
        have hkm1 : Hid (k + 1 + (m - k) = m + 1) := by unfold Hid; omega
        have HG : Hid ((T2 ++ fs.drop k).length = m + 1 ∧ ∀ x ∈ T2 ++ fs.drop k, smallF x) := by
          refine ⟨by rw [List.length_append, hT2l.out]; rw [List.length_drop, hlf]; omega, fun x hx => ?_⟩
          rcases List.mem_append.1 hx with hx | hx
          · rw [hT2] at hx
            rcases List.mem_append.1 hx with hx | hx
            · rw [hT] at hx; exact hsx.out x (List.mem_of_mem_take hx)
            · rw [List.mem_singleton.1 hx]; exact hsf.out
          · exact hsx.out x (List.mem_of_mem_drop hx)
        clear hT hT2
        have hW := HS.out
        go_wp2_with fail
        obtain ⟨WW, hWW⟩ : ∃ WW, WW = wz := ⟨_, rfl⟩
        rw [← hWW] at hW ⊢
        clear HS hWW
        have p0 : ∀ w', Led w w' [tBlk w.heap.size 64 #[.int .i64 f.a, .int .i64 f.b, .int .i64 f.len, .int .i64 f.risk]] → w'.cell? ⟨w.heap.size, 0, none⟩ = some (.int .i64 f.a) := fun _ h => h.cell 0 0 rfl rfl
        have p1 : ∀ w', Led w w' [tBlk w.heap.size 64 #[.int .i64 f.a, .int .i64 f.b, .int .i64 f.len, .int .i64 f.risk]] → w'.cell? ⟨w.heap.size, 1, none⟩ = some (.int .i64 f.b) := fun _ h => h.cell 0 1 rfl rfl
        have p2 : ∀ w', Led w w' [tBlk w.heap.size 64 #[.int .i64 f.a, .int .i64 f.b, .int .i64 f.len, .int .i64 f.risk]] → w'.cell? ⟨w.heap.size, 2, none⟩ = some (.int .i64 f.len) := fun _ h => h.cell 0 2 rfl rfl
        have p3 : ∀ w', Led w w' [tBlk w.heap.size 64 #[.int .i64 f.a, .int .i64 f.b, .int .i64 f.len, .int .i64 f.risk]] → w'.cell? ⟨w.heap.size, 3, none⟩ = some (.int .i64 f.risk) := fun _ h => h.cell 0 3 rfl rfl
        refine wp_region_held_drew (S := fun w' => Led w w' [tBlk w.heap.size 64 #[.int .i64 f.a, .int .i64 f.b, .int .i64 f.len, .int .i64 f.risk]]) (by kernel_rfl) (hW.step (Cls.drew _)) (fun hHeld => ?_)
        refine wpAnyH_take (i := 1) (oi := _) (v := ?_) rfl (by kernel_rfl) (by kernel_rfl) (by kernel_rfl) (fun _ _ _ h => h) (Or.inl ⟨by rfl, ?_⟩) (by assumption) ?_
        rotate_left
        · intro w hSw; go_simp; with_reducible rfl
        simp only [Act.put, List.getElem_toArray, List.getElem_cons_zero, List.getElem_cons_succ, List.setIfInBounds_toArray, List.set_cons_zero, List.set_cons_succ]
        refine wpAnyH_take (i := 2) (oi := _) (v := ?_) rfl (by kernel_rfl) (by kernel_rfl) (by kernel_rfl) (fun _ _ _ h => h) (Or.inl ⟨by rfl, ?_⟩) (by assumption) ?_
        rotate_left
        · intro w hSw; go_simp; with_reducible rfl
        simp only [Act.put, List.getElem_toArray, List.getElem_cons_zero, List.getElem_cons_succ, List.setIfInBounds_toArray, List.set_cons_zero, List.set_cons_succ]
        refine wpAnyH_take (i := 3) (oi := _) (v := ?_) rfl (by kernel_rfl) (by kernel_rfl) (by kernel_rfl) (fun _ _ _ h => h) (Or.inl ⟨by rfl, ?_⟩) (by assumption) ?_
        rotate_left
        · intro w hSw; go_simp; with_reducible rfl
        simp only [Act.put, List.getElem_toArray, List.getElem_cons_zero, List.getElem_cons_succ, List.setIfInBounds_toArray, List.set_cons_zero, List.set_cons_succ]
        refine wpAnyH_take (i := 5) (oi := _) (v := ?_) rfl (by kernel_rfl) (by kernel_rfl) (by kernel_rfl) (fun _ _ _ h => h) (Or.inl ⟨by rfl, ?_⟩) (by assumption) ?_
        rotate_left
        · intro w hSw; go_simp; with_reducible rfl
        simp only [Act.put, List.getElem_toArray, List.getElem_cons_zero, List.getElem_cons_succ, List.setIfInBounds_toArray, List.set_cons_zero, List.set_cons_succ]
        refine wpAnyH_take (i := 8) (oi := _) (v := ?_) rfl (by kernel_rfl) (by kernel_rfl) (by kernel_rfl) (fun _ _ _ h => h) (Or.inl ⟨by rfl, ?_⟩) (by assumption) ?_
        rotate_left
        · intro w hSw; go_simp; with_reducible rfl
        simp only [Act.put, List.getElem_toArray, List.getElem_cons_zero, List.getElem_cons_succ, List.setIfInBounds_toArray, List.set_cons_zero, List.set_cons_succ]
        refine wpAnyH_take (i := 9) (oi := _) (v := ?_) rfl (by kernel_rfl) (by kernel_rfl) (by kernel_rfl) (fun _ _ _ h => h) (Or.inl ⟨by rfl, ?_⟩) (by assumption) ?_
        rotate_left
        · intro w hSw; go_simp; with_reducible rfl
        simp only [Act.put, List.getElem_toArray, List.getElem_cons_zero, List.getElem_cons_succ, List.setIfInBounds_toArray, List.set_cons_zero, List.set_cons_succ]
        refine wpAnyH_take (i := 10) (oi := _) (v := ?_) rfl (by kernel_rfl) (by kernel_rfl) (by kernel_rfl) (fun _ _ _ h => h) (Or.inl ⟨by rfl, ?_⟩) (by assumption) ?_
        rotate_left
        · intro w hSw; go_simp; with_reducible rfl
        simp only [Act.put, List.getElem_toArray, List.getElem_cons_zero, List.getElem_cons_succ, List.setIfInBounds_toArray, List.set_cons_zero, List.set_cons_succ]
        refine wpAnyH_ready (rs := [0, 6]) (by kernel_rfl) (by simp) ?_
        refine AllReadyH.cons rfl (fun K hK => ?_) ?_
        · skip
          have a1 := (hW.empty elFib 64 (WW.heap.size) rfl w.heap.size (by have := hW.bl.size; omega)).step (Cls.drew _)
          go_simp
          go_wp2_with fail
          refine hK.out _ _ (a1.drop 1) (fun hHeld => ?_)
          clear hK K
          try simp only [Act.put, List.getElem_toArray, List.getElem_cons_zero, List.getElem_cons_succ, List.setIfInBounds_toArray, List.set_cons_zero, List.set_cons_succ]
          refine wpAnyH_ready (rs := [4, 6]) (by kernel_rfl) (by simp) ?_
          refine AllReadyH.cons rfl (fun K hK => ?_) ?_
          · skip
            refine step_append_led rfl _ _ 25 rfl a1 0 rfl Tryz.underlying25 hj hy0 hy1 (by rw [hy2]; decide) rfl rfl rfl ((HN.out.grow a1.bl).take hk) (by simp; omega) a1.bl.size ?_
            intro B1 b1 v1 h1
            simp only [List.length_nil, Nat.zero_add, List.nil_append] at h1 ⊢
            rw [HT.out] at h1
            refine hK.out _ _ (h1.drop 1) (fun hHeld => ?_)
            clear hK K
            try simp only [Act.put, List.getElem_toArray, List.getElem_cons_zero, List.getElem_cons_succ, List.setIfInBounds_toArray, List.set_cons_zero, List.set_cons_succ]
            refine wpAnyH_ready (rs := [6]) (by kernel_rfl) (by simp) ?_
            refine AllReadyH.cons rfl (fun K hK => ?_) AllReadyH.nil
            have a2 := h1.blk_ v1.heap.size rfl 64 #[.int .i64 f.a, .int .i64 f.b, .int .i64 f.len, .int .i64 f.risk]
            go_simp
            go_wp2_with fail
            refine hK.out _ _ (a2.drop 2) (fun hHeld => ?_)
            clear hK K
            try simp only [Act.put, List.getElem_toArray, List.getElem_cons_zero, List.getElem_cons_succ, List.setIfInBounds_toArray, List.set_cons_zero, List.set_cons_succ]
            refine wpAnyH_ready (rs := [7]) (by kernel_rfl) (by simp) ?_
            refine AllReadyH.cons rfl (fun K hK => ?_) AllReadyH.nil
            refine step_append_led rfl _ _ 25 rfl a2 1 rfl Tryz.underlying25 hj hy0 hy1 (by rw [hy2]; decide) rfl rfl rfl (sees_fib (a2.get 0 rfl)) (by have := hTl.out; omega) a2.bl.size ?_
            intro B2 b2 v2 h2
            rw [HT2.out, hTl.out] at h2
            rw [hTl.out]
            refine hK.out _ _ (h2.drop 2) (fun hHeld => ?_)
            clear hK K
            try simp only [Act.put, List.getElem_toArray, List.getElem_cons_zero, List.getElem_cons_succ, List.setIfInBounds_toArray, List.set_cons_zero, List.set_cons_succ]
            refine wpAnyH_ready (rs := [11]) (by kernel_rfl) (by simp) ?_
            refine AllReadyH.cons rfl (fun K hK => ?_) AllReadyH.nil
            refine step_append_led rfl _ _ 25 rfl h2 1 rfl Tryz.underlying25 hj hy0 hy1 (by rw [hy2]; decide) rfl rfl rfl ((HN.out.grow h2.bl).backE hk) (by have := hT2l.out; omega) h2.bl.size ?_
            intro B3 b3 v3 h3
            rw [hT2l.out, hkm1.out] at h3
            rw [hT2l.out, hkm1.out]
            refine hK.out _ _ (h3.drop 2) (fun hHeld => ?_)
            clear hK K
            try simp only [Act.put, List.getElem_toArray, List.getElem_cons_zero, List.getElem_cons_succ, List.setIfInBounds_toArray, List.set_cons_zero, List.set_cons_succ]
            refine wpAnyH_take (i := 12) (oi := _) (v := ?_) rfl (by kernel_rfl) (by kernel_rfl) (by kernel_rfl) (fun _ _ _ h => h) (Or.inl ⟨by rfl, ?_⟩) (by assumption) ?_
            rotate_left
            · intro w hSw; go_simp; with_reducible rfl
            simp only [Act.put, List.getElem_toArray, List.getElem_cons_zero, List.getElem_cons_succ, List.setIfInBounds_toArray, List.set_cons_zero, List.set_cons_succ]
            have HE := hid h3
            clear p0 p1 p2 p3 h1 h2 h3 hHeld
            refine wpAnyH_done (by kernel_rfl) ?_ _
            go_wp2_with fail
            go_ret
            exact ⟨B3, b3, _, rfl, HG.out.1, HG.out.2, HE.out.own 1 rfl, HE.out.bl⟩
          · skip
            refine AllReadyH.cons rfl (fun K hK => ?_) AllReadyH.nil
            have a2 := ((hW.empty elFib 64 (WW.heap.size) rfl w.heap.size (by have := hW.bl.size; omega)).blk_ (WW.heap.size + 1) (by simp) 64 #[.int .i64 f.a, .int .i64 f.b, .int .i64 f.len, .int .i64 f.risk]).step (Cls.drew _)
            go_simp
            go_wp2_with fail
            refine hK.out _ _ (a2.drop 2) (fun hHeld => ?_)
            clear hK K
            try simp only [Act.put, List.getElem_toArray, List.getElem_cons_zero, List.getElem_cons_succ, List.setIfInBounds_toArray, List.set_cons_zero, List.set_cons_succ]
            refine wpAnyH_ready (rs := [4]) (by kernel_rfl) (by simp) ?_
            refine AllReadyH.cons rfl (fun K hK => ?_) AllReadyH.nil
            refine step_append_led rfl _ _ 25 rfl a2 1 rfl Tryz.underlying25 hj hy0 hy1 (by rw [hy2]; decide) rfl rfl rfl ((HN.out.grow a2.bl).take hk) (by simp; omega) a2.bl.size ?_
            intro B1 b1 v1 h1
            simp only [List.length_nil, Nat.zero_add, List.nil_append] at h1 ⊢
            rw [HT.out] at h1
            refine hK.out _ _ (h1.drop 2) (fun hHeld => ?_)
            clear hK K
            try simp only [Act.put, List.getElem_toArray, List.getElem_cons_zero, List.getElem_cons_succ, List.setIfInBounds_toArray, List.set_cons_zero, List.set_cons_succ]
            refine wpAnyH_ready (rs := [7]) (by kernel_rfl) (by simp) ?_
            refine AllReadyH.cons rfl (fun K hK => ?_) AllReadyH.nil
            refine step_append_led rfl _ _ 25 rfl h1 1 rfl Tryz.underlying25 hj hy0 hy1 (by rw [hy2]; decide) rfl rfl rfl (sees_fib (h1.get 0 rfl)) (by have := hTl.out; omega) h1.bl.size ?_
            intro B2 b2 v2 h2
            rw [HT2.out, hTl.out] at h2
            rw [hTl.out]
            refine hK.out _ _ (h2.drop 2) (fun hHeld => ?_)
            clear hK K
            try simp only [Act.put, List.getElem_toArray, List.getElem_cons_zero, List.getElem_cons_succ, List.setIfInBounds_toArray, List.set_cons_zero, List.set_cons_succ]
            refine wpAnyH_ready (rs := [11]) (by kernel_rfl) (by simp) ?_
            refine AllReadyH.cons rfl (fun K hK => ?_) AllReadyH.nil
            refine step_append_led rfl _ _ 25 rfl h2 1 rfl Tryz.underlying25 hj hy0 hy1 (by rw [hy2]; decide) rfl rfl rfl ((HN.out.grow h2.bl).backE hk) (by have := hT2l.out; omega) h2.bl.size ?_
            intro B3 b3 v3 h3
            rw [hT2l.out, hkm1.out] at h3
            rw [hT2l.out, hkm1.out]
            refine hK.out _ _ (h3.drop 2) (fun hHeld => ?_)
            clear hK K
            try simp only [Act.put, List.getElem_toArray, List.getElem_cons_zero, List.getElem_cons_succ, List.setIfInBounds_toArray, List.set_cons_zero, List.set_cons_succ]
            refine wpAnyH_take (i := 12) (oi := _) (v := ?_) rfl (by kernel_rfl) (by kernel_rfl) (by kernel_rfl) (fun _ _ _ h => h) (Or.inl ⟨by rfl, ?_⟩) (by assumption) ?_
            rotate_left
            · intro w hSw; go_simp; with_reducible rfl
            simp only [Act.put, List.getElem_toArray, List.getElem_cons_zero, List.getElem_cons_succ, List.setIfInBounds_toArray, List.set_cons_zero, List.set_cons_succ]
            have HE := hid h3
            clear p0 p1 p2 p3 h1 h2 h3 hHeld
            refine wpAnyH_done (by kernel_rfl) ?_ _
            go_wp2_with fail
            go_ret
            exact ⟨B3, b3, _, rfl, HG.out.1, HG.out.2, HE.out.own 1 rfl, HE.out.bl⟩
        · skip
          refine AllReadyH.cons rfl (fun K hK => ?_) AllReadyH.nil
          have a1 := (hW.blk_ WW.heap.size rfl 64 #[.int .i64 f.a, .int .i64 f.b, .int .i64 f.len, .int .i64 f.risk]).step (Cls.drew _)
          go_simp
          go_wp2_with fail
          refine hK.out _ _ (a1.drop 1) (fun hHeld => ?_)
          clear hK K
          try simp only [Act.put, List.getElem_toArray, List.getElem_cons_zero, List.getElem_cons_succ, List.setIfInBounds_toArray, List.set_cons_zero, List.set_cons_succ]
          refine wpAnyH_ready (rs := [0]) (by kernel_rfl) (by simp) ?_
          refine AllReadyH.cons rfl (fun K hK => ?_) AllReadyH.nil
          have a2 := ((hW.blk_ WW.heap.size rfl 64 #[.int .i64 f.a, .int .i64 f.b, .int .i64 f.len, .int .i64 f.risk]).empty elFib 64 (WW.heap.size + 1) (by simp) w.heap.size (by have := hW.bl.size; omega)).step (Cls.drew _)
          go_simp
          go_wp2_with fail
          refine hK.out _ _ (a2.drop 2) (fun hHeld => ?_)
          clear hK K
          try simp only [Act.put, List.getElem_toArray, List.getElem_cons_zero, List.getElem_cons_succ, List.setIfInBounds_toArray, List.set_cons_zero, List.set_cons_succ]
          refine wpAnyH_ready (rs := [4]) (by kernel_rfl) (by simp) ?_
          refine AllReadyH.cons rfl (fun K hK => ?_) AllReadyH.nil
          refine step_append_led rfl _ _ 25 rfl a2 0 rfl Tryz.underlying25 hj hy0 hy1 (by rw [hy2]; decide) rfl rfl rfl ((HN.out.grow a2.bl).take hk) (by simp; omega) a2.bl.size ?_
          intro B1 b1 v1 h1
          simp only [List.length_nil, Nat.zero_add, List.nil_append] at h1 ⊢
          rw [HT.out] at h1
          refine hK.out _ _ (h1.drop 2) (fun hHeld => ?_)
          clear hK K
          try simp only [Act.put, List.getElem_toArray, List.getElem_cons_zero, List.getElem_cons_succ, List.setIfInBounds_toArray, List.set_cons_zero, List.set_cons_succ]
          refine wpAnyH_ready (rs := [7]) (by kernel_rfl) (by simp) ?_
          refine AllReadyH.cons rfl (fun K hK => ?_) AllReadyH.nil
          refine step_append_led rfl _ _ 25 rfl h1 0 rfl Tryz.underlying25 hj hy0 hy1 (by rw [hy2]; decide) rfl rfl rfl (sees_fib (h1.get 1 rfl)) (by have := hTl.out; omega) h1.bl.size ?_
          intro B2 b2 v2 h2
          rw [HT2.out, hTl.out] at h2
          rw [hTl.out]
          refine hK.out _ _ (h2.drop 2) (fun hHeld => ?_)
          clear hK K
          try simp only [Act.put, List.getElem_toArray, List.getElem_cons_zero, List.getElem_cons_succ, List.setIfInBounds_toArray, List.set_cons_zero, List.set_cons_succ]
          refine wpAnyH_ready (rs := [11]) (by kernel_rfl) (by simp) ?_
          refine AllReadyH.cons rfl (fun K hK => ?_) AllReadyH.nil
          refine step_append_led rfl _ _ 25 rfl h2 0 rfl Tryz.underlying25 hj hy0 hy1 (by rw [hy2]; decide) rfl rfl rfl ((HN.out.grow h2.bl).backE hk) (by have := hT2l.out; omega) h2.bl.size ?_
          intro B3 b3 v3 h3
          rw [hT2l.out, hkm1.out] at h3
          rw [hT2l.out, hkm1.out]
          refine hK.out _ _ (h3.drop 2) (fun hHeld => ?_)
          clear hK K
          try simp only [Act.put, List.getElem_toArray, List.getElem_cons_zero, List.getElem_cons_succ, List.setIfInBounds_toArray, List.set_cons_zero, List.set_cons_succ]
          refine wpAnyH_take (i := 12) (oi := _) (v := ?_) rfl (by kernel_rfl) (by kernel_rfl) (by kernel_rfl) (fun _ _ _ h => h) (Or.inl ⟨by rfl, ?_⟩) (by assumption) ?_
          rotate_left
          · intro w hSw; go_simp; with_reducible rfl
          simp only [Act.put, List.getElem_toArray, List.getElem_cons_zero, List.getElem_cons_succ, List.setIfInBounds_toArray, List.set_cons_zero, List.set_cons_succ]
          have HE := hid h3
          clear p0 p1 p2 p3 h1 h2 h3 hHeld
          refine wpAnyH_done (by kernel_rfl) ?_ _
          go_wp2_with fail
          go_ret
          exact ⟨B3, b3, _, rfl, HG.out.1, HG.out.2, HE.out.own 0 rfl, HE.out.bl⟩
    · have hkm : k = m := by omega
      have iz : ¬ ((k : Int) < (m : Int)) := by omega
      have hkd : (k : Int) ≤ (d : Int) := by omega
      have HKM := hid hkm
      clear hkm
      go_wp2_with fail
      refine region_cls (by kernel_rfl) (by kernel_rfl) ?_
      repeat (first
        | ((with_reducible refine quiet_pos ?_ (fun K hK => ?_))
           · rfl
           apply Exists.intro
           refine ⟨fun w' hw' => ?_, ?_⟩
           · go_simp
             with_reducible rfl
           simp only [Act.put, List.setIfInBounds_toArray, List.set_cons_zero, List.set_cons_succ]
           refine hK _ ?_; clear hK K)
        | ((with_reducible refine quiet_neg ?_ (fun K hK => ?_))
           · rfl
           simp only [Act.put, List.setIfInBounds_toArray, List.set_cons_zero, List.set_cons_succ]
           refine hK _ ?_; clear hK K))
      with_reducible refine wpQuiet_nil ?_
      intro wz hwz'
      by_cases hdk : d = k
      · have hdk2 := hdk.symm; clear hdk; subst hdk2
        replace HS := hid (HS.out.step hwz')
        clear E0 E1 E2 E3 hwz'
        obtain ⟨T, hT⟩ : ∃ T, T = fs.take k := ⟨_, rfl⟩
        have HT : Hid (fs.take k = T) := hT.symm
        have hTl : Hid (T.length = k) := by unfold Hid; rw [hT, List.length_take]; omega
        obtain ⟨T2, hT2⟩ : ∃ T2, T2 = T ++ [f] := ⟨_, rfl⟩
        have HT2 : Hid (T ++ [f] = T2) := hT2.symm
        have hT2l : Hid (T2.length = k + 1) := by unfold Hid; rw [hT2, List.length_append, hTl.out]; rfl
        have hkm1 : Hid (k + 1 + 0 = m + 1) := by unfold Hid; have := HKM.out; omega
        have hmk : m - k = 0 := by have := HKM.out; omega
        have HG : Hid ((T2 ++ ([] : List Fib)).length = m + 1 ∧ ∀ x ∈ T2 ++ ([] : List Fib), smallF x) := by
          refine ⟨by rw [List.length_append, hT2l.out]; exact hkm1.out, fun x hx => ?_⟩
          rcases List.mem_append.1 hx with hx | hx
          · rw [hT2] at hx
            rcases List.mem_append.1 hx with hx | hx
            · rw [hT] at hx; exact hsx.out x (List.mem_of_mem_take hx)
            · rw [List.mem_singleton.1 hx]; exact hsf.out
          · cases hx
        clear hT hT2
        have hW := HS.out
        go_wp2_with fail
        obtain ⟨WW, hWW⟩ : ∃ WW, WW = wz := ⟨_, rfl⟩
        rw [← hWW] at hW ⊢
        clear HS hWW
        have p0 : ∀ w', Led w w' [tBlk w.heap.size 64 #[.int .i64 f.a, .int .i64 f.b, .int .i64 f.len, .int .i64 f.risk]] → w'.cell? ⟨w.heap.size, 0, none⟩ = some (.int .i64 f.a) := fun _ h => h.cell 0 0 rfl rfl
        have p1 : ∀ w', Led w w' [tBlk w.heap.size 64 #[.int .i64 f.a, .int .i64 f.b, .int .i64 f.len, .int .i64 f.risk]] → w'.cell? ⟨w.heap.size, 1, none⟩ = some (.int .i64 f.b) := fun _ h => h.cell 0 1 rfl rfl
        have p2 : ∀ w', Led w w' [tBlk w.heap.size 64 #[.int .i64 f.a, .int .i64 f.b, .int .i64 f.len, .int .i64 f.risk]] → w'.cell? ⟨w.heap.size, 2, none⟩ = some (.int .i64 f.len) := fun _ h => h.cell 0 2 rfl rfl
        have p3 : ∀ w', Led w w' [tBlk w.heap.size 64 #[.int .i64 f.a, .int .i64 f.b, .int .i64 f.len, .int .i64 f.risk]] → w'.cell? ⟨w.heap.size, 3, none⟩ = some (.int .i64 f.risk) := fun _ h => h.cell 0 3 rfl rfl
        refine wp_region_held_drew (S := fun w' => Led w w' [tBlk w.heap.size 64 #[.int .i64 f.a, .int .i64 f.b, .int .i64 f.len, .int .i64 f.risk]]) (by kernel_rfl) (hW.step (Cls.drew _)) (fun hHeld => ?_)
        refine wpAnyH_take (i := 1) (oi := _) (v := ?_) rfl (by kernel_rfl) (by kernel_rfl) (by kernel_rfl) (fun _ _ _ h => h) (Or.inl ⟨by rfl, ?_⟩) (by assumption) ?_
        rotate_left
        · intro w hSw; go_simp; with_reducible rfl
        simp only [Act.put, List.getElem_toArray, List.getElem_cons_zero, List.getElem_cons_succ, List.setIfInBounds_toArray, List.set_cons_zero, List.set_cons_succ]
        refine wpAnyH_take (i := 2) (oi := _) (v := ?_) rfl (by kernel_rfl) (by kernel_rfl) (by kernel_rfl) (fun _ _ _ h => h) (Or.inl ⟨by rfl, ?_⟩) (by assumption) ?_
        rotate_left
        · intro w hSw; go_simp; with_reducible rfl
        simp only [Act.put, List.getElem_toArray, List.getElem_cons_zero, List.getElem_cons_succ, List.setIfInBounds_toArray, List.set_cons_zero, List.set_cons_succ]
        refine wpAnyH_take (i := 3) (oi := _) (v := ?_) rfl (by kernel_rfl) (by kernel_rfl) (by kernel_rfl) (fun _ _ _ h => h) (Or.inl ⟨by rfl, ?_⟩) (by assumption) ?_
        rotate_left
        · intro w hSw; go_simp; with_reducible rfl
        simp only [Act.put, List.getElem_toArray, List.getElem_cons_zero, List.getElem_cons_succ, List.setIfInBounds_toArray, List.set_cons_zero, List.set_cons_succ]
        refine wpAnyH_take (i := 5) (oi := _) (v := ?_) rfl (by kernel_rfl) (by kernel_rfl) (by kernel_rfl) (fun _ _ _ h => h) (Or.inl ⟨by rfl, ?_⟩) (by assumption) ?_
        rotate_left
        · intro w hSw; go_simp; with_reducible rfl
        simp only [Act.put, List.getElem_toArray, List.getElem_cons_zero, List.getElem_cons_succ, List.setIfInBounds_toArray, List.set_cons_zero, List.set_cons_succ]
        refine wpAnyH_take (i := 8) (oi := _) (v := ?_) rfl (by kernel_rfl) (by kernel_rfl) (by kernel_rfl) (fun _ _ _ h => h) (Or.inl ⟨by rfl, ?_⟩) (by assumption) ?_
        rotate_left
        · intro w hSw; go_simp; with_reducible rfl
        simp only [Act.put, List.getElem_toArray, List.getElem_cons_zero, List.getElem_cons_succ, List.setIfInBounds_toArray, List.set_cons_zero, List.set_cons_succ]
        refine wpAnyH_take (i := 9) (oi := _) (v := ?_) rfl (by kernel_rfl) (by kernel_rfl) (by kernel_rfl) (fun _ _ _ h => h) (Or.inl ⟨by rfl, ?_⟩) (by assumption) ?_
        rotate_left
        · intro w hSw; go_simp; with_reducible rfl
        simp only [Act.put, List.getElem_toArray, List.getElem_cons_zero, List.getElem_cons_succ, List.setIfInBounds_toArray, List.set_cons_zero, List.set_cons_succ]
        refine wpAnyH_take (i := 10) (oi := _) (v := ?_) rfl (by kernel_rfl) (by kernel_rfl) (by kernel_rfl) (fun _ _ _ h => h) (Or.inl ⟨by rfl, ?_⟩) (by assumption) ?_
        rotate_left
        · intro w hSw; go_simp; with_reducible rfl
        simp only [Act.put, List.getElem_toArray, List.getElem_cons_zero, List.getElem_cons_succ, List.setIfInBounds_toArray, List.set_cons_zero, List.set_cons_succ]
        refine wpAnyH_ready (rs := [0, 6]) (by kernel_rfl) (by simp) ?_
        refine AllReadyH.cons rfl (fun K hK => ?_) ?_
        · skip
          have a1 := (hW.empty elFib 64 (WW.heap.size) rfl w.heap.size (by have := hW.bl.size; omega)).step (Cls.drew _)
          go_simp
          go_wp2_with fail
          refine hK.out _ _ (a1.drop 1) (fun hHeld => ?_)
          clear hK K
          try simp only [Act.put, List.getElem_toArray, List.getElem_cons_zero, List.getElem_cons_succ, List.setIfInBounds_toArray, List.set_cons_zero, List.set_cons_succ]
          refine wpAnyH_ready (rs := [4, 6]) (by kernel_rfl) (by simp) ?_
          refine AllReadyH.cons rfl (fun K hK => ?_) ?_
          · skip
            refine step_append_led rfl _ _ 25 rfl a1 0 rfl Tryz.underlying25 hj hy0 hy1 (by rw [hy2]; decide) rfl rfl rfl ((HN.out.grow a1.bl).take hk) (by simp; omega) a1.bl.size ?_
            intro B1 b1 v1 h1
            simp only [List.length_nil, Nat.zero_add, List.nil_append] at h1 ⊢
            rw [HT.out] at h1
            refine hK.out _ _ (h1.drop 1) (fun hHeld => ?_)
            clear hK K
            try simp only [Act.put, List.getElem_toArray, List.getElem_cons_zero, List.getElem_cons_succ, List.setIfInBounds_toArray, List.set_cons_zero, List.set_cons_succ]
            refine wpAnyH_ready (rs := [6]) (by kernel_rfl) (by simp) ?_
            refine AllReadyH.cons rfl (fun K hK => ?_) AllReadyH.nil
            have a2 := h1.blk_ v1.heap.size rfl 64 #[.int .i64 f.a, .int .i64 f.b, .int .i64 f.len, .int .i64 f.risk]
            go_simp
            go_wp2_with fail
            refine hK.out _ _ (a2.drop 2) (fun hHeld => ?_)
            clear hK K
            try simp only [Act.put, List.getElem_toArray, List.getElem_cons_zero, List.getElem_cons_succ, List.setIfInBounds_toArray, List.set_cons_zero, List.set_cons_succ]
            refine wpAnyH_ready (rs := [7]) (by kernel_rfl) (by simp) ?_
            refine AllReadyH.cons rfl (fun K hK => ?_) AllReadyH.nil
            refine step_append_led rfl _ _ 25 rfl a2 1 rfl Tryz.underlying25 hj hy0 hy1 (by rw [hy2]; decide) rfl rfl rfl (sees_fib (a2.get 0 rfl)) (by have := hTl.out; omega) a2.bl.size ?_
            intro B2 b2 v2 h2
            rw [HT2.out, hTl.out] at h2
            rw [hTl.out]
            refine hK.out _ _ (h2.drop 2) (fun hHeld => ?_)
            clear hK K
            try simp only [Act.put, List.getElem_toArray, List.getElem_cons_zero, List.getElem_cons_succ, List.setIfInBounds_toArray, List.set_cons_zero, List.set_cons_succ]
            refine wpAnyH_ready (rs := [11]) (by kernel_rfl) (by simp) ?_
            refine AllReadyH.cons rfl (fun K hK => ?_) AllReadyH.nil
            refine step_append_led rfl _ _ 25 rfl h2 1 rfl Tryz.underlying25 hj hy0 hy1 (by rw [hy2]; decide) rfl rfl rfl (Sees.nil elFib _ 0 _) (by have := hT2l.out; omega) h2.bl.size ?_
            intro B3 b3 v3 h3
            rw [hT2l.out, hkm1.out] at h3
            rw [hT2l.out, hkm1.out]
            refine hK.out _ _ (h3.drop 2) (fun hHeld => ?_)
            clear hK K
            try simp only [Act.put, List.getElem_toArray, List.getElem_cons_zero, List.getElem_cons_succ, List.setIfInBounds_toArray, List.set_cons_zero, List.set_cons_succ]
            refine wpAnyH_take (i := 12) (oi := _) (v := ?_) rfl (by kernel_rfl) (by kernel_rfl) (by kernel_rfl) (fun _ _ _ h => h) (Or.inl ⟨by rfl, ?_⟩) (by assumption) ?_
            rotate_left
            · intro w hSw; go_simp; with_reducible rfl
            simp only [Act.put, List.getElem_toArray, List.getElem_cons_zero, List.getElem_cons_succ, List.setIfInBounds_toArray, List.set_cons_zero, List.set_cons_succ]
            have HE := hid h3
            clear p0 p1 p2 p3 h1 h2 h3 hHeld
            refine wpAnyH_done (by kernel_rfl) ?_ _
            go_wp2_with fail
            go_ret
            exact ⟨B3, b3, _, rfl, HG.out.1, HG.out.2, HE.out.own 1 rfl, HE.out.bl⟩
          · skip
            refine AllReadyH.cons rfl (fun K hK => ?_) AllReadyH.nil
            have a2 := ((hW.empty elFib 64 (WW.heap.size) rfl w.heap.size (by have := hW.bl.size; omega)).blk_ (WW.heap.size + 1) (by simp) 64 #[.int .i64 f.a, .int .i64 f.b, .int .i64 f.len, .int .i64 f.risk]).step (Cls.drew _)
            go_simp
            go_wp2_with fail
            refine hK.out _ _ (a2.drop 2) (fun hHeld => ?_)
            clear hK K
            try simp only [Act.put, List.getElem_toArray, List.getElem_cons_zero, List.getElem_cons_succ, List.setIfInBounds_toArray, List.set_cons_zero, List.set_cons_succ]
            refine wpAnyH_ready (rs := [4]) (by kernel_rfl) (by simp) ?_
            refine AllReadyH.cons rfl (fun K hK => ?_) AllReadyH.nil
            refine step_append_led rfl _ _ 25 rfl a2 1 rfl Tryz.underlying25 hj hy0 hy1 (by rw [hy2]; decide) rfl rfl rfl ((HN.out.grow a2.bl).take hk) (by simp; omega) a2.bl.size ?_
            intro B1 b1 v1 h1
            simp only [List.length_nil, Nat.zero_add, List.nil_append] at h1 ⊢
            rw [HT.out] at h1
            refine hK.out _ _ (h1.drop 2) (fun hHeld => ?_)
            clear hK K
            try simp only [Act.put, List.getElem_toArray, List.getElem_cons_zero, List.getElem_cons_succ, List.setIfInBounds_toArray, List.set_cons_zero, List.set_cons_succ]
            refine wpAnyH_ready (rs := [7]) (by kernel_rfl) (by simp) ?_
            refine AllReadyH.cons rfl (fun K hK => ?_) AllReadyH.nil
            refine step_append_led rfl _ _ 25 rfl h1 1 rfl Tryz.underlying25 hj hy0 hy1 (by rw [hy2]; decide) rfl rfl rfl (sees_fib (h1.get 0 rfl)) (by have := hTl.out; omega) h1.bl.size ?_
            intro B2 b2 v2 h2
            rw [HT2.out, hTl.out] at h2
            rw [hTl.out]
            refine hK.out _ _ (h2.drop 2) (fun hHeld => ?_)
            clear hK K
            try simp only [Act.put, List.getElem_toArray, List.getElem_cons_zero, List.getElem_cons_succ, List.setIfInBounds_toArray, List.set_cons_zero, List.set_cons_succ]
            refine wpAnyH_ready (rs := [11]) (by kernel_rfl) (by simp) ?_
            refine AllReadyH.cons rfl (fun K hK => ?_) AllReadyH.nil
            refine step_append_led rfl _ _ 25 rfl h2 1 rfl Tryz.underlying25 hj hy0 hy1 (by rw [hy2]; decide) rfl rfl rfl (Sees.nil elFib _ 0 _) (by have := hT2l.out; omega) h2.bl.size ?_
            intro B3 b3 v3 h3
            rw [hT2l.out, hkm1.out] at h3
            rw [hT2l.out, hkm1.out]
            refine hK.out _ _ (h3.drop 2) (fun hHeld => ?_)
            clear hK K
            try simp only [Act.put, List.getElem_toArray, List.getElem_cons_zero, List.getElem_cons_succ, List.setIfInBounds_toArray, List.set_cons_zero, List.set_cons_succ]
            refine wpAnyH_take (i := 12) (oi := _) (v := ?_) rfl (by kernel_rfl) (by kernel_rfl) (by kernel_rfl) (fun _ _ _ h => h) (Or.inl ⟨by rfl, ?_⟩) (by assumption) ?_
            rotate_left
            · intro w hSw; go_simp; with_reducible rfl
            simp only [Act.put, List.getElem_toArray, List.getElem_cons_zero, List.getElem_cons_succ, List.setIfInBounds_toArray, List.set_cons_zero, List.set_cons_succ]
            have HE := hid h3
            clear p0 p1 p2 p3 h1 h2 h3 hHeld
            refine wpAnyH_done (by kernel_rfl) ?_ _
            go_wp2_with fail
            go_ret
            exact ⟨B3, b3, _, rfl, HG.out.1, HG.out.2, HE.out.own 1 rfl, HE.out.bl⟩
        · skip
          refine AllReadyH.cons rfl (fun K hK => ?_) AllReadyH.nil
          have a1 := (hW.blk_ WW.heap.size rfl 64 #[.int .i64 f.a, .int .i64 f.b, .int .i64 f.len, .int .i64 f.risk]).step (Cls.drew _)
          go_simp
          go_wp2_with fail
          refine hK.out _ _ (a1.drop 1) (fun hHeld => ?_)
          clear hK K
          try simp only [Act.put, List.getElem_toArray, List.getElem_cons_zero, List.getElem_cons_succ, List.setIfInBounds_toArray, List.set_cons_zero, List.set_cons_succ]
          refine wpAnyH_ready (rs := [0]) (by kernel_rfl) (by simp) ?_
          refine AllReadyH.cons rfl (fun K hK => ?_) AllReadyH.nil
          have a2 := ((hW.blk_ WW.heap.size rfl 64 #[.int .i64 f.a, .int .i64 f.b, .int .i64 f.len, .int .i64 f.risk]).empty elFib 64 (WW.heap.size + 1) (by simp) w.heap.size (by have := hW.bl.size; omega)).step (Cls.drew _)
          go_simp
          go_wp2_with fail
          refine hK.out _ _ (a2.drop 2) (fun hHeld => ?_)
          clear hK K
          try simp only [Act.put, List.getElem_toArray, List.getElem_cons_zero, List.getElem_cons_succ, List.setIfInBounds_toArray, List.set_cons_zero, List.set_cons_succ]
          refine wpAnyH_ready (rs := [4]) (by kernel_rfl) (by simp) ?_
          refine AllReadyH.cons rfl (fun K hK => ?_) AllReadyH.nil
          refine step_append_led rfl _ _ 25 rfl a2 0 rfl Tryz.underlying25 hj hy0 hy1 (by rw [hy2]; decide) rfl rfl rfl ((HN.out.grow a2.bl).take hk) (by simp; omega) a2.bl.size ?_
          intro B1 b1 v1 h1
          simp only [List.length_nil, Nat.zero_add, List.nil_append] at h1 ⊢
          rw [HT.out] at h1
          refine hK.out _ _ (h1.drop 2) (fun hHeld => ?_)
          clear hK K
          try simp only [Act.put, List.getElem_toArray, List.getElem_cons_zero, List.getElem_cons_succ, List.setIfInBounds_toArray, List.set_cons_zero, List.set_cons_succ]
          refine wpAnyH_ready (rs := [7]) (by kernel_rfl) (by simp) ?_
          refine AllReadyH.cons rfl (fun K hK => ?_) AllReadyH.nil
          refine step_append_led rfl _ _ 25 rfl h1 0 rfl Tryz.underlying25 hj hy0 hy1 (by rw [hy2]; decide) rfl rfl rfl (sees_fib (h1.get 1 rfl)) (by have := hTl.out; omega) h1.bl.size ?_
          intro B2 b2 v2 h2
          rw [HT2.out, hTl.out] at h2
          rw [hTl.out]
          refine hK.out _ _ (h2.drop 2) (fun hHeld => ?_)
          clear hK K
          try simp only [Act.put, List.getElem_toArray, List.getElem_cons_zero, List.getElem_cons_succ, List.setIfInBounds_toArray, List.set_cons_zero, List.set_cons_succ]
          refine wpAnyH_ready (rs := [11]) (by kernel_rfl) (by simp) ?_
          refine AllReadyH.cons rfl (fun K hK => ?_) AllReadyH.nil
          refine step_append_led rfl _ _ 25 rfl h2 0 rfl Tryz.underlying25 hj hy0 hy1 (by rw [hy2]; decide) rfl rfl rfl (Sees.nil elFib _ 0 _) (by have := hT2l.out; omega) h2.bl.size ?_
          intro B3 b3 v3 h3
          rw [hT2l.out, hkm1.out] at h3
          rw [hT2l.out, hkm1.out]
          refine hK.out _ _ (h3.drop 2) (fun hHeld => ?_)
          clear hK K
          try simp only [Act.put, List.getElem_toArray, List.getElem_cons_zero, List.getElem_cons_succ, List.setIfInBounds_toArray, List.set_cons_zero, List.set_cons_succ]
          refine wpAnyH_take (i := 12) (oi := _) (v := ?_) rfl (by kernel_rfl) (by kernel_rfl) (by kernel_rfl) (fun _ _ _ h => h) (Or.inl ⟨by rfl, ?_⟩) (by assumption) ?_
          rotate_left
          · intro w hSw; go_simp; with_reducible rfl
          simp only [Act.put, List.getElem_toArray, List.getElem_cons_zero, List.getElem_cons_succ, List.setIfInBounds_toArray, List.set_cons_zero, List.set_cons_succ]
          have HE := hid h3
          clear p0 p1 p2 p3 h1 h2 h3 hHeld
          refine wpAnyH_done (by kernel_rfl) ?_ _
          go_wp2_with fail
          go_ret
          exact ⟨B3, b3, _, rfl, HG.out.1, HG.out.2, HE.out.own 0 rfl, HE.out.bl⟩
      · skip
        replace HS := hid (HS.out.step hwz')
        clear E0 E1 E2 E3 hwz'
        obtain ⟨T, hT⟩ : ∃ T, T = fs.take k := ⟨_, rfl⟩
        have HT : Hid (fs.take k = T) := hT.symm
        have hTl : Hid (T.length = k) := by unfold Hid; rw [hT, List.length_take]; omega
        obtain ⟨T2, hT2⟩ : ∃ T2, T2 = T ++ [f] := ⟨_, rfl⟩
        have HT2 : Hid (T ++ [f] = T2) := hT2.symm
        have hT2l : Hid (T2.length = k + 1) := by unfold Hid; rw [hT2, List.length_append, hTl.out]; rfl
        have hkm1 : Hid (k + 1 + 0 = m + 1) := by unfold Hid; have := HKM.out; omega
        have hmk : m - k = 0 := by have := HKM.out; omega
        have HG : Hid ((T2 ++ ([] : List Fib)).length = m + 1 ∧ ∀ x ∈ T2 ++ ([] : List Fib), smallF x) := by
          refine ⟨by rw [List.length_append, hT2l.out]; exact hkm1.out, fun x hx => ?_⟩
          rcases List.mem_append.1 hx with hx | hx
          · rw [hT2] at hx
            rcases List.mem_append.1 hx with hx | hx
            · rw [hT] at hx; exact hsx.out x (List.mem_of_mem_take hx)
            · rw [List.mem_singleton.1 hx]; exact hsf.out
          · cases hx
        clear hT hT2
        have hW := HS.out
        go_wp2_with fail
        obtain ⟨WW, hWW⟩ : ∃ WW, WW = wz := ⟨_, rfl⟩
        rw [← hWW] at hW ⊢
        clear HS hWW
        have p0 : ∀ w', Led w w' [tBlk w.heap.size 64 #[.int .i64 f.a, .int .i64 f.b, .int .i64 f.len, .int .i64 f.risk]] → w'.cell? ⟨w.heap.size, 0, none⟩ = some (.int .i64 f.a) := fun _ h => h.cell 0 0 rfl rfl
        have p1 : ∀ w', Led w w' [tBlk w.heap.size 64 #[.int .i64 f.a, .int .i64 f.b, .int .i64 f.len, .int .i64 f.risk]] → w'.cell? ⟨w.heap.size, 1, none⟩ = some (.int .i64 f.b) := fun _ h => h.cell 0 1 rfl rfl
        have p2 : ∀ w', Led w w' [tBlk w.heap.size 64 #[.int .i64 f.a, .int .i64 f.b, .int .i64 f.len, .int .i64 f.risk]] → w'.cell? ⟨w.heap.size, 2, none⟩ = some (.int .i64 f.len) := fun _ h => h.cell 0 2 rfl rfl
        have p3 : ∀ w', Led w w' [tBlk w.heap.size 64 #[.int .i64 f.a, .int .i64 f.b, .int .i64 f.len, .int .i64 f.risk]] → w'.cell? ⟨w.heap.size, 3, none⟩ = some (.int .i64 f.risk) := fun _ h => h.cell 0 3 rfl rfl
        refine wp_region_held_drew (S := fun w' => Led w w' [tBlk w.heap.size 64 #[.int .i64 f.a, .int .i64 f.b, .int .i64 f.len, .int .i64 f.risk]]) (by kernel_rfl) (hW.step (Cls.drew _)) (fun hHeld => ?_)
        refine wpAnyH_take (i := 1) (oi := _) (v := ?_) rfl (by kernel_rfl) (by kernel_rfl) (by kernel_rfl) (fun _ _ _ h => h) (Or.inl ⟨by rfl, ?_⟩) (by assumption) ?_
        rotate_left
        · intro w hSw; go_simp; with_reducible rfl
        simp only [Act.put, List.getElem_toArray, List.getElem_cons_zero, List.getElem_cons_succ, List.setIfInBounds_toArray, List.set_cons_zero, List.set_cons_succ]
        refine wpAnyH_take (i := 2) (oi := _) (v := ?_) rfl (by kernel_rfl) (by kernel_rfl) (by kernel_rfl) (fun _ _ _ h => h) (Or.inl ⟨by rfl, ?_⟩) (by assumption) ?_
        rotate_left
        · intro w hSw; go_simp; with_reducible rfl
        simp only [Act.put, List.getElem_toArray, List.getElem_cons_zero, List.getElem_cons_succ, List.setIfInBounds_toArray, List.set_cons_zero, List.set_cons_succ]
        refine wpAnyH_take (i := 3) (oi := _) (v := ?_) rfl (by kernel_rfl) (by kernel_rfl) (by kernel_rfl) (fun _ _ _ h => h) (Or.inl ⟨by rfl, ?_⟩) (by assumption) ?_
        rotate_left
        · intro w hSw; go_simp; with_reducible rfl
        simp only [Act.put, List.getElem_toArray, List.getElem_cons_zero, List.getElem_cons_succ, List.setIfInBounds_toArray, List.set_cons_zero, List.set_cons_succ]
        refine wpAnyH_take (i := 5) (oi := _) (v := ?_) rfl (by kernel_rfl) (by kernel_rfl) (by kernel_rfl) (fun _ _ _ h => h) (Or.inl ⟨by rfl, ?_⟩) (by assumption) ?_
        rotate_left
        · intro w hSw; go_simp; with_reducible rfl
        simp only [Act.put, List.getElem_toArray, List.getElem_cons_zero, List.getElem_cons_succ, List.setIfInBounds_toArray, List.set_cons_zero, List.set_cons_succ]
        refine wpAnyH_take (i := 8) (oi := _) (v := ?_) rfl (by kernel_rfl) (by kernel_rfl) (by kernel_rfl) (fun _ _ _ h => h) (Or.inl ⟨by rfl, ?_⟩) (by assumption) ?_
        rotate_left
        · intro w hSw; go_simp; with_reducible rfl
        simp only [Act.put, List.getElem_toArray, List.getElem_cons_zero, List.getElem_cons_succ, List.setIfInBounds_toArray, List.set_cons_zero, List.set_cons_succ]
        refine wpAnyH_take (i := 9) (oi := _) (v := ?_) rfl (by kernel_rfl) (by kernel_rfl) (by kernel_rfl) (fun _ _ _ h => h) (Or.inl ⟨by rfl, ?_⟩) (by assumption) ?_
        rotate_left
        · intro w hSw; go_simp; with_reducible rfl
        simp only [Act.put, List.getElem_toArray, List.getElem_cons_zero, List.getElem_cons_succ, List.setIfInBounds_toArray, List.set_cons_zero, List.set_cons_succ]
        refine wpAnyH_take (i := 10) (oi := _) (v := ?_) rfl (by kernel_rfl) (by kernel_rfl) (by kernel_rfl) (fun _ _ _ h => h) (Or.inl ⟨by rfl, ?_⟩) (by assumption) ?_
        rotate_left
        · intro w hSw; go_simp; with_reducible rfl
        simp only [Act.put, List.getElem_toArray, List.getElem_cons_zero, List.getElem_cons_succ, List.setIfInBounds_toArray, List.set_cons_zero, List.set_cons_succ]
        refine wpAnyH_ready (rs := [0, 6]) (by kernel_rfl) (by simp) ?_
        refine AllReadyH.cons rfl (fun K hK => ?_) ?_
        · skip
          have a1 := (hW.empty elFib 64 (WW.heap.size) rfl w.heap.size (by have := hW.bl.size; omega)).step (Cls.drew _)
          go_simp
          go_wp2_with fail
          refine hK.out _ _ (a1.drop 1) (fun hHeld => ?_)
          clear hK K
          try simp only [Act.put, List.getElem_toArray, List.getElem_cons_zero, List.getElem_cons_succ, List.setIfInBounds_toArray, List.set_cons_zero, List.set_cons_succ]
          refine wpAnyH_ready (rs := [4, 6]) (by kernel_rfl) (by simp) ?_
          refine AllReadyH.cons rfl (fun K hK => ?_) ?_
          · skip
            refine step_append_led rfl _ _ 25 rfl a1 0 rfl Tryz.underlying25 hj hy0 hy1 (by rw [hy2]; decide) rfl rfl rfl ((HN.out.grow a1.bl).take hk) (by simp; omega) a1.bl.size ?_
            intro B1 b1 v1 h1
            simp only [List.length_nil, Nat.zero_add, List.nil_append] at h1 ⊢
            rw [HT.out] at h1
            refine hK.out _ _ (h1.drop 1) (fun hHeld => ?_)
            clear hK K
            try simp only [Act.put, List.getElem_toArray, List.getElem_cons_zero, List.getElem_cons_succ, List.setIfInBounds_toArray, List.set_cons_zero, List.set_cons_succ]
            refine wpAnyH_ready (rs := [6]) (by kernel_rfl) (by simp) ?_
            refine AllReadyH.cons rfl (fun K hK => ?_) AllReadyH.nil
            have a2 := h1.blk_ v1.heap.size rfl 64 #[.int .i64 f.a, .int .i64 f.b, .int .i64 f.len, .int .i64 f.risk]
            go_simp
            go_wp2_with fail
            refine hK.out _ _ (a2.drop 2) (fun hHeld => ?_)
            clear hK K
            try simp only [Act.put, List.getElem_toArray, List.getElem_cons_zero, List.getElem_cons_succ, List.setIfInBounds_toArray, List.set_cons_zero, List.set_cons_succ]
            refine wpAnyH_ready (rs := [7]) (by kernel_rfl) (by simp) ?_
            refine AllReadyH.cons rfl (fun K hK => ?_) AllReadyH.nil
            refine step_append_led rfl _ _ 25 rfl a2 1 rfl Tryz.underlying25 hj hy0 hy1 (by rw [hy2]; decide) rfl rfl rfl (sees_fib (a2.get 0 rfl)) (by have := hTl.out; omega) a2.bl.size ?_
            intro B2 b2 v2 h2
            rw [HT2.out, hTl.out] at h2
            rw [hTl.out]
            refine hK.out _ _ (h2.drop 2) (fun hHeld => ?_)
            clear hK K
            try simp only [Act.put, List.getElem_toArray, List.getElem_cons_zero, List.getElem_cons_succ, List.setIfInBounds_toArray, List.set_cons_zero, List.set_cons_succ]
            refine wpAnyH_ready (rs := [11]) (by kernel_rfl) (by simp) ?_
            refine AllReadyH.cons rfl (fun K hK => ?_) AllReadyH.nil
            refine step_append_led rfl _ _ 25 rfl h2 1 rfl Tryz.underlying25 hj hy0 hy1 (by rw [hy2]; decide) rfl rfl rfl (Sees.nil elFib _ 0 _) (by have := hT2l.out; omega) h2.bl.size ?_
            intro B3 b3 v3 h3
            rw [hT2l.out, hkm1.out] at h3
            rw [hT2l.out, hkm1.out]
            refine hK.out _ _ (h3.drop 2) (fun hHeld => ?_)
            clear hK K
            try simp only [Act.put, List.getElem_toArray, List.getElem_cons_zero, List.getElem_cons_succ, List.setIfInBounds_toArray, List.set_cons_zero, List.set_cons_succ]
            refine wpAnyH_take (i := 12) (oi := _) (v := ?_) rfl (by kernel_rfl) (by kernel_rfl) (by kernel_rfl) (fun _ _ _ h => h) (Or.inl ⟨by rfl, ?_⟩) (by assumption) ?_
            rotate_left
            · intro w hSw; go_simp; with_reducible rfl
            simp only [Act.put, List.getElem_toArray, List.getElem_cons_zero, List.getElem_cons_succ, List.setIfInBounds_toArray, List.set_cons_zero, List.set_cons_succ]
            have HE := hid h3
            clear p0 p1 p2 p3 h1 h2 h3 hHeld
            refine wpAnyH_done (by kernel_rfl) ?_ _
            go_wp2_with fail
            go_ret
            exact ⟨B3, b3, _, rfl, HG.out.1, HG.out.2, HE.out.own 1 rfl, HE.out.bl⟩
          · skip
            refine AllReadyH.cons rfl (fun K hK => ?_) AllReadyH.nil
            have a2 := ((hW.empty elFib 64 (WW.heap.size) rfl w.heap.size (by have := hW.bl.size; omega)).blk_ (WW.heap.size + 1) (by simp) 64 #[.int .i64 f.a, .int .i64 f.b, .int .i64 f.len, .int .i64 f.risk]).step (Cls.drew _)
            go_simp
            go_wp2_with fail
            refine hK.out _ _ (a2.drop 2) (fun hHeld => ?_)
            clear hK K
            try simp only [Act.put, List.getElem_toArray, List.getElem_cons_zero, List.getElem_cons_succ, List.setIfInBounds_toArray, List.set_cons_zero, List.set_cons_succ]
            refine wpAnyH_ready (rs := [4]) (by kernel_rfl) (by simp) ?_
            refine AllReadyH.cons rfl (fun K hK => ?_) AllReadyH.nil
            refine step_append_led rfl _ _ 25 rfl a2 1 rfl Tryz.underlying25 hj hy0 hy1 (by rw [hy2]; decide) rfl rfl rfl ((HN.out.grow a2.bl).take hk) (by simp; omega) a2.bl.size ?_
            intro B1 b1 v1 h1
            simp only [List.length_nil, Nat.zero_add, List.nil_append] at h1 ⊢
            rw [HT.out] at h1
            refine hK.out _ _ (h1.drop 2) (fun hHeld => ?_)
            clear hK K
            try simp only [Act.put, List.getElem_toArray, List.getElem_cons_zero, List.getElem_cons_succ, List.setIfInBounds_toArray, List.set_cons_zero, List.set_cons_succ]
            refine wpAnyH_ready (rs := [7]) (by kernel_rfl) (by simp) ?_
            refine AllReadyH.cons rfl (fun K hK => ?_) AllReadyH.nil
            refine step_append_led rfl _ _ 25 rfl h1 1 rfl Tryz.underlying25 hj hy0 hy1 (by rw [hy2]; decide) rfl rfl rfl (sees_fib (h1.get 0 rfl)) (by have := hTl.out; omega) h1.bl.size ?_
            intro B2 b2 v2 h2
            rw [HT2.out, hTl.out] at h2
            rw [hTl.out]
            refine hK.out _ _ (h2.drop 2) (fun hHeld => ?_)
            clear hK K
            try simp only [Act.put, List.getElem_toArray, List.getElem_cons_zero, List.getElem_cons_succ, List.setIfInBounds_toArray, List.set_cons_zero, List.set_cons_succ]
            refine wpAnyH_ready (rs := [11]) (by kernel_rfl) (by simp) ?_
            refine AllReadyH.cons rfl (fun K hK => ?_) AllReadyH.nil
            refine step_append_led rfl _ _ 25 rfl h2 1 rfl Tryz.underlying25 hj hy0 hy1 (by rw [hy2]; decide) rfl rfl rfl (Sees.nil elFib _ 0 _) (by have := hT2l.out; omega) h2.bl.size ?_
            intro B3 b3 v3 h3
            rw [hT2l.out, hkm1.out] at h3
            rw [hT2l.out, hkm1.out]
            refine hK.out _ _ (h3.drop 2) (fun hHeld => ?_)
            clear hK K
            try simp only [Act.put, List.getElem_toArray, List.getElem_cons_zero, List.getElem_cons_succ, List.setIfInBounds_toArray, List.set_cons_zero, List.set_cons_succ]
            refine wpAnyH_take (i := 12) (oi := _) (v := ?_) rfl (by kernel_rfl) (by kernel_rfl) (by kernel_rfl) (fun _ _ _ h => h) (Or.inl ⟨by rfl, ?_⟩) (by assumption) ?_
            rotate_left
            · intro w hSw; go_simp; with_reducible rfl
            simp only [Act.put, List.getElem_toArray, List.getElem_cons_zero, List.getElem_cons_succ, List.setIfInBounds_toArray, List.set_cons_zero, List.set_cons_succ]
            have HE := hid h3
            clear p0 p1 p2 p3 h1 h2 h3 hHeld
            refine wpAnyH_done (by kernel_rfl) ?_ _
            go_wp2_with fail
            go_ret
            exact ⟨B3, b3, _, rfl, HG.out.1, HG.out.2, HE.out.own 1 rfl, HE.out.bl⟩
        · skip
          refine AllReadyH.cons rfl (fun K hK => ?_) AllReadyH.nil
          have a1 := (hW.blk_ WW.heap.size rfl 64 #[.int .i64 f.a, .int .i64 f.b, .int .i64 f.len, .int .i64 f.risk]).step (Cls.drew _)
          go_simp
          go_wp2_with fail
          refine hK.out _ _ (a1.drop 1) (fun hHeld => ?_)
          clear hK K
          try simp only [Act.put, List.getElem_toArray, List.getElem_cons_zero, List.getElem_cons_succ, List.setIfInBounds_toArray, List.set_cons_zero, List.set_cons_succ]
          refine wpAnyH_ready (rs := [0]) (by kernel_rfl) (by simp) ?_
          refine AllReadyH.cons rfl (fun K hK => ?_) AllReadyH.nil
          have a2 := ((hW.blk_ WW.heap.size rfl 64 #[.int .i64 f.a, .int .i64 f.b, .int .i64 f.len, .int .i64 f.risk]).empty elFib 64 (WW.heap.size + 1) (by simp) w.heap.size (by have := hW.bl.size; omega)).step (Cls.drew _)
          go_simp
          go_wp2_with fail
          refine hK.out _ _ (a2.drop 2) (fun hHeld => ?_)
          clear hK K
          try simp only [Act.put, List.getElem_toArray, List.getElem_cons_zero, List.getElem_cons_succ, List.setIfInBounds_toArray, List.set_cons_zero, List.set_cons_succ]
          refine wpAnyH_ready (rs := [4]) (by kernel_rfl) (by simp) ?_
          refine AllReadyH.cons rfl (fun K hK => ?_) AllReadyH.nil
          refine step_append_led rfl _ _ 25 rfl a2 0 rfl Tryz.underlying25 hj hy0 hy1 (by rw [hy2]; decide) rfl rfl rfl ((HN.out.grow a2.bl).take hk) (by simp; omega) a2.bl.size ?_
          intro B1 b1 v1 h1
          simp only [List.length_nil, Nat.zero_add, List.nil_append] at h1 ⊢
          rw [HT.out] at h1
          refine hK.out _ _ (h1.drop 2) (fun hHeld => ?_)
          clear hK K
          try simp only [Act.put, List.getElem_toArray, List.getElem_cons_zero, List.getElem_cons_succ, List.setIfInBounds_toArray, List.set_cons_zero, List.set_cons_succ]
          refine wpAnyH_ready (rs := [7]) (by kernel_rfl) (by simp) ?_
          refine AllReadyH.cons rfl (fun K hK => ?_) AllReadyH.nil
          refine step_append_led rfl _ _ 25 rfl h1 0 rfl Tryz.underlying25 hj hy0 hy1 (by rw [hy2]; decide) rfl rfl rfl (sees_fib (h1.get 1 rfl)) (by have := hTl.out; omega) h1.bl.size ?_
          intro B2 b2 v2 h2
          rw [HT2.out, hTl.out] at h2
          rw [hTl.out]
          refine hK.out _ _ (h2.drop 2) (fun hHeld => ?_)
          clear hK K
          try simp only [Act.put, List.getElem_toArray, List.getElem_cons_zero, List.getElem_cons_succ, List.setIfInBounds_toArray, List.set_cons_zero, List.set_cons_succ]
          refine wpAnyH_ready (rs := [11]) (by kernel_rfl) (by simp) ?_
          refine AllReadyH.cons rfl (fun K hK => ?_) AllReadyH.nil
          refine step_append_led rfl _ _ 25 rfl h2 0 rfl Tryz.underlying25 hj hy0 hy1 (by rw [hy2]; decide) rfl rfl rfl (Sees.nil elFib _ 0 _) (by have := hT2l.out; omega) h2.bl.size ?_
          intro B3 b3 v3 h3
          rw [hT2l.out, hkm1.out] at h3
          rw [hT2l.out, hkm1.out]
          refine hK.out _ _ (h3.drop 2) (fun hHeld => ?_)
          clear hK K
          try simp only [Act.put, List.getElem_toArray, List.getElem_cons_zero, List.getElem_cons_succ, List.setIfInBounds_toArray, List.set_cons_zero, List.set_cons_succ]
          refine wpAnyH_take (i := 12) (oi := _) (v := ?_) rfl (by kernel_rfl) (by kernel_rfl) (by kernel_rfl) (fun _ _ _ h => h) (Or.inl ⟨by rfl, ?_⟩) (by assumption) ?_
          rotate_left
          · intro w hSw; go_simp; with_reducible rfl
          simp only [Act.put, List.getElem_toArray, List.getElem_cons_zero, List.getElem_cons_succ, List.setIfInBounds_toArray, List.set_cons_zero, List.set_cons_succ]
          have HE := hid h3
          clear p0 p1 p2 p3 h1 h2 h3 hHeld
          refine wpAnyH_done (by kernel_rfl) ?_ _
          go_wp2_with fail
          go_ret
          exact ⟨B3, b3, _, rfl, HG.out.1, HG.out.2, HE.out.own 0 rfl, HE.out.bl⟩
end
end Go.Proofs.YtjfafhehpfjofaaGreat
/- How an argument that can be read is opened: strings, slices, networks, routes. Conditions: none. -/
namespace Go.Proofs.YtjfafhehpfjofaaGreat
open Go.ChangeShapes Go.WideShapes Go.ChangeAt Go.RowKit Go.Deep
theorem i64_bd {n : Int} (h : (Lit.int .i64 n).wf = true) : -9223372036854775808 ≤ n ∧ n ≤ 9223372036854775807 := by
  simp [Lit.wf, IntKind.min, IntKind.max, IntKind.signed, IntKind.bits] at h; omega
section
variable {H : Type} {enc : TypeId × Value → H} {P : Program} {W : World} {spare : Nat → Bool} {held : Bool}
/-- A slice whose elements' cells are known. -/
theorem open_sl {α : Type} (E : El α) {t e : TypeId} {fuel : Nat} {cs : List Value} {x : DataW H × List MemPlace} (good : α → Prop) (ht : P.underlying t = some (.slice e)) (hsz : P.cellsOf e = E.sz)
    (hel : ∀ fuel cs y, DataW.trod enc P W 0 spare held fuel e cs = some y → ∃ a, cs = E.cells a ∧ good a)
    (h : DataW.trod enc P W 0 spare held fuel t cs = some x) :
    ∃ A n c xs, cs = [.slice A n c] ∧ n ≤ c ∧ c ≤ maxLen ∧ Sees E W W.heap.size A n xs ∧ ∀ a ∈ xs, good a := by
  rcases open_slice ht h with ⟨h0, _⟩ | ⟨a, len, cap, m, k, D, Pl, hcs, _, hl, hm, hmm, _, hi⟩
  · exact ⟨none, 0, 0, [], h0, Nat.le_refl _, Nat.zero_le _, Sees.nil _ _ _ _, fun _ h => by cases h⟩
  · have hlm : len ≤ m := by rw [hmm]; split <;> omega
    have key : ∀ i : Nat, i < len → ∃ y : α, good y ∧ ∀ j u, (E.cells y)[j]? = some u → W.cell? (a.add (i * E.sz + j)) = some u := by
      intro i hlt
      obtain ⟨cs', hc, htr⟩ := hi i (by omega)
      obtain ⟨y, rfl, hg⟩ := hel _ _ _ htr
      obtain ⟨_, hlen, hat⟩ := World.cells?_some hc
      refine ⟨y, hg, fun j u hu => ?_⟩
      have hj : j < P.cellsOf e := by rw [hsz, ← E.len y]; exact (List.getElem?_eq_some_iff.1 hu).1
      have := hat j hj
      rw [add_add, hsz] at this
      rw [this, hu]
    rcases Nat.eq_zero_or_pos len with h0 | h0
    · subst h0
      exact ⟨some a, 0, cap, [], hcs, hl, hm, Sees.nil _ _ _ _, fun _ h => by cases h⟩
    · have hspot : a.spot = none := by
        obtain ⟨y, _, hy⟩ := key 0 h0
        have hpos := E.pos
        have hlen := E.len y
        have h1 := hy 0 ((E.cells y)[0]'(by omega)) (List.getElem?_eq_getElem (by omega))
        simp only [Nat.zero_mul, Nat.zero_add] at h1
        rw [show a.add 0 = a by simp [Addr.add]] at h1
        unfold World.cell? at h1
        split at h1
        · split at h1
          · cases h1
          · rename_i hs; simpa using hs
        · cases h1
      obtain ⟨y0, _, _⟩ := key 0 h0
      have : Inhabited α := ⟨y0⟩
      obtain ⟨f, hf⟩ := choose_lt key
      refine ⟨some a, len, cap, (List.range len).map f, hcs, hl, hm, ⟨by simp, .inr ⟨a.block, a.off, by cases a; simp_all, ?_, ?_⟩⟩, ?_⟩
      · obtain ⟨_, hy⟩ := hf 0 h0
        have hpos := E.pos
        have hlen := E.len (f 0)
        have h1 := hy 0 ((E.cells (f 0))[0]'(by omega)) (List.getElem?_eq_getElem (by omega))
        have := World.block_lt_of_cell? W _ h1
        simp only [Addr.add] at this
        split at this <;> simpa using this
      · intro k x hx j u hu
        have hk : k < len := by have := (List.getElem?_eq_some_iff.1 hx).1; simpa using this
        have hx' : f k = x := by simpa [List.getElem?_map, List.getElem?_range, hk] using hx
        have := (hf k hk).2 j u (by rw [hx']; exact hu)
        rw [← this]
        unfold Addr.add
        split
        · rename_i h00; rw [Nat.add_assoc, h00, Nat.add_zero]; cases a; simp_all
        · rw [Nat.add_assoc]
      · intro x hx
        obtain ⟨i, hi, rfl⟩ := List.mem_map.1 hx
        exact (hf i (by simpa using hi)).1
/-- A slice that came in. -/
def SlArg {α : Type} (E : El α) (W : World) (A : Option Addr) (n c : Nat) (xs : List α) (good : α → Prop) : Prop := n ≤ c ∧ c ≤ maxLen ∧ Sees E W W.heap.size A n xs ∧ ∀ a ∈ xs, good a
theorem open_sl_val {α : Type} (E : El α) {t e : TypeId} {base : Nat} {v : Value} {d : DataW H} {p : List MemPlace} (good : α → Prop) (ht : P.underlying t = some (.slice e)) (hsz : P.cellsOf e = E.sz)
    (hel : ∀ fuel cs y, DataW.trod enc P W 0 spare held fuel e cs = some y → ∃ a, cs = E.cells a ∧ good a)
    (hv : Value.okWide P W .any base t v) (h : DataW.Trod enc P W 0 spare held t v d p) : ∃ A n c xs, v = .slice A n c ∧ SlArg E W A n c xs good := by
  obtain ⟨a, len, cap, rfl⟩ := okWide_slice ht hv
  obtain ⟨fuel, h⟩ := h
  obtain ⟨A, n, c, xs, e, h1, h2, h3, h4⟩ := open_sl E good ht hsz hel h
  exact ⟨A, n, c, xs, by simpa [Value.cells] using e, h1, h2, h3, h4⟩
theorem el_int {e : TypeId} (he : P.underlying e = some (.int .i64)) (fuel : Nat) (cs : List Value) (y : DataW H × List MemPlace) (h : DataW.trod enc P W 0 spare held fuel e cs = some y) :
    ∃ a, cs = elInt.cells a ∧ (-9223372036854775808 ≤ a ∧ a ≤ 9223372036854775807) := by
  obtain ⟨n, rfl, _, hw⟩ := DataW.trod_int he h
  exact ⟨n, rfl, i64_bd hw⟩
theorem el_str {e : TypeId} (he : P.underlying e = some .string) (fuel : Nat) (cs : List Value) (y : DataW H × List MemPlace) (h : DataW.trod enc P W 0 spare held fuel e cs = some y) :
    ∃ a, cs = elStr.cells a ∧ a.size ≤ maxLen := by
  obtain ⟨n, rfl, _, hw⟩ := DataW.trod_string he h
  exact ⟨n, rfl, hw⟩
end
end Go.Proofs.YtjfafhehpfjofaaGreat
/- A list of bytes that came in. Conditions: none. -/
namespace Go.Proofs.YtjfafhehpfjofaaGreat
open Go.ChangeShapes Go.WideShapes Go.ChangeAt Go.RowKit Go.Deep
/-- A byte in memory. -/
def elU : El Int := ⟨1, fun x => [.int .u8 x], fun _ => rfl, by decide, fun _ u h => by simp at h; subst h; rfl⟩
theorem cellsU : Tryz.prog.cellsOf 5 = elU.sz := by kernel_rfl
theorem u8_bd {n : Int} (h : (Lit.int .u8 n).wf = true) : 0 ≤ n ∧ n ≤ 255 := by
  simp [Lit.wf, IntKind.min, IntKind.max, IntKind.signed, IntKind.bits] at h; omega
section
variable {H : Type} {enc : TypeId × Value → H} {P : Program} {W : World} {spare : Nat → Bool} {held : Bool}
theorem el_u8 {e : TypeId} (he : P.underlying e = some (.int .u8)) (fuel : Nat) (cs : List Value) (y : DataW H × List MemPlace) (h : DataW.trod enc P W 0 spare held fuel e cs = some y) :
    ∃ a, cs = elU.cells a ∧ (0 ≤ a ∧ a ≤ 255) := by
  obtain ⟨n, rfl, _, hw⟩ := DataW.trod_int he h
  exact ⟨n, rfl, u8_bd hw⟩
/-- The bytes that a law draws from. -/
def BytesArg (W : World) (A : Option Addr) (n c : Nat) (xs : List Int) : Prop := SlArg elU W A n c xs (fun a => 0 ≤ a ∧ a ≤ 255)
set_option maxRecDepth 100000 in
theorem open_bytes {base : Nat} {v : Value} {d : DataW H} {p : List MemPlace} (hv : Value.okWide Tryz.prog W .any base 22 v) (h : DataW.Trod enc Tryz.prog W 0 spare held 22 v d p) :
    ∃ A n c xs, v = .slice A n c ∧ BytesArg W A n c xs :=
  open_sl_val elU _ Tryz.underlying22 cellsU (el_u8 Tryz.underlying5) hv h
end
end Go.Proofs.YtjfafhehpfjofaaGreat
/- The reader of choices of the laws, walked: what it draws lies within its bounds. Conditions: as each states. -/
namespace Go.Proofs.YtjfafhehpfjofaaGreat
open Go.RowKit
/-- A reader in the block g, at place K at most. -/
def tCur (A : Option Addr) (n c g K : Nat) : Thing :=
  ⟨fun b => b = g, fun w => ∃ (at_ : Nat) (seed : Int), Blk w g 43 #[.slice A n c, .int .i64 at_, .int .u64 seed] ∧ at_ ≤ K ∧ 0 ≤ seed ∧ seed < 18446744073709551616,
    fun _ _ h _ hb => by obtain ⟨a, s, h1, h2⟩ := h; exact ⟨a, s, (hb g rfl).trans h1, h2⟩, fun _ h b e => by subst e; obtain ⟨a, s, h1, h2⟩ := h; exact h1.lt⟩
section
variable {w0 w : World} {L : List Thing} {A : Option Addr} {n c g K : Nat} {bs : List Int}
theorem tCur_set {w1 w2 : World} (h : Led w0 w1 L) (i : Nat) (hi : L[i]? = some (tCur A n c g K)) {a : Nat} {s : Int} {cur : Array Value} (_hg : Blk w1 g 43 cur)
    (h2 : Blk w2 g 43 #[.slice A n c, .int .i64 a, .int .u64 s]) (ht : Touch (fun b => b = g) w1 w2) (ha : a ≤ K + 1) (h0 : 0 ≤ s) (hs : s < 18446744073709551616) : Led w0 w2 (L.set i (tCur A n c g (K + 1))) :=
  h.touch i hi rfl ht ⟨a, s, h2, ha, h0, hs⟩
theorem u64_bd (x : Int) : 0 ≤ IntKind.u64.wrap x ∧ IntKind.u64.wrap x < 18446744073709551616 := by
  rw [IntKind.wrap_u64]; omega
theorem bits_255 (a : Int) : 0 ≤ Go.bits .and .u64 a 255 ∧ Go.bits .and .u64 a 255 ≤ 255 := by
  have h : Go.bits .and .u64 a 255 = IntKind.u64.wrap ((BitVec.ofInt 64 a &&& BitVec.ofInt 64 255).toNat : Int) := rfl
  rw [h, BitVec.toNat_and]
  have h2 : (BitVec.ofInt 64 a).toNat &&& (BitVec.ofInt 64 255).toNat ≤ 255 := Nat.and_le_right
  generalize (BitVec.ofInt 64 a).toNat &&& (BitVec.ofInt 64 255).toNat = y at *
  rw [IntKind.wrap_u64]
  omega
set_option maxHeartbeats 2000000 in
set_option maxRecDepth 100000 in
theorem next_led (h : Led w0 w L) (i : Nat) (hi : L[i]? = some (tCur A n c g K)) (hb : Sees elU w0 w0.heap.size A n bs) (hbs : ∀ x ∈ bs, 0 ≤ x ∧ x ≤ 255) (hn : n ≤ 1048576) (hK : K ≤ 1099511627776) :
    Calls Tryz.prog 35 #[.pointer (some ⟨g, 0, none⟩)] w fun e w' => ∃ v : Int, e = .returned (.int .i64 v) ∧ 0 ≤ v ∧ v ≤ 255 ∧ Led w0 w' (L.set i (tCur A n c g (K + 1))) := by
  obtain ⟨a, s, hg, haK, hs0, hs1⟩ := h.get i hi
  have hS := hid (hb.grow h.bl)
  have C0 : ∀ w', Cls w w' → w'.cell? ⟨g, 0, none⟩ = some (.slice A n c) := fun _ h => h.cell (by rw [hg.cell]; rfl)
  have C1 : ∀ w', Cls w w' → w'.cell? ⟨g, 1, none⟩ = some (.int .i64 a) := fun _ h => h.cell (by rw [hg.cell]; rfl)
  have HGB := hid hg
  have HH := hid h
  have HBS := hid hbs
  have hlen := hid hb.len
  by_cases hlt : a < n
  · obtain ⟨b, o, rfl, _, hc⟩ := hS.out.at_ hlt
    obtain ⟨x, hx⟩ : ∃ x, bs[a]? = some x := ⟨bs[a]'(by rw [hlen.out]; exact hlt), List.getElem?_eq_getElem _⟩
    have hcx := hc a x hx 0 _ rfl
    simp only [elU, Nat.mul_one, Nat.add_zero] at hcx
    have C2 : ∀ w', Cls w w' → w'.cell? ⟨b, o + a, none⟩ = some (.int .u8 x) := fun _ h => h.cell hcx
    have hxb := HBS.out x (List.mem_of_getElem? hx)
    have iwx : IntKind.i64.wrap x = x := IntWalk.i64_in _ (by omega)
    have i1 : (a : Int) < (n : Int) := by omega
    clear hcx hc hx hg h hb hbs
    go_enter Tryz.func35, Tryz.ntmps35
    go_wp2_with fail
    refine region_cls (by kernel_rfl) (by kernel_rfl) ?_
    repeat (first
      | ((with_reducible refine quiet_pos ?_ (fun K hK => ?_))
         · rfl
         apply Exists.intro
         refine ⟨fun w' hw' => ?_, ?_⟩
         · go_simp
           with_reducible rfl
         simp only [Act.put, List.setIfInBounds_toArray, List.set_cons_zero, List.set_cons_succ]
         refine hK _ ?_; clear hK K)
      | ((with_reducible refine quiet_neg ?_ (fun K hK => ?_))
         · rfl
         simp only [Act.put, List.setIfInBounds_toArray, List.set_cons_zero, List.set_cons_succ]
         refine hK _ ?_; clear hK K))
    with_reducible refine wpQuiet_nil ?_
    intro wz hwz'
    revert wz
    intro wa hwa
    have D0 : ∀ w', Cls wa w' → w'.cell? ⟨g, 0, none⟩ = some (.slice (some ⟨b, o, none⟩) n c) := fun _ h => C0 _ (bl_then hwa h)
    have D1 : ∀ w', Cls wa w' → w'.cell? ⟨g, 1, none⟩ = some (.int .i64 a) := fun _ h => C1 _ (bl_then hwa h)
    have D2 : ∀ w', Cls wa w' → w'.cell? ⟨b, o + a, none⟩ = some (.int .u8 x) := fun _ h => C2 _ (bl_then hwa h)
    clear C0 C1 C2
    go_wp2_with fail
    refine region_cls (by kernel_rfl) (by kernel_rfl) ?_
    repeat (first
      | ((with_reducible refine quiet_pos ?_ (fun K hK => ?_))
         · rfl
         apply Exists.intro
         refine ⟨fun w' hw' => ?_, ?_⟩
         · go_simp
           with_reducible rfl
         simp only [Act.put, List.setIfInBounds_toArray, List.set_cons_zero, List.set_cons_succ]
         refine hK _ ?_; clear hK K)
      | ((with_reducible refine quiet_neg ?_ (fun K hK => ?_))
         · rfl
         simp only [Act.put, List.setIfInBounds_toArray, List.set_cons_zero, List.set_cons_succ]
         refine hK _ ?_; clear hK K))
    with_reducible refine wpQuiet_nil ?_
    intro wz hwz'
    revert wz
    intro wb hwb
    have hwc := bl_then hwa hwb
    clear D0 D1 D2 hwa hwb
    have hgb := HGB.out.below hwc HGB.out.lt
    have HGC := hid hgb
    have HHC := hid (HH.out.step hwc)
    have p0 := hgb.cell 0
    have p1 := hgb.cell 1
    have p2 := hgb.cell 2
    have z1 := hgb.frozen 1
    have z2 := hgb.frozen 2
    simp only [List.getElem?_toArray, List.getElem?_cons_zero, List.getElem?_cons_succ] at p0 p1 p2
    clear hgb hwc
    go_wp2_with fail
    generalize hs2 : IntKind.u64.wrap (IntKind.u64.wrap (IntKind.u64.wrap (s * 6364136223846793005) + x) + 897897) = s2
    have hsb : 0 ≤ s2 ∧ s2 < 18446744073709551616 := by rw [← hs2]; exact u64_bd _
    clear hs2
    have hg2 := (HGC.out.set 1 (.int .i64 ((a : Int) + 1))).set 2 (.int .u64 s2)
    have ht2 : Touch (fun b => b = g) wb ((wb.setCell ⟨g, 1, none⟩ (.int .i64 ((a : Int) + 1))).setCell ⟨g, 2, none⟩ (.int .u64 s2)) := (Touch.set (S := fun b => b = g) wb (p := ⟨g, 1, none⟩) rfl _).trans (Touch.set (S := fun b => b = g) _ (p := ⟨g, 2, none⟩) rfl _)
    have hg3 : Blk ((wb.setCell ⟨g, 1, none⟩ (.int .i64 ((a : Int) + 1))).setCell ⟨g, 2, none⟩ (.int .u64 s2)) g 43 #[.slice (some ⟨b, o, none⟩) n c, .int .i64 ((a : Int) + 1), .int .u64 s2] := hg2
    clear hg2
    generalize ((wb.setCell ⟨g, 1, none⟩ (.int .i64 ((a : Int) + 1))).setCell ⟨g, 2, none⟩ (.int .u64 s2)) = W2 at *
    have HE := hid (tCur_set (s := s2) (a := a + 1) HHC.out i hi HGC.out hg3 ht2 (by omega) hsb.1 hsb.2)
    have E0 : ∀ w', Cls W2 w' → w'.cell? ⟨g, 0, none⟩ = some (.slice (some ⟨b, o, none⟩) n c) := fun _ h => h.cell (by rw [hg3.cell]; rfl)
    have E1 : ∀ w', Cls W2 w' → w'.cell? ⟨g, 1, none⟩ = some (.int .i64 ((a : Int) + 1)) := fun _ h => h.cell (by rw [hg3.cell]; rfl)
    clear hg3 ht2 p0 p1 p2 z1 z2
    have i2 : (a : Int) + 1 ≤ (n : Int) := by omega
    refine region_cls (by kernel_rfl) (by kernel_rfl) ?_
    repeat (first
      | ((with_reducible refine quiet_pos ?_ (fun K hK => ?_))
         · rfl
         apply Exists.intro
         refine ⟨fun w' hw' => ?_, ?_⟩
         · go_simp
           with_reducible rfl
         simp only [Act.put, List.setIfInBounds_toArray, List.set_cons_zero, List.set_cons_succ]
         refine hK _ ?_; clear hK K)
      | ((with_reducible refine quiet_neg ?_ (fun K hK => ?_))
         · rfl
         simp only [Act.put, List.setIfInBounds_toArray, List.set_cons_zero, List.set_cons_succ]
         refine hK _ ?_; clear hK K))
    with_reducible refine wpQuiet_nil ?_
    intro wz hwz'
    go_wp2_with fail
    go_ret
    exact ⟨x, rfl, hxb.1, hxb.2, HE.out.step hwz'⟩
  · have i1 : ¬ (a : Int) < (n : Int) := by omega
    clear hg h hb hbs
    go_enter Tryz.func35, Tryz.ntmps35
    go_wp2_with fail
    refine region_cls (by kernel_rfl) (by kernel_rfl) ?_
    repeat (first
      | ((with_reducible refine quiet_pos ?_ (fun K hK => ?_))
         · rfl
         apply Exists.intro
         refine ⟨fun w' hw' => ?_, ?_⟩
         · go_simp
           with_reducible rfl
         simp only [Act.put, List.setIfInBounds_toArray, List.set_cons_zero, List.set_cons_succ]
         refine hK _ ?_; clear hK K)
      | ((with_reducible refine quiet_neg ?_ (fun K hK => ?_))
         · rfl
         simp only [Act.put, List.setIfInBounds_toArray, List.set_cons_zero, List.set_cons_succ]
         refine hK _ ?_; clear hK K))
    with_reducible refine wpQuiet_nil ?_
    intro wz hwz'
    revert wz
    intro wb hwc
    clear C0 C1
    have hgb := HGB.out.below hwc HGB.out.lt
    have HGC := hid hgb
    have HHC := hid (HH.out.step hwc)
    have p0 := hgb.cell 0
    have p1 := hgb.cell 1
    have p2 := hgb.cell 2
    have z1 := hgb.frozen 1
    have z2 := hgb.frozen 2
    simp only [List.getElem?_toArray, List.getElem?_cons_zero, List.getElem?_cons_succ] at p0 p1 p2
    clear hgb hwc
    go_wp2_with fail
    generalize hs2 : IntKind.u64.wrap (IntKind.u64.wrap (IntKind.u64.wrap (s * 6364136223846793005)) + 897897) = s2
    have hsb : 0 ≤ s2 ∧ s2 < 18446744073709551616 := by rw [← hs2]; exact u64_bd _
    clear hs2
    have hg2 := (HGC.out.set 1 (.int .i64 ((a : Int) + 1))).set 2 (.int .u64 s2)
    have ht2 : Touch (fun b => b = g) wb ((wb.setCell ⟨g, 1, none⟩ (.int .i64 ((a : Int) + 1))).setCell ⟨g, 2, none⟩ (.int .u64 s2)) := (Touch.set (S := fun b => b = g) wb (p := ⟨g, 1, none⟩) rfl _).trans (Touch.set (S := fun b => b = g) _ (p := ⟨g, 2, none⟩) rfl _)
    have hg3 : Blk ((wb.setCell ⟨g, 1, none⟩ (.int .i64 ((a : Int) + 1))).setCell ⟨g, 2, none⟩ (.int .u64 s2)) g 43 #[.slice A n c, .int .i64 ((a : Int) + 1), .int .u64 s2] := hg2
    clear hg2
    generalize ((wb.setCell ⟨g, 1, none⟩ (.int .i64 ((a : Int) + 1))).setCell ⟨g, 2, none⟩ (.int .u64 s2)) = W2 at *
    have HE := hid (tCur_set (s := s2) (a := a + 1) HHC.out i hi HGC.out hg3 ht2 (by omega) hsb.1 hsb.2)
    have E0 : ∀ w', Cls W2 w' → w'.cell? ⟨g, 0, none⟩ = some (.slice A n c) := fun _ h => h.cell (by rw [hg3.cell]; rfl)
    have E1 : ∀ w', Cls W2 w' → w'.cell? ⟨g, 1, none⟩ = some (.int .i64 ((a : Int) + 1)) := fun _ h => h.cell (by rw [hg3.cell]; rfl)
    have E2 : ∀ w', Cls W2 w' → w'.cell? ⟨g, 2, none⟩ = some (.int .u64 s2) := fun _ h => h.cell (by rw [hg3.cell]; rfl)
    clear hg3 ht2 p0 p1 p2 z1 z2
    have i2 : ¬ (a : Int) + 1 ≤ (n : Int) := by omega
    refine region_cls (by kernel_rfl) (by kernel_rfl) ?_
    repeat (first
      | ((with_reducible refine quiet_pos ?_ (fun K hK => ?_))
         · rfl
         apply Exists.intro
         refine ⟨fun w' hw' => ?_, ?_⟩
         · go_simp
           with_reducible rfl
         simp only [Act.put, List.setIfInBounds_toArray, List.set_cons_zero, List.set_cons_succ]
         refine hK _ ?_; clear hK K)
      | ((with_reducible refine quiet_neg ?_ (fun K hK => ?_))
         · rfl
         simp only [Act.put, List.setIfInBounds_toArray, List.set_cons_zero, List.set_cons_succ]
         refine hK _ ?_; clear hK K))
    with_reducible refine wpQuiet_nil ?_
    intro wz hwz'
    have r2 := E2 wz hwz'
    clear E0 E1 E2
    have hb5 := bits_255 (s2 / 1099511627776)
    have iw := IntWalk.wrap64_in (Go.bits .and .u64 (s2 / 1099511627776) 255) (by omega)
    have HB5 := hid hb5
    have IW := hid iw
    clear hb5 iw
    go_wp2_with fail
    go_ret
    exact ⟨Go.bits .and .u64 (s2 / 1099511627776) 255, by rw [IW.out]; rfl, HB5.out.1, HB5.out.2, HE.out.step hwz'⟩
set_option maxHeartbeats 2000000 in
set_option maxRecDepth 100000 in
theorem pick_led (h : Led w0 w L) (i : Nat) (hi : L[i]? = some (tCur A n c g K)) (hb : Sees elU w0 w0.heap.size A n bs) (hbs : ∀ x ∈ bs, 0 ≤ x ∧ x ≤ 255) (hn : n ≤ 1048576) (hK : K + 1 ≤ 1099511627776) (m : Int) (hm : 0 ≤ m) (hm2 : m ≤ 1048576) :
    Calls Tryz.prog 14 #[.pointer (some ⟨g, 0, none⟩), .int .i64 m] w fun e w' => ∃ v : Int, e = .returned (.int .i64 v) ∧ 0 ≤ v ∧ (1 ≤ m → v < m) ∧ Led w0 w' (L.set i (tCur A n c g (K + 2))) := by
  have hset : ∀ t : Thing, (L.set i t)[i]? = some t := fun t => by rw [List.getElem?_set_self (List.getElem?_eq_some_iff.1 hi).1]
  have hweak : ∀ (J : Nat) W, Led w0 W (L.set i (tCur A n c g J)) → J ≤ K + 2 → Led w0 W (L.set i (tCur A n c g (K + 2))) := fun J W hl hJ => by
    have h2 := hl.touch i (hset _) (t' := tCur A n c g (K + 2)) rfl (Touch.refl _ _) (by obtain ⟨a, s, h1, h2, h3⟩ := hl.get i (hset _); exact ⟨a, s, h1, by omega, h3⟩)
    rwa [List.set_set] at h2
  by_cases h1 : m ≤ 1
  · have H0 : Hid (Led w0 w (L.set i (tCur A n c g (K + 2)))) := by
      refine hweak K w ?_ (by omega)
      have : L.set i (tCur A n c g K) = L := by
        obtain ⟨hl2, he⟩ := List.getElem?_eq_some_iff.1 hi
        rw [← he]; exact List.set_getElem_self hl2
      rw [this]; exact h
    clear hset hweak h hb hbs
    go_enter Tryz.func14, Tryz.ntmps14
    go_wp2_with fail
    go_ret
    exact ⟨0, rfl, by decide, fun _ => by omega, H0.out⟩
  · have HW := hid hweak
    have HN := hid (fun (J : Nat) W (hl : Led w0 W (L.set i (tCur A n c g J))) (hJ : J ≤ 1099511627776) => next_led (i := i) hl (hset _) hb hbs hn hJ)
    have HN0 := hid (next_led h i hi hb hbs hn (by omega))
    clear hset hweak h hb hbs
    by_cases h2 : m > 200
    · go_enter Tryz.func14, Tryz.ntmps14
      go_wp2_with fail
      refine HN0.out.mono ?_
      rintro e w1 ⟨x, rfl, hx0, hx1, hL1⟩
      have HL1 := hid hL1
      clear hL1
      go_wp2_with fail
      refine (HN.out _ _ HL1.out (by omega)).mono ?_
      rintro e w2 ⟨y, rfl, hy0, hy1, hL2⟩
      rw [List.set_set] at hL2
      have HL2 := hid hL2
      have hmod : 0 ≤ (x * 256 + y) % m ∧ (x * 256 + y) % m < m := ⟨Int.emod_nonneg _ (by omega), Int.emod_lt_of_pos _ (by omega)⟩
      have HM := hid hmod
      clear hL2 hmod HL1
      go_wp2_with fail
      go_ret
      exact ⟨_, rfl, HM.out.1, fun _ => HM.out.2, HL2.out⟩
    · go_enter Tryz.func14, Tryz.ntmps14
      go_wp2_with fail
      refine HN0.out.mono ?_
      rintro e w1 ⟨x, rfl, hx0, hx1, hL1⟩
      have HL1 := hid (HW.out _ _ hL1 (by omega))
      have hmod : 0 ≤ x % m ∧ x % m < m := ⟨Int.emod_nonneg _ (by omega), Int.emod_lt_of_pos _ (by omega)⟩
      have HM := hid hmod
      clear hL1 hmod
      go_wp2_with fail
      go_ret
      exact ⟨_, rfl, HM.out.1, fun _ => HM.out.2, HL1.out⟩
set_option maxHeartbeats 1000000 in
set_option maxRecDepth 100000 in
theorem one_led (h : Led w0 w L) (i : Nat) (hi : L[i]? = some (tCur A n c g K)) (hb : Sees elU w0 w0.heap.size A n bs) (hbs : ∀ x ∈ bs, 0 ≤ x ∧ x ≤ 255) (hn : n ≤ 1048576) (hK : K + 1 ≤ 1099511627776) (m : Int) (hm : 0 ≤ m) (hm2 : m ≤ 1048576) :
    Calls Tryz.prog 13 #[.pointer (some ⟨g, 0, none⟩), .int .i64 m] w fun e w' => ∃ v : Bool, e = .returned (.bool v) ∧ Led w0 w' (L.set i (tCur A n c g (K + 2))) := by
  have HP := hid (pick_led h i hi hb hbs hn hK m hm hm2)
  clear h hb hbs
  go_enter Tryz.func13, Tryz.ntmps13
  go_wp2_with fail
  refine HP.out.mono ?_
  rintro e w1 ⟨x, rfl, hx0, hx1, hL1⟩
  have HL1 := hid hL1
  clear hL1 hx1
  go_wp2_with fail
  go_ret
  exact ⟨_, rfl, HL1.out⟩
set_option maxHeartbeats 1000000 in
set_option maxRecDepth 100000 in
theorem of_led {m cc : Nat} {X : Option Addr} {xs : List ByteArray} (h : Led w0 w L) (i : Nat) (hi : L[i]? = some (tCur A n c g K)) (hb : Sees elU w0 w0.heap.size A n bs) (hbs : ∀ x ∈ bs, 0 ≤ x ∧ x ≤ 255) (hn : n ≤ 1048576) (hK : K + 1 ≤ 1099511627776)
    (hX : ∀ w', Led w0 w' (L.set i (tCur A n c g (K + 2))) → Sees elStr w' w'.heap.size X m xs) (hm : 1 ≤ m) (hm2 : m ≤ 1048576) :
    Calls Tryz.prog 33 #[.pointer (some ⟨g, 0, none⟩), .slice X m cc] w fun e w' => ∃ x, x ∈ xs ∧ e = .returned (.string x) ∧ Led w0 w' (L.set i (tCur A n c g (K + 2))) := by
  have HP := hid (pick_led h i hi hb hbs hn hK (m : Int) (by omega) (by omega))
  have HX := hid hX
  clear h hb hbs hX
  go_enter Tryz.func33, Tryz.ntmps33
  go_wp2_with fail
  refine HP.out.mono ?_
  rintro e w1 ⟨v, rfl, hx0, hx1, hL1⟩
  have hx2 := hx1 (by omega)
  have hs := HX.out _ hL1
  have HL1 := hid hL1
  obtain ⟨k, rfl⟩ : ∃ k : Nat, v = (k : Int) := ⟨v.toNat, by omega⟩
  obtain ⟨x, hxk⟩ : ∃ x, xs[k]? = some x := ⟨xs[k]'(by rw [hs.len]; omega), List.getElem?_eq_getElem _⟩
  obtain ⟨b, o, rfl, _, hc⟩ := hs.at_ (k := k) (by omega)
  have hcx := hc k x hxk 0 _ rfl
  simp only [elStr, Nat.mul_one, Nat.add_zero] at hcx
  have HX2 := hid (List.mem_of_getElem? hxk)
  clear hL1 hx1 hc hs hxk HX
  go_wp2_with fail
  go_ret
  exact ⟨x, HX2.out, rfl, HL1.out⟩
end
end Go.Proofs.YtjfafhehpfjofaaGreat
/- The reader of choices: made anew; one of some texts. Conditions: as each states. -/
namespace Go.Proofs.YtjfafhehpfjofaaGreat
open Go.RowKit
theorem sees_strs {w : World} {g : Nat} {e : TypeId} (xs : List ByteArray) (h : Blk w g e (xs.map Value.string).toArray) : Sees elStr w w.heap.size (some ⟨g, 0, none⟩) xs.length xs := by
  refine ⟨rfl, .inr ⟨g, 0, rfl, h.lt, fun k x hx j u hu => ?_⟩⟩
  have hu' : [Value.string x][j]? = some u := hu
  match j, hu' with
  | 0, hu' =>
    simp at hu'; subst hu'
    have e : 0 + k * elStr.sz + 0 = k := by show 0 + k * 1 + 0 = k; omega
    rw [e, h.cell, List.getElem?_toArray, List.getElem?_map, hx]
    rfl
  | j + 1, hu' => simp at hu'
section
variable {w0 w : World} {L : List Thing} {A : Option Addr} {n c g K : Nat} {bs : List Int}
theorem Led.cur (h : Led w0 w L) (g : Nat) (hg : g = w.heap.size) (A : Option Addr) (n c : Nat) : Led w0 (w.alloc (.cells #[.slice A n c, .int .i64 0, .int .u64 0] 43)) (tCur A n c g 0 :: L) := by
  subst hg
  exact h.put (bl_alloc (Below.refl _ _) _) _ (fun b e => by rw [e]; exact Nat.le_refl _) ⟨0, 0, Blk.new _ _ _, Nat.le_refl _, by decide, by decide⟩
/-- One of some texts, of a block of their own. -/
theorem of_blk_led (xs : List ByteArray) (h : Led w0 w L) (i : Nat) (hi : L[i]? = some (tCur A n c g K)) (hb : Sees elU w0 w0.heap.size A n bs) (hbs : ∀ x ∈ bs, 0 ≤ x ∧ x ≤ 255) (hn : n ≤ 1048576) (hK : K + 1 ≤ 1099511627776) (hm : 1 ≤ xs.length) (hm2 : xs.length ≤ 1048576) (cc b : Nat) (hb2 : b = w.heap.size) (e : TypeId) :
    Calls Tryz.prog 33 #[.pointer (some ⟨g, 0, none⟩), .slice (some ⟨b, 0, none⟩) xs.length cc] (w.alloc (.cells (xs.map Value.string).toArray e)) fun e w' => ∃ x, x ∈ xs ∧ e = .returned (.string x) ∧ Led w0 w' (L.set i (tCur A n c g (K + 2))) := by
  have h1 := h.blk_ b hb2 e (xs.map Value.string).toArray
  refine (of_led (xs := xs) (cc := cc) h1 (i + 1) (by simpa using hi) hb hbs hn hK (fun w' hl => sees_strs xs (hl.get 0 rfl)) hm hm2).mono ?_
  rintro e w' ⟨x, hx, he, hl⟩
  exact ⟨x, hx, he, hl.drop 1⟩
end
end Go.Proofs.YtjfafhehpfjofaaGreat
/- One of some numbers, drawn. Conditions: as each states. -/
namespace Go.Proofs.YtjfafhehpfjofaaGreat
open Go.RowKit
theorem sees_ints {w : World} {g : Nat} {e : TypeId} (xs : List Int) (h : Blk w g e (xs.map fun x => Value.int .i64 x).toArray) : Sees elInt w w.heap.size (some ⟨g, 0, none⟩) xs.length xs := by
  refine ⟨rfl, .inr ⟨g, 0, rfl, h.lt, fun k x hx j u hu => ?_⟩⟩
  have hu' : [Value.int .i64 x][j]? = some u := hu
  match j, hu' with
  | 0, hu' =>
    simp at hu'; subst hu'
    have e : 0 + k * elInt.sz + 0 = k := by show 0 + k * 1 + 0 = k; omega
    rw [e, h.cell, List.getElem?_toArray, List.getElem?_map, hx]
    rfl
  | j + 1, hu' => simp at hu'
section
variable {w0 w : World} {L : List Thing} {A : Option Addr} {n c g K : Nat} {bs : List Int}
set_option maxHeartbeats 1000000 in
set_option maxRecDepth 100000 in
theorem among_led {m cc : Nat} {X : Option Addr} {xs : List Int} (h : Led w0 w L) (i : Nat) (hi : L[i]? = some (tCur A n c g K)) (hb : Sees elU w0 w0.heap.size A n bs) (hbs : ∀ x ∈ bs, 0 ≤ x ∧ x ≤ 255) (hn : n ≤ 1048576) (hK : K + 1 ≤ 1099511627776)
    (hX : ∀ w', Led w0 w' (L.set i (tCur A n c g (K + 2))) → Sees elInt w' w'.heap.size X m xs) (hm : 1 ≤ m) (hm2 : m ≤ 1048576) :
    Calls Tryz.prog 34 #[.pointer (some ⟨g, 0, none⟩), .slice X m cc] w fun e w' => ∃ x, x ∈ xs ∧ e = .returned (.int .i64 x) ∧ Led w0 w' (L.set i (tCur A n c g (K + 2))) := by
  have HP := hid (pick_led h i hi hb hbs hn hK (m : Int) (by omega) (by omega))
  have HX := hid hX
  clear h hb hbs hX
  go_enter Tryz.func34, Tryz.ntmps34
  go_wp2_with fail
  refine HP.out.mono ?_
  rintro e w1 ⟨v, rfl, hx0, hx1, hL1⟩
  have hx2 := hx1 (by omega)
  have hs := HX.out _ hL1
  have HL1 := hid hL1
  obtain ⟨k, rfl⟩ : ∃ k : Nat, v = (k : Int) := ⟨v.toNat, by omega⟩
  obtain ⟨x, hxk⟩ : ∃ x, xs[k]? = some x := ⟨xs[k]'(by rw [hs.len]; omega), List.getElem?_eq_getElem _⟩
  obtain ⟨b, o, rfl, _, hc⟩ := hs.at_ (k := k) (by omega)
  have hcx := hc k x hxk 0 _ rfl
  simp only [elInt, Nat.mul_one, Nat.add_zero] at hcx
  have HX2 := hid (List.mem_of_getElem? hxk)
  clear hL1 hx1 hc hs hxk HX
  go_wp2_with fail
  go_ret
  exact ⟨x, HX2.out, rfl, HL1.out⟩
/-- One of some numbers, of a block of their own. -/
theorem among_blk_led (xs : List Int) (h : Led w0 w L) (i : Nat) (hi : L[i]? = some (tCur A n c g K)) (hb : Sees elU w0 w0.heap.size A n bs) (hbs : ∀ x ∈ bs, 0 ≤ x ∧ x ≤ 255) (hn : n ≤ 1048576) (hK : K + 1 ≤ 1099511627776) (hm : 1 ≤ xs.length) (hm2 : xs.length ≤ 1048576) (cc b : Nat) (hb2 : b = w.heap.size) (e : TypeId) :
    Calls Tryz.prog 34 #[.pointer (some ⟨g, 0, none⟩), .slice (some ⟨b, 0, none⟩) xs.length cc] (w.alloc (.cells (xs.map fun x => Value.int .i64 x).toArray e)) fun e w' => ∃ x, x ∈ xs ∧ e = .returned (.int .i64 x) ∧ Led w0 w' (L.set i (tCur A n c g (K + 2))) := by
  have h1 := h.blk_ b hb2 e (xs.map fun x => Value.int .i64 x).toArray
  refine (among_led (xs := xs) (cc := cc) h1 (i + 1) (by simpa using hi) hb hbs hn hK (fun w' hl => sees_ints xs (hl.get 0 rfl)) hm hm2).mono ?_
  rintro e w' ⟨x, hx, he, hl⟩
  exact ⟨x, hx, he, hl.drop 1⟩
end
end Go.Proofs.YtjfafhehpfjofaaGreat
/- A drawn region whose last operation may break the condition on the worlds: the store into a cell that the region loads. Conditions: as each states. -/
namespace Go.Proofs.YtjfafhehpfjofaaGreat
open Go.RowKit
section
variable {P : Program} {ops : Array Oper} {Q : Exit → Act → World → Prop} {md : Region.Mode} {S : World → Prop} {x : Nat}
/-- As 'wpAnyH', but behind operation x nothing is asked. -/
def wpAnyX (P : Program) (md : Region.Mode) (ops : Array Oper) (Q : Exit → Act → World → Prop) (S : World → Prop) (x : Nat) : Nat → Array Bool → Act → World → Prop
  | 0, listed, a, w => Region.ready md ops listed = [] ∧ Q .normal a w
  | fuel + 1, listed, a, w =>
    (Region.ready md ops listed = [] → Q .normal a w) ∧
    ∀ i ∈ Region.ready md ops listed, wpOp P ops Q i (fun a' w' => (i ≠ x → S w') ∧ wpAnyX P md ops Q S x fuel (listed.setIfInBounds i true) a' w') a w
theorem wpAny_of_X : ∀ (fuel : Nat) (listed : Array Bool) (a : Act) (w : World), wpAnyX P md ops Q S x fuel listed a w → wpAny P md ops Q fuel listed a w
  | 0, _, _, _, h => h
  | fuel + 1, _, _, _, h => ⟨h.1, fun i hi => wpOp_mono (fun a' w' h' => wpAny_of_X fuel _ a' w' h'.2) (h.2 i hi)⟩
/-- Operation x waits for operation i. -/
def waitsB (md : Region.Mode) (ops : Array Oper) (x i : Nat) : Bool := match ops[x]? with
  | some o => o.after.any (fun e => Region.binds md e && e.on == i)
  | none => true
theorem waits_not {listed : Array Bool} {i : Nat} (h : waitsB md ops x i = true) (hi : listed.getD i true = false) : x ∉ Region.ready md ops listed := by
  intro hx
  obtain ⟨_, o, ho, hall⟩ := mem_ready.1 hx
  unfold waitsB at h
  rw [ho] at h
  simp only [Array.any_eq_true'] at h
  obtain ⟨e, he, h2⟩ := h
  rw [Bool.and_eq_true, beq_iff_eq] at h2
  have h1 := hall e he h2.1
  rw [h2.2] at h1
  rcases Nat.lt_or_ge i listed.size with h' | h'
  · simp [h'] at hi h1; rw [hi] at h1; cases h1
  · simp [Array.getElem?_eq_none h'] at h1
theorem wpAnyX_first {i : Nat} {oi : Oper} {v : Value} (hi : ops[i]? = some oi) (hsel : ∀ (j : Nat) (o : Oper) cs b, ops[j]? = some o → o.op ≠ .select cs b)
    (hQ : ∀ c a w, Q (.panic c) (a.put oi.dst v) w → Q (.panic c) a w) (hx : waitsB md ops x i = true) :
    ∀ (fuel : Nat) (listed : Array Bool) (a : Act) (w : World),
      (∀ j oj, ops[j]? = some oj → j ≠ i → listed.getD j true = false → (∀ e ∈ oj.after, Region.binds md e = true → e.on ≠ i) → oi.apart ops oj = true) →
      i ∈ Region.ready md ops listed → YieldsIf P ops S oi v a → S w →
      wpAnyX P md ops Q S x fuel (listed.setIfInBounds i true) (a.put oi.dst v) w → wpAnyX P md ops Q S x (fuel + 1) listed a w := by
  intro fuel
  induction fuel with
  | zero =>
    intro listed a w _ hr hy hS H
    refine ⟨fun h => (by rw [h] at hr; cases hr), fun j hj => ?_⟩
    by_cases hji : j = i
    · subst hji; exact hy.wpOp hi hS ⟨fun _ => hS, H⟩
    · have := ready_mono hj hji
      rw [H.1] at this
      cases this
  | succ fuel ih =>
    intro listed a w hfree hr hy hS H
    refine ⟨fun h => (by rw [h] at hr; cases hr), fun j hj => ?_⟩
    by_cases hji : j = i
    · subst hji; exact hy.wpOp hi hS ⟨fun _ => hS, H⟩
    · have hjx : j ≠ x := fun e => waits_not hx (mem_ready.1 hr).1 (e ▸ hj)
      have h1 := H.2 j (ready_mono hj hji)
      obtain ⟨hjun, oj, hoj, hall⟩ := mem_ready.1 hj
      have hnot : ∀ e ∈ oj.after, Region.binds md e = true → e.on ≠ i := fun e he hb heq => by
        have h1 := hall e he hb
        have h0 := (mem_ready.1 hr).1
        rw [heq] at h1
        rcases Nat.lt_or_ge i listed.size with h' | h'
        · simp [h'] at h0 h1; rw [h0] at h1; cases h1
        · simp [Array.getElem?_eq_none h'] at h1
      have h2 := wpOp_putIf hoj (hfree j oj hoj hji hjun hnot) (fun cs b => hsel i oi cs b hi) (fun cs b => hsel j oj cs b hoj) hQ hy h1
      have hfree' : ∀ k ok, ops[k]? = some ok → k ≠ i → (listed.setIfInBounds j true).getD k true = false →
          (∀ e ∈ ok.after, Region.binds md e = true → e.on ≠ i) → oi.apart ops ok = true := fun k ok hk hki hun hno => by
        refine hfree k ok hk hki ?_ hno
        by_cases hjk : j = k
        · subst hjk; exact hjun
        · rw [getD_set_ne true hjk] at hun; exact hun
      refine wpOp_mono (fun a' w' h3 => ⟨fun _ => h3.2.1 hjx, ih (listed.setIfInBounds j true) a' w' hfree' (ready_mono hr (Ne.symm hji)) h3.1 (h3.2.1 hjx) ?_⟩) h2
      rw [Array.setIfInBounds_comm _ _ hji]
      exact h3.2.2
theorem wpAnyX_take {i : Nat} {oi : Oper} {v : Value} {fuel : Nat} {listed : Array Bool} {a : Act} {w : World} (hi : ops[i]? = some oi)
    (hs : Region.noSelect ops = true) (hf : Region.free md ops listed i = true) (hr : (Region.ready md ops listed).contains i = true) (hx : waitsB md ops x i = true)
    (hQ : ∀ c a w, Q (.panic c) (a.put oi.dst v) w → Q (.panic c) a w) (hy : YieldsIf P ops S oi v a) (hS : S w)
    (h : wpAnyX P md ops Q S x fuel (listed.setIfInBounds i true) (a.put oi.dst v) w) : wpAnyX P md ops Q S x (fuel + 1) listed a w :=
  wpAnyX_first hi (Region.noSelect_spec hs) hQ hx fuel listed a w (Region.free_spec hi hf) (by simpa using hr) hy hS h
theorem wpAnyX_done {listed : Array Bool} {a : Act} {w : World} (hr : Region.ready md ops listed = []) (h : Q .normal a w) :
    ∀ fuel, wpAnyX P md ops Q S x fuel listed a w
  | 0 => ⟨hr, h⟩
  | _ + 1 => ⟨fun _ => h, by rw [hr]; simp⟩
def AllReadyX (P : Program) (md : Region.Mode) (ops : Array Oper) (Q : Exit → Act → World → Prop) (S : World → Prop) (x fuel : Nat) (listed : Array Bool) (a : Act) (w : World) (rs : List Nat) : Prop :=
  ∀ i ∈ rs, wpOp P ops Q i (fun a' w' => (i ≠ x → S w') ∧ wpAnyX P md ops Q S x fuel (listed.setIfInBounds i true) a' w') a w
theorem AllReadyX.nil {fuel : Nat} {listed : Array Bool} {a : Act} {w : World} : AllReadyX P md ops Q S x fuel listed a w [] := fun _ h => by cases h
theorem AllReadyX.cons {fuel : Nat} {listed : Array Bool} {a : Act} {w : World} {i : Nat} {o : Oper} {rs : List Nat} (ho : ops[i]? = some o)
    (h : ∀ K' : Act → World → Prop, Shut (∀ a w, S w → (S w → wpAnyX P md ops Q S x fuel (listed.setIfInBounds i true) a w) → K' a w) → if Region.wanted o (yielded ops a.tmps) = true then Oper.wp P o a w K' Q else K' (a.put o.dst undef) w)
    (hs : AllReadyX P md ops Q S x fuel listed a w rs) : AllReadyX P md ops Q S x fuel listed a w (i :: rs) := fun j hj => by
  rcases List.mem_cons.1 hj with rfl | hj
  · exact wpOp_step ho (fun K' hK => h K' (fun a w hS hW => hK a w ⟨fun _ => hS, hW hS⟩))
  · exact hs j hj
/-- The operation behind which nothing is asked. -/
theorem AllReadyX.last {fuel : Nat} {listed : Array Bool} {a : Act} {w : World} {o : Oper} (ho : ops[x]? = some o)
    (h : ∀ K' : Act → World → Prop, Shut (∀ a w, wpAnyX P md ops Q S x fuel (listed.setIfInBounds x true) a w → K' a w) → if Region.wanted o (yielded ops a.tmps) = true then Oper.wp P o a w K' Q else K' (a.put o.dst undef) w) : AllReadyX P md ops Q S x fuel listed a w [x] := fun j hj => by
  rcases List.mem_cons.1 hj with rfl | hj
  · exact wpOp_step ho (fun K' hK => h K' (fun a w hW => hK a w ⟨fun e => absurd rfl e, hW⟩))
  · cases hj
theorem wpAnyX_ready {rs : List Nat} {fuel : Nat} {listed : Array Bool} {a : Act} {w : World} (hr : Region.ready md ops listed = rs) (hne : rs ≠ [])
    (h : AllReadyX P md ops Q S x fuel listed a w rs) : wpAnyX P md ops Q S x (fuel + 1) listed a w := ⟨fun h0 => absurd (hr ▸ h0) hne, hr ▸ h⟩
theorem wp_region_heldX (x : Nat) (S : World → Prop) {id : Nat} {a : Act} {w : World} (hm : P.follows .mixedOrders = true) (hS : S w.drew)
    (h : S w.drew → wpAnyX P .any ops Q S x ops.size (Array.replicate ops.size false) a w.drew) : (Code.region id ops true).wp P Q a w :=
  wp_region_any hm (wpAny_of_X _ _ _ _ (h hS))
end
end Go.Proofs.YtjfafhehpfjofaaGreat
