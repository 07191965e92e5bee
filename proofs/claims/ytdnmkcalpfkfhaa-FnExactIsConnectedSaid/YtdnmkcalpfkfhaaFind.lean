/- Finding a value in a list, in plain Lean. Conditions: none. -/
import Derived.Test.YtdnmkcalpfkfhaaKit
namespace Go.Proofs.Ytdnmkcalpfkfhaa
/-- The index of the first x, counted from k; -1 if there is none. -/
def findFrom {α : Type} [DecidableEq α] (x : α) : List α → Nat → Int
  | [], _ => -1
  | y :: l, k => if y = x then (k : Int) else findFrom x l (k + 1)
def findI {α : Type} [DecidableEq α] (l : List α) (x : α) : Int := findFrom x l 0
section
variable {α : Type} {l : List α} {x : α}
/-- None of the first k is x. -/
def noneTo (l : List α) (x : α) (k : Nat) : Prop := ∀ j, j < k → l[j]? ≠ some x
theorem noneTo_zero : noneTo l x 0 := fun j hj => by omega
theorem noneTo_succ {k : Nat} {y : α} (h : noneTo l x k) (hy : l[k]? = some y) (hne : y ≠ x) : noneTo l x (k + 1) := by
  intro j hj
  rcases Nat.lt_succ_iff_lt_or_eq.1 hj with hlt | rfl
  · exact h j hlt
  · rw [hy]; intro e; injection e with e; exact hne e
theorem noneTo_not {n : Nat} (hn : l.length = n) (h : noneTo l x n) : x ∉ l := by
  intro hm
  obtain ⟨i, hi, e⟩ := List.mem_iff_getElem.1 hm
  exact h i (by omega) (by rw [List.getElem?_eq_getElem hi, e])
end
section
variable {α : Type} [DecidableEq α] {l : List α} {x : α}
theorem findFrom_at : ∀ {l : List α} {k0 k : Nat}, l[k]? = some x → (∀ j, j < k → l[j]? ≠ some x) → findFrom x l k0 = ((k0 + k : Nat) : Int) := by
  intro l
  induction l with
  | nil => intro k0 k h; simp at h
  | cons y l ih =>
    intro k0 k h hn
    unfold findFrom
    cases k with
    | zero => simp at h; rw [if_pos h]; rfl
    | succ k =>
      rw [if_neg (fun e => hn 0 (Nat.succ_pos _) (by simp [e]))]
      rw [ih (k := k) (by simpa using h) (fun j hj => by have := hn (j + 1) (by omega); simpa using this)]
      congr 1; omega
theorem findFrom_none : ∀ {l : List α} {k0 : Nat}, x ∉ l → findFrom x l k0 = -1 := by
  intro l
  induction l with
  | nil => intro k0 _; rfl
  | cons y l ih =>
    intro k0 h
    simp only [List.mem_cons, not_or] at h
    unfold findFrom
    rw [if_neg (fun e => h.1 e.symm), ih h.2]
theorem findI_at {k : Nat} (h : noneTo l x k) (hx : l[k]? = some x) : findI l x = k := by
  have := findFrom_at (k0 := 0) hx h
  simpa [findI] using this
theorem findI_none {n : Nat} (hn : l.length = n) (h : noneTo l x n) : findI l x = -1 := findFrom_none (noneTo_not hn h)
theorem findFrom_ge : ∀ {l : List α} {k0 : Nat}, (0 ≤ findFrom x l k0 ↔ x ∈ l) := by
  intro l
  induction l with
  | nil => intro k0; simp [findFrom]
  | cons y l ih =>
    intro k0
    unfold findFrom
    by_cases h : y = x
    · simp [h]
    · rw [if_neg h, ih]; simp [show x ≠ y from fun e => h e.symm]
theorem findI_ge : 0 ≤ findI l x ↔ x ∈ l := findFrom_ge
theorem findFrom_bd : ∀ {l : List α} {k0 : Nat}, -1 ≤ findFrom x l k0 ∧ findFrom x l k0 < k0 + l.length ∧ (0 ≤ findFrom x l k0 → (k0 : Int) ≤ findFrom x l k0) := by
  intro l
  induction l with
  | nil => intro k0; simp [findFrom]; omega
  | cons y l ih =>
    intro k0
    unfold findFrom
    by_cases h : y = x
    · rw [if_pos h]; simp only [List.length_cons]; omega
    · rw [if_neg h]; have := ih (k0 := k0 + 1); simp only [List.length_cons]; omega
theorem findI_bd : -1 ≤ findI l x ∧ findI l x < l.length := by
  have := findFrom_bd (x := x) (l := l) (k0 := 0); unfold findI; omega
/-- Is x in the list? -/
def hasB (l : List α) (x : α) : Bool := decide (0 ≤ findI l x)
theorem hasB_iff : hasB l x = true ↔ x ∈ l := by unfold hasB; rw [decide_eq_true_eq]; exact findI_ge
end
end Go.Proofs.Ytdnmkcalpfkfhaa
