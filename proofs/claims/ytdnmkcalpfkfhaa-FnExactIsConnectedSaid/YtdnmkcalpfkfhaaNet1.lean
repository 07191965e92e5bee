/- Networks that are valid, in plain Lean. Conditions: none. -/
import Derived.Test.YtdnmkcalpfkfhaaName
import Derived.Test.YtdnmkcalpfkfhaaFind
import Derived.Test.YtdnmkcalpfkfhaaFib
namespace Go.Proofs.Ytdnmkcalpfkfhaa
/-- All of the first k pass. -/
def allTo (p : Nat → Bool) (k : Nat) : Prop := ∀ j, j < k → p j = true
def allB (p : Nat → Bool) (n : Nat) : Bool := (List.range n).all p
theorem allTo_zero (p : Nat → Bool) : allTo p 0 := fun j hj => by omega
theorem allTo_succ {p : Nat → Bool} {k : Nat} (h : allTo p k) (hk : p k = true) : allTo p (k + 1) := by
  intro j hj
  rcases Nat.lt_succ_iff_lt_or_eq.1 hj with hlt | rfl
  · exact h j hlt
  · exact hk
theorem allB_iff {p : Nat → Bool} {n : Nat} : allB p n = true ↔ allTo p n := by unfold allB allTo; simp
theorem allB_yes {p : Nat → Bool} {n k : Nat} (h : allTo p k) (hk : k = n) : allB p n = true := by subst hk; exact allB_iff.2 h
theorem allB_no {p : Nat → Bool} {n k : Nat} (hk : k < n) (h : p k = false) : allB p n = false := by
  rw [← Bool.not_eq_true, allB_iff]; intro ht; have := ht k hk; rw [h] at this; cases this
instance : Inhabited Fib := ⟨⟨0, 0, 0, 0⟩⟩
def nameAt (xs : List ByteArray) (k : Nat) : Bool := nameB (xs.getD k ByteArray.empty).data.toList && !hasB (xs.take k) (xs.getD k ByteArray.empty)
def fibB (n : Nat) (f : Fib) : Bool := decide (0 ≤ f.a ∧ f.a < f.b ∧ f.b < n ∧ 1 ≤ f.len ∧ f.len ≤ 5000 ∧ 0 ≤ f.risk ∧ f.risk ≤ 9)
def fibAt (n : Nat) (fs : List Fib) (k : Nat) : Bool := fibB n (fs.getD k default) && (k == 0 || decide (cmpFib (fs.getD (k - 1) default) (fs.getD k default) ≤ 0))
def goodB (xs : List ByteArray) (fs : List Fib) : Bool :=
  decide (2 ≤ xs.length ∧ xs.length ≤ 8) && decide (fs.length ≤ 14) && allB (nameAt xs) xs.length && allB (fibAt xs.length fs) fs.length
theorem goodB_len {xs : List ByteArray} {fs : List Fib} (h : decide (2 ≤ xs.length ∧ xs.length ≤ 8) = false) : goodB xs fs = false := by unfold goodB; rw [h]; simp
theorem goodB_fib {xs : List ByteArray} {fs : List Fib} (h : decide (fs.length ≤ 14) = false) : goodB xs fs = false := by unfold goodB; rw [h]; simp
theorem goodB_name {xs : List ByteArray} {fs : List Fib} {k : Nat} (hk : k < xs.length) (h : nameAt xs k = false) : goodB xs fs = false := by unfold goodB; rw [allB_no hk h]; simp
theorem goodB_fibAt {xs : List ByteArray} {fs : List Fib} {k : Nat} (hk : k < fs.length) (h : fibAt xs.length fs k = false) : goodB xs fs = false := by unfold goodB; rw [allB_no hk h]; simp
theorem goodB_rest {xs : List ByteArray} {fs : List Fib} (h1 : allTo (nameAt xs) xs.length) (h2 : allTo (fibAt xs.length fs) fs.length) :
    goodB xs fs = (decide (2 ≤ xs.length ∧ xs.length ≤ 8) && decide (fs.length ≤ 14)) := by unfold goodB; rw [allB_iff.2 h1, allB_iff.2 h2]; simp
theorem fib_cases (n : Nat) (f : Fib) : decide (f.a < 0) = true ∨ (decide (f.a < 0) = false ∧ (decide (f.b ≤ f.a) = true ∨ (decide (f.b ≤ f.a) = false ∧ (decide ((n : Int) ≤ f.b) = true ∨
    (decide ((n : Int) ≤ f.b) = false ∧ (inB 1 5000 f.len = false ∨ (inB 1 5000 f.len = true ∧ (inB 0 9 f.risk = false ∨ inB 0 9 f.risk = true)))))))) := by
  cases decide (f.a < 0) <;> cases decide (f.b ≤ f.a) <;> cases decide ((n : Int) ≤ f.b) <;> cases inB 1 5000 f.len <;> cases inB 0 9 f.risk <;> simp
theorem fibB_eq (n : Nat) (f : Fib) : fibB n f = (!decide (f.a < 0) && !decide (f.b ≤ f.a) && !decide ((n : Int) ≤ f.b) && inB 1 5000 f.len && inB 0 9 f.risk) := by
  unfold fibB inB; rw [Bool.eq_iff_iff]; simp; omega
theorem getD_of {α : Type} {l : List α} {k : Nat} {x d : α} (h : l[k]? = some x) : l.getD k d = x := by simp [List.getD, h]
theorem get_of {α : Type} {l : List α} {k n : Nat} (hl : l.length = n) (hk : k < n) : ∃ x, l[k]? = some x := ⟨l[k]'(by omega), List.getElem?_eq_getElem _⟩
end Go.Proofs.Ytdnmkcalpfkfhaa
