/- The group that contains a fiber, in plain Lean. Conditions: the network is valid. -/
import Derived.Test.YtldheoomlagapaaRgB
import Derived.Test.YtldheoomlagapaaIdxF
namespace Go.Proofs.Ytldheoomlagapaa
theorem mem_idsTo {p : Nat → Bool} {k : Nat} {x : Int} : x ∈ idsTo p k ↔ ∃ j : Nat, j < k ∧ p j = true ∧ x = (j : Int) := by
  unfold idsTo
  rw [List.mem_map]
  constructor
  · rintro ⟨j, hj, rfl⟩
    rw [List.mem_filter] at hj
    exact ⟨j, by simpa using hj.1, hj.2, rfl⟩
  · rintro ⟨j, hj, hp, rfl⟩
    exact ⟨j, List.mem_filter.2 ⟨by simpa using hj, hp⟩, rfl⟩
theorem idsTo_mem {p : Nat → Bool} {k j : Nat} : (j : Int) ∈ idsTo p k ↔ j < k ∧ p j = true := by
  rw [mem_idsTo]
  constructor
  · rintro ⟨i, hi, hp, e⟩
    have : j = i := by omega
    subst this; exact ⟨hi, hp⟩
  · rintro ⟨h1, h2⟩; exact ⟨j, h1, h2, rfl⟩
/-- Where there is one that passes, and all that pass are R, the first one that passes is R. -/
theorem findP_only {α : Type} {p : α → Bool} {l : List α} {R : α} (h1 : R ∈ l) (hp : p R = true) (h2 : ∀ r ∈ l, p r = true → r = R) : ∃ k : Nat, findP p l = k ∧ l[k]? = some R := by
  suffices h : ∀ (l : List α) (k0 : Nat), R ∈ l → (∀ r ∈ l, p r = true → r = R) → ∃ k : Nat, findPF p l k0 = ((k0 + k : Nat) : Int) ∧ l[k]? = some R by
    obtain ⟨k, h3, h4⟩ := h l 0 h1 h2
    exact ⟨k, by unfold findP; rw [h3]; simp, h4⟩
  intro l
  induction l with
  | nil => intro k0 h; cases h
  | cons y l ih =>
    intro k0 h1 h2
    unfold findPF
    by_cases hy : p y = true
    · rw [if_pos hy]
      exact ⟨0, by simp, by simp [h2 y (by simp) hy]⟩
    · rw [if_neg hy]
      have hne : y ≠ R := fun e => hy (e ▸ hp)
      rcases List.mem_cons.1 h1 with e | h3
      · exact absurd e.symm hne
      obtain ⟨k, h4, h5⟩ := ih (k0 + 1) h3 (fun r hr => h2 r (by simp [hr]))
      exact ⟨k + 1, by rw [h4]; congr 1; omega, by simpa using h5⟩
theorem rkTo_mem {fs : List Fib} {t : Nat} {r : List Int} : r ∈ rkTo fs t ↔ (∃ j, j < t ∧ r = rkRow fs j) ∧ r ≠ [] := by
  unfold rkTo
  rw [List.mem_filter, List.mem_map]
  constructor
  · rintro ⟨⟨j, hj, rfl⟩, h⟩
    exact ⟨⟨j, by simpa using hj, rfl⟩, by cases hh : rkRow fs j <;> simp_all⟩
  · rintro ⟨⟨j, hj, rfl⟩, h⟩
    exact ⟨⟨j, by simpa using hj, rfl⟩, by cases hh : rkRow fs j <;> simp_all⟩
theorem zrTo_mem {fs : List Fib} {k : Nat} {r : List Int} : r ∈ zrTo fs k ↔ ∃ j : Nat, j < k ∧ riskF fs j = 0 ∧ r = [(j : Int)] := by
  unfold zrTo
  rw [List.mem_map]
  constructor
  · rintro ⟨x, hx, rfl⟩
    obtain ⟨j, h1, h2, rfl⟩ := mem_idsTo.1 hx
    exact ⟨j, h1, by simpa using h2, rfl⟩
  · rintro ⟨j, h1, h2, rfl⟩
    exact ⟨j, mem_idsTo.2 ⟨j, h1, by simpa using h2, rfl⟩, rfl⟩
section
variable {xs : List ByteArray} {fs : List Fib}
theorem riskF_bd (hg : goodB xs fs = true) {j : Nat} (hj : j < fs.length) : 0 ≤ riskF fs j ∧ riskF fs j ≤ 9 := by
  have h := goodB_fibB hg (List.getElem_mem hj)
  rw [riskF_of (List.getElem?_eq_getElem hj)]
  unfold fibB at h; simp at h; omega
theorem groupL_self {i : Nat} (hi : i < fs.length) : (i : Int) ∈ groupL fs i := by
  unfold groupL
  by_cases h : (riskF fs i == 0) = true
  · rw [if_pos h]; simp
  · rw [if_neg h]; exact idsTo_mem.2 ⟨hi, by simp⟩
theorem groupL_mem {i j : Nat} (hi : i < fs.length) : (j : Int) ∈ groupL fs i ↔ j < fs.length ∧ (i = j ∨ (riskF fs i ≠ 0 ∧ riskF fs j = riskF fs i)) := by
  unfold groupL
  by_cases h : (riskF fs i == 0) = true
  · rw [if_pos h]
    have h0 : riskF fs i = 0 := by simpa using h
    simp
    constructor
    · intro e; have : j = i := by omega
      subst this; exact ⟨hi, .inl rfl⟩
    · rintro ⟨_, e | e⟩
      · omega
      · exact absurd h0 e.1
  · rw [if_neg h, idsTo_mem]
    have h0 : riskF fs i ≠ 0 := by simpa using h
    simp
    intro hj
    constructor
    · intro e; exact .inr ⟨h0, e⟩
    · rintro (rfl | e)
      · rfl
      · exact e.2
/-- The group of fiber i is a group. -/
theorem groupL_in (hg : goodB xs fs = true) {i : Nat} (hi : i < fs.length) : groupL fs i ∈ groupsL fs := by
  unfold groupsL
  rw [List.mem_append]
  by_cases h : (riskF fs i == 0) = true
  · exact .inr (zrTo_mem.2 ⟨i, hi, by simpa using h, by unfold groupL; rw [if_pos h]⟩)
  · have hb := riskF_bd hg hi
    have h0 : riskF fs i ≠ 0 := by simpa using h
    obtain ⟨t, ht⟩ : ∃ t : Nat, riskF fs i = (t : Int) + 1 := ⟨(riskF fs i - 1).toNat, by omega⟩
    have e : groupL fs i = rkRow fs t := groupL_row (by rw [ht]; simp)
    exact .inl (rkTo_mem.2 ⟨⟨t, by omega, e⟩, List.ne_nil_of_mem (groupL_self hi)⟩)
/-- The group that contains fiber i is its group. -/
theorem groupL_only {i : Nat} {r : List Int} (hr : r ∈ groupsL fs) (h : (i : Int) ∈ r) : i < fs.length ∧ r = groupL fs i := by
  unfold groupsL at hr
  rcases List.mem_append.1 hr with hr | hr
  · obtain ⟨⟨t, ht, rfl⟩, _⟩ := rkTo_mem.1 hr
    have h' := h
    unfold rkRow at h'
    obtain ⟨h1, h2⟩ := idsTo_mem.1 h'
    exact ⟨h1, (groupL_row h2).symm⟩
  · obtain ⟨j, hj, h0, rfl⟩ := zrTo_mem.1 hr
    have : i = j := by simp at h; omega
    subst this
    exact ⟨hj, by unfold groupL; rw [if_pos (by simpa using h0)]⟩
/-- The index of the group of a fiber. -/
def grpI (fs : List Fib) (i : Int) : Int := findP (fun r => hasB r i) (groupsL fs)
theorem grp_at (hg : goodB xs fs = true) {i : Nat} (hi : i < fs.length) : ∃ k : Nat, grpI fs i = k ∧ (groupsL fs)[k]? = some (groupL fs i) :=
  findP_only (groupL_in hg hi) (hasB_iff.2 (groupL_self hi)) (fun _ hr hp => (groupL_only hr (hasB_iff.1 hp)).2)
end
end Go.Proofs.Ytldheoomlagapaa
