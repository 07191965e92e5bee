/- Routes in plain Lean: how long they are at most; their lengths; their order. Conditions: none. -/
import Derived.Test.YtdnmkcalpfkfhaaRt
import Derived.Test.YtdnmkcalpfkfhaaRtFns
namespace Go.Proofs.Ytdnmkcalpfkfhaa
/-- Different numbers below n are n at most. -/
theorem nodup_bd : ∀ (n : Nat) (l : List Int), l.Nodup → (∀ x ∈ l, 0 ≤ x ∧ x < n) → l.length ≤ n := by
  intro n
  induction n with
  | zero =>
    intro l _ h
    cases l with
    | nil => exact Nat.le_refl _
    | cons x l => have := h x (by simp); omega
  | succ n ih =>
    intro l hd h
    have h1 := ih (l.erase (n : Int)) (hd.erase _) (fun x hx => by
      have := (List.Nodup.mem_erase_iff hd).1 hx
      have h2 := h x this.2
      have h3 := this.1
      omega)
    have h2 : l.length ≤ (l.erase (n : Int)).length + 1 := by rw [List.length_erase]; split <;> omega
    omega
section
variable {n : Nat} {fs : List Fib} {s : Int} {ids : List Int}
theorem rtB_parts (h : rtB n fs s ids = true) : inB 0 ((n : Int) - 1) s = true ∧ ids ≠ [] ∧ allTo (okW fs.length fs s ids) ids.length := by
  unfold rtB at h
  rw [Bool.and_eq_true, Bool.and_eq_true] at h
  refine ⟨h.1, fun e => ?_, allB_iff.1 h.2.2⟩
  rw [e] at h; simp at h
theorem okW_parts {m k : Nat} (h : okW m fs s ids k = true) : inB 0 ((m : Int) - 1) (ids.getD k 0) = true ∧ 0 ≤ atW fs s ids (k + 1) ∧ hasB (outW fs s ids k) (atW fs s ids (k + 1)) = false := by
  unfold okW at h
  rw [Bool.and_eq_true, Bool.and_eq_true] at h
  refine ⟨h.1, ?_, by simpa using h.2.2⟩
  have := h.2.1
  simp at this; exact this
theorem rtB_at (h : rtB n fs s ids = true) {k : Nat} {i : Int} (hi : ids[k]? = some i) : 0 ≤ i ∧ i < fs.length := by
  have hk : k < ids.length := (List.getElem?_eq_some_iff.1 hi).1
  have h1 := (okW_parts ((rtB_parts h).2.2 k hk)).1
  rw [getD_of hi] at h1
  exact inB_idx h1
theorem rtB_mem (h : rtB n fs s ids = true) : ∀ x ∈ ids, 0 ≤ x ∧ x < fs.length := by
  intro x hx
  obtain ⟨k, hk, e⟩ := List.mem_iff_getElem.1 hx
  exact rtB_at h (k := k) (by rw [List.getElem?_eq_getElem hk, e])
theorem outW_nodup (h : allTo (okW fs.length fs s ids) ids.length) : ∀ k, k ≤ ids.length → (outW fs s ids k).Nodup := by
  intro k
  induction k with
  | zero => intro _; rw [outW_zero]; simp
  | succ k ih =>
    intro hk
    rw [outW_succ, List.nodup_append]
    refine ⟨ih (by omega), by simp, fun a ha b hb => ?_⟩
    simp at hb; subst hb
    have h1 := (okW_parts (h k (by omega))).2.2
    intro e
    subst e
    rw [hasB_iff.2 ha] at h1; cases h1
theorem outW_range (hf : ∀ f ∈ fs, fibB n f = true) (h : rtB n fs s ids = true) : ∀ k, k ≤ ids.length → ∀ x ∈ outW fs s ids k, 0 ≤ x ∧ x < n := by
  obtain ⟨hs, _, hall⟩ := rtB_parts h
  intro k
  induction k with
  | zero => intro _ x hx; rw [outW_zero] at hx; simp at hx; subst hx; exact inB_idx hs
  | succ k ih =>
    intro hk x hx
    rw [outW_succ] at hx
    rcases List.mem_append.1 hx with hx | hx
    · exact ih (by omega) x hx
    · simp at hx; subst hx
      have hok := okW_parts (hall k (by omega))
      have hki : k < ids.length := by omega
      have hi := rtB_at h (List.getElem?_eq_getElem hki)
      have hfi : fs[(ids[k]).toNat]? = some (fs[(ids[k]).toNat]'(by omega)) := List.getElem?_eq_getElem _
      have e := atW_succ (s := s) (List.getElem?_eq_getElem hki) hfi
      have hb := otherF_bd (hf _ (List.mem_of_getElem? hfi)) (atW fs s ids k)
      rw [← e] at hb
      exact ⟨hok.2.1, hb.2⟩
theorem rtB_short (hf : ∀ f ∈ fs, fibB n f = true) (h : rtB n fs s ids = true) : ids.length + 1 ≤ n := by
  have h1 := nodup_bd n (outW fs s ids ids.length) (outW_nodup (rtB_parts h).2.2 _ (Nat.le_refl _)) (outW_range hf h _ (Nat.le_refl _))
  rw [outW_len] at h1
  exact h1
end
/-- The length of the first k fibers. -/
def rlTo (fs : List Fib) (ids : List Int) (k : Nat) : Int := ((ids.take k).map fun i => (fs.getD i.toNat ⟨0, 0, 0, 0⟩).len).sum
/-- The length of a route. -/
def lenR (fs : List Fib) (ids : List Int) : Int := rlTo fs ids ids.length
theorem rlTo_zero (fs : List Fib) (ids : List Int) : rlTo fs ids 0 = 0 := by simp [rlTo]
theorem rlTo_succ {fs : List Fib} {ids : List Int} {k : Nat} {i : Int} {f : Fib} (hi : ids[k]? = some i) (hf : fs[i.toNat]? = some f) : rlTo fs ids (k + 1) = rlTo fs ids k + f.len := by
  unfold rlTo
  rw [List.take_add_one, hi]
  simp [hf]
theorem rlTo_bd {fs : List Fib} {ids : List Int} (hl : ∀ f ∈ fs, 0 ≤ f.len ∧ f.len ≤ 5000) (hin : ∀ x ∈ ids, 0 ≤ x ∧ x < fs.length) : ∀ k, k ≤ ids.length → 0 ≤ rlTo fs ids k ∧ rlTo fs ids k ≤ 5000 * (k : Int) := by
  intro k
  induction k with
  | zero => intro _; rw [rlTo_zero]; omega
  | succ k ih =>
    intro hk
    have h1 := ih (by omega)
    have hki : k < ids.length := by omega
    have hi := hin _ (List.getElem_mem hki)
    have hfi : fs[(ids[k]).toNat]? = some (fs[(ids[k]).toNat]'(by omega)) := List.getElem?_eq_getElem _
    rw [rlTo_succ (List.getElem?_eq_getElem hki) hfi]
    have := hl _ (List.mem_of_getElem? hfi)
    omega
section
variable {xs : List ByteArray} {fs : List Fib} {s : Int} {ids : List Int}
theorem routeB_good (h : routeB xs fs s ids = true) : goodB xs fs = true ∧ rtB xs.length fs s ids = true := by unfold routeB at h; simpa using h
theorem goodB_lens (h : goodB xs fs = true) : ∀ f ∈ fs, 0 ≤ f.len ∧ f.len ≤ 5000 := fun f hf => by
  have := goodB_fibB h hf
  unfold fibB at this; simp at this; omega
theorem routeB_short (h : routeB xs fs s ids = true) : ids.length ≤ 7 ∧ 1 ≤ ids.length := by
  obtain ⟨hg, hr⟩ := routeB_good h
  have h1 := rtB_short (fun f hf => goodB_fibB hg hf) hr
  have h2 := (goodB_bd hg).2.1
  have h3 := (rtB_parts hr).2.1
  have : ids.length ≠ 0 := fun e => h3 (List.eq_nil_of_length_eq_zero e)
  omega
theorem routeL_yes (h : routeB xs fs s ids = true) : routeL xs fs s ids = outW fs s ids ids.length := by
  obtain ⟨hg, hr⟩ := routeB_good h
  unfold routeL; rw [hg]; simp [rtL_yes hr]
theorem routeL_no (h : routeB xs fs s ids = false) : routeL xs fs s ids = [] := by
  unfold routeB at h; unfold routeL
  cases g : goodB xs fs
  · rfl
  · rw [g] at h; simp at h; simp [rtL_no h]
theorem routeL_len : (routeL xs fs s ids).length ≤ 8 := by
  cases g : routeB xs fs s ids
  · rw [routeL_no g]; simp
  · rw [routeL_yes g, outW_len]; have := (routeB_short g).1; omega
/-- RouteLength. -/
def rlI (xs : List ByteArray) (fs : List Fib) (s : Int) (ids : List Int) : Int := if routeB xs fs s ids then lenR fs ids else 0
theorem rt_lens (h : routeB xs fs s ids = true) : 0 ≤ lenR fs ids ∧ lenR fs ids ≤ 35000 := by
  obtain ⟨hg, hr⟩ := routeB_good h
  have h1 := rlTo_bd (goodB_lens hg) (rtB_mem hr) ids.length (Nat.le_refl _)
  have h2 := (routeB_short h).1
  unfold lenR
  omega
end
/-- -1, 0 or 1. -/
def sgnI (x : Int) : Int := if x < 0 then -1 else if x > 0 then 1 else 0
/-- Two lists in their order, the shorter first where one begins with the other. -/
def cmpL : List Int → List Int → Int
  | [], [] => 0
  | [], _ :: _ => -1
  | _ :: _, [] => 1
  | x :: xs, y :: ys => if x < y then -1 else if y < x then 1 else cmpL xs ys
/-- Two routes in their order. -/
def cmpRt (fs : List Fib) (s : Int) (a : List Int) (t : Int) (b : List Int) : Int :=
  if lenR fs a ≠ lenR fs b then sgnI (lenR fs a - lenR fs b)
  else if a.length ≠ b.length then sgnI ((a.length : Int) - b.length)
  else if cmpL a b ≠ 0 then cmpL a b
  else sgnI (s - t)
theorem cmpL_at : ∀ {a b : List Int} {k : Nat} {x y : Int}, a.take k = b.take k → a[k]? = some x → b[k]? = some y → x ≠ y → cmpL a b = sgnI (x - y) := by
  intro a
  induction a with
  | nil => intro b k x y _ h; simp at h
  | cons u a ih =>
    intro b k x y ht ha hb hne
    cases b with
    | nil => simp at hb
    | cons v b =>
      cases k with
      | zero =>
        simp at ha hb; subst ha hb
        unfold cmpL sgnI
        by_cases h1 : u < v
        · rw [if_pos h1, if_pos (by omega)]
        · rw [if_neg h1, if_pos (by omega), if_neg (by omega), if_pos (by omega)]
      | succ k =>
        simp at ht ha hb
        unfold cmpL
        rw [ht.1, if_neg (by omega), if_neg (by omega)]
        exact ih ht.2 ha hb hne
theorem cmpL_same (a : List Int) : cmpL a a = 0 := by
  induction a with
  | nil => rfl
  | cons u a ih => unfold cmpL; rw [if_neg (by omega), if_neg (by omega)]; exact ih
theorem cmpL_short {a b : List Int} (ht : a = b.take a.length) (h : a.length < b.length) : cmpL a b = -1 := by
  induction a generalizing b with
  | nil => cases b with
    | nil => simp at h
    | cons v b => rfl
  | cons u a ih =>
    cases b with
    | nil => simp at h
    | cons v b =>
      simp at ht h
      unfold cmpL
      rw [ht.1, if_neg (by omega), if_neg (by omega)]
      exact ih ht.2 h
theorem cmpL_long {a b : List Int} (ht : a.take b.length = b) (h : b.length < a.length) : cmpL a b = 1 := by
  induction b generalizing a with
  | nil => cases a with
    | nil => simp at h
    | cons u a => rfl
  | cons v b ih =>
    cases a with
    | nil => simp at h
    | cons u a =>
      simp at ht h
      unfold cmpL
      rw [ht.1, if_neg (by omega), if_neg (by omega)]
      exact ih ht.2 h
end Go.Proofs.Ytdnmkcalpfkfhaa
