/- slices.IndexFunc and ContainsFunc over numbers, walked, at a closure that answers p. Conditions: none. -/
import Derived.Test.YtldheoomlagapaaRows
import Derived.Test.YtldheoomlagapaaFind
namespace Go.Proofs.Ytldheoomlagapaa
open Go.RowKit
/-- None of the first k passes p. -/
def noneP {α : Type} (p : α → Bool) (l : List α) (k : Nat) : Prop := ∀ j x, j < k → l[j]? = some x → p x = false
theorem noneP_zero {α : Type} (p : α → Bool) (l : List α) : noneP p l 0 := fun j _ hj => by omega
theorem noneP_succ {α : Type} {p : α → Bool} {l : List α} {k : Nat} {x : α} (h : noneP p l k) (hx : l[k]? = some x) (hp : p x = false) : noneP p l (k + 1) := by
  intro j y hj hy
  rcases Nat.lt_succ_iff_lt_or_eq.1 hj with hlt | rfl
  · exact h j y hlt hy
  · rw [hx] at hy; injection hy with hy; subst hy; exact hp
/-- The index of the first element that passes p, or -1. -/
def findPF {α : Type} (p : α → Bool) : List α → Nat → Int
  | [], _ => -1
  | y :: l, k => if p y then (k : Int) else findPF p l (k + 1)
def findP {α : Type} (p : α → Bool) (l : List α) : Int := findPF p l 0
theorem findPF_at {α : Type} {p : α → Bool} : ∀ {l : List α} {k0 k : Nat} {x : α}, l[k]? = some x → p x = true → noneP p l k → findPF p l k0 = ((k0 + k : Nat) : Int) := by
  intro l
  induction l with
  | nil => intro k0 k x h; simp at h
  | cons y l ih =>
    intro k0 k x h hp hn
    unfold findPF
    cases k with
    | zero => simp at h; rw [h, if_pos hp]; rfl
    | succ k =>
      rw [if_neg (by rw [hn 0 y (Nat.succ_pos _) (by simp)]; decide)]
      rw [ih (k := k) (by simpa using h) hp (fun j z hj hz => hn (j + 1) z (by omega) (by simpa using hz))]
      congr 1; omega
theorem findP_at {α : Type} {p : α → Bool} {l : List α} {k : Nat} {x : α} (h : noneP p l k) (hx : l[k]? = some x) (hp : p x = true) : findP p l = k := by
  have := findPF_at (k0 := 0) hx hp h
  simpa [findP] using this
theorem findPF_neg {α : Type} {p : α → Bool} : ∀ {l : List α} {k0 : Nat}, (0 ≤ findPF p l k0 ↔ l.any p = true) ∧ -1 ≤ findPF p l k0 := by
  intro l
  induction l with
  | nil => intro k0; simp [findPF]
  | cons y l ih =>
    intro k0
    unfold findPF
    by_cases h : p y = true
    · rw [if_pos h]; simp [h]
    · rw [if_neg h]; simp only [List.any_cons]; rw [show p y = false by simpa using h]; simpa using ih
theorem findP_ge {α : Type} {p : α → Bool} {l : List α} : 0 ≤ findP p l ↔ l.any p = true := findPF_neg.1
theorem findP_none {α : Type} {p : α → Bool} {l : List α} {n : Nat} (hl : l.length = n) (h : noneP p l n) : findP p l = -1 := by
  have h1 := findPF_neg (p := p) (l := l) (k0 := 0)
  have h2 : ¬ (l.any p = true) := by
    intro ha
    obtain ⟨x, hx, hp⟩ := List.any_eq_true.1 ha
    obtain ⟨i, hi, e⟩ := List.mem_iff_getElem.1 hx
    have := h i x (by omega) (by rw [List.getElem?_eq_getElem hi, e])
    rw [this] at hp; cases hp
  unfold findP
  have := h1.2
  have h3 : ¬ (0 ≤ findPF p l 0) := fun h => h2 (h1.1.1 h)
  omega
section
variable {B n c : Nat} {A : Option Addr} {xs : List Int} {F : FuncId} {cap : Array Value}
set_option maxRecDepth 100000 in
theorem indexFuncI_any (p : Int → Bool) (w : World) (hA : Sees elInt w B A n xs) (hn : n ≤ 1048576)
    (hcall : ∀ args wr, (callFunc F args).run Try.prog wr = .ok (.enter F args) wr)
    (hF : ∀ x w', x ∈ xs → Cls w w' → Calls Try.prog F (#[.int .i64 x] ++ cap) w' fun e w2 => e = .returned (.bool (p x)) ∧ Below w'.heap.size w' w2) :
    Calls Try.prog 120 #[.slice A n c, .func (.func F) #[] cap] w fun e w' => e = .returned (.int .i64 (findP p xs)) ∧ Below w.heap.size w w' := by
  have HF := hid hF
  clear hF
  go_enter Try.func120, Try.ntmps120
  go_wp2
  go_loopw [8] (fun i wr => ∃ k : Nat, k ≤ n ∧ i = .int .i64 k ∧ Hid (noneP p xs k) ∧ Below w.heap.size w wr) (fun i _ => n - (intOf i).toNat)
  case atStart => exact ⟨0, Nat.zero_le _, rfl, noneP_zero _ _, Below.refl _ _⟩
  case round =>
    obtain ⟨k, hk, rfl, hno, hb⟩ := hrel
    by_cases hlt : k < n
    · obtain ⟨b, o, rfl, _, hc⟩ := hA.at_ hlt
      obtain ⟨x, hxk⟩ : ∃ x, xs[k]? = some x := ⟨xs[k]'(by rw [hA.len]; exact hlt), List.getElem?_eq_getElem _⟩
      have hcx := bl_cell hb (hc k x hxk 0 _ rfl)
      simp only [elInt, Nat.mul_one, Nat.add_zero] at hcx
      have HC := hid (HF.out x wr (List.mem_of_getElem? hxk) hb)
      clear hc
      go_wp2_with fail
      refine HC.out.mono ?_
      rintro e w' ⟨rfl, hb2⟩
      have hbb : Below w.heap.size w w' := bl_then hb hb2
      clear HC hcx hb hb2
      by_cases hp : p x = true
      · have HR := hid (findP_at hno.out hxk hp)
        clear hno hxk
        rw [hp]
        go_wp2_with fail
        go_ret
        exact ⟨by rw [HR.out]; rfl, hbb⟩
      · have hp' : p x = false := by simpa using hp
        have HR := hid (noneP_succ hno.out hxk hp')
        clear hno hxk
        rw [hp']
        go_wp2_with fail
        exact ⟨⟨k + 1, by omega, by go_num, HR, hbb⟩, by simp [intOf]; omega⟩
    · have HN := hid (findP_none (p := p) hA.len (by obtain rfl : k = n := (by omega); exact hno.out))
      clear hno
      go_wp2
      go_ret
      exact ⟨by rw [HN.out]; rfl, hb⟩
set_option maxRecDepth 100000 in
theorem containsFuncI_any (p : Int → Bool) (w : World) (hA : Sees elInt w B A n xs) (hn : n ≤ 1048576)
    (hcall : ∀ args wr, (callFunc F args).run Try.prog wr = .ok (.enter F args) wr)
    (hF : ∀ x w', x ∈ xs → Cls w w' → Calls Try.prog F (#[.int .i64 x] ++ cap) w' fun e w2 => e = .returned (.bool (p x)) ∧ Below w'.heap.size w' w2) :
    Calls Try.prog 105 #[.slice A n c, .func (.func F) #[] cap] w fun e w' => e = .returned (.bool (xs.any p)) ∧ Below w.heap.size w w' := by
  have HC := hid (indexFuncI_any (c := c) p w hA hn hcall hF)
  have H : Hid (decide (0 ≤ findP p xs) = xs.any p) := by
    unfold Hid
    cases g : xs.any p
    · exact decide_eq_false (fun h => by have := findP_ge.1 h; rw [g] at this; cases this)
    · exact decide_eq_true (findP_ge.2 g)
  clear hcall hF hA
  go_enter Try.func105, Try.ntmps105
  go_wp2_with fail
  refine HC.out.mono ?_
  rintro e w' ⟨rfl, hb⟩
  go_wp2_with fail
  go_ret
  exact ⟨by rw [← H.out]; rfl, hb⟩
end
end Go.Proofs.Ytldheoomlagapaa
