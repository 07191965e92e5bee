/- Sets of fibers as numbers: the reference's l6Mask, walked. Conditions: the numbers are below 20. -/
import Derived.Test.YtdnmkcalpfkfhaaLed3
import Derived.Test.YtdnmkcalpfkfhaaIntL
namespace Go.Proofs.Ytdnmkcalpfkfhaa
open Go.RowKit
/-- The set as a number. -/
def maskTo (l : List Int) : Nat → Nat
  | 0 => 0
  | k + 1 => maskTo l k ||| 2 ^ (l.getD k 0).toNat
def maskN (l : List Int) : Nat := maskTo l l.length
theorem maskTo_bit {l : List Int} (h : ∀ x ∈ l, 0 ≤ x) (i : Nat) : ∀ k, k ≤ l.length → (maskTo l k).testBit i = decide ((i : Int) ∈ l.take k) := by
  intro k
  induction k with
  | zero => intro _; simp [maskTo]
  | succ k ih =>
    intro hk
    have hkl : k < l.length := by omega
    have e : l.take (k + 1) = l.take k ++ [l[k]] := by rw [List.take_add_one, List.getElem?_eq_getElem hkl]; rfl
    have hx := h _ (List.getElem_mem hkl)
    show (maskTo l k ||| 2 ^ (l.getD k 0).toNat).testBit i = _
    rw [Nat.testBit_or, ih (by omega), Nat.testBit_two_pow, e, getD_of (List.getElem?_eq_getElem hkl)]
    rw [Bool.eq_iff_iff, Bool.or_eq_true, decide_eq_true_eq, decide_eq_true_eq, decide_eq_true_eq, List.mem_append, List.mem_singleton]
    constructor
    · intro h1
      rcases h1 with h1 | h1
      · exact Or.inl h1
      · exact Or.inr (by omega)
    · intro h1
      rcases h1 with h1 | h1
      · exact Or.inl h1
      · exact Or.inr (by omega)
theorem maskN_bit {l : List Int} (h : ∀ x ∈ l, 0 ≤ x) (i : Nat) : (maskN l).testBit i = hasB l (i : Int) := by
  unfold maskN
  rw [maskTo_bit h i _ (Nat.le_refl _), List.take_length, Bool.eq_iff_iff, hasB_iff]
  simp
theorem maskTo_lt {l : List Int} (h : ∀ x ∈ l, 0 ≤ x ∧ x < 20) : ∀ k, k ≤ l.length → maskTo l k < 2 ^ 20 := by
  intro k
  induction k with
  | zero => intro _; simp [maskTo]
  | succ k ih =>
    intro hk
    have hkl : k < l.length := by omega
    have hx := h _ (List.getElem_mem hkl)
    refine Nat.or_lt_two_pow (ih (by omega)) ?_
    rw [getD_of (List.getElem?_eq_getElem hkl)]
    exact Nat.pow_lt_pow_right (by decide) (by omega)
theorem ofInt_small {a : Nat} (h : a < 2 ^ 62) : (BitVec.ofInt 64 (a : Int)).toNat = a := by
  rw [BitVec.ofInt_natCast, BitVec.toNat_ofNat]; exact Nat.mod_eq_of_lt (by omega)
theorem wrap_small {a : Nat} (h : a < 2 ^ 62) : IntKind.i64.wrap (a : Int) = (a : Int) := IntWalk.i64_in _ (by omega)
/-- One bit more. -/
theorem bits_or_n {M N : Nat} (hM : M < 2 ^ 20) (hN : N < 2 ^ 20) : Go.bits .or .i64 (M : Int) (N : Int) = ((M ||| N : Nat) : Int) := by
  have h3 : M ||| N < 2 ^ 20 := Nat.or_lt_two_pow hM hN
  show IntKind.i64.wrap ((BitVec.ofInt 64 (M : Int) ||| BitVec.ofInt 64 (N : Int)).toNat : Int) = _
  rw [BitVec.toNat_or, ofInt_small (by omega), ofInt_small (by omega)]
  exact wrap_small (by omega)
/-- Is bit i set? -/
theorem bits_and_one {M : Nat} (hM : M < 2 ^ 20) (i : Nat) : Go.bits .and .i64 ((M / 2 ^ i : Nat) : Int) 1 = if M.testBit i then 1 else 0 := by
  have h2 : M / 2 ^ i ≤ M := Nat.div_le_self _ _
  have h3 : (M / 2 ^ i) &&& 1 = (M.testBit i).toNat := by
    rw [Nat.testBit_eq_decide_div_mod_eq, Nat.and_one_is_mod]
    have : M / 2 ^ i % 2 = 0 ∨ M / 2 ^ i % 2 = 1 := by omega
    rcases this with h | h <;> simp [h]
  show IntKind.i64.wrap ((BitVec.ofInt 64 ((M / 2 ^ i : Nat) : Int) &&& BitVec.ofInt 64 ((1 : Nat) : Int)).toNat : Int) = _
  rw [BitVec.toNat_and, ofInt_small (by omega), ofInt_small (by omega), h3]
  cases M.testBit i <;> rfl
set_option maxHeartbeats 1000000 in
set_option maxRecDepth 100000 in
theorem mask_any {B c : Nat} {A : Option Addr} {l : List Int} (w : World) (hA : Sees elInt w B A l.length l) (hl : ∀ x ∈ l, 0 ≤ x ∧ x < 20) (hn : l.length ≤ 1048576) :
    Calls Try.prog 98 #[.slice A l.length c] w fun e w' => e = .returned (.int .i64 ((maskN l : Nat) : Int)) ∧ w = w' := by
  have HL := hid hl
  have HB := hid (maskTo_lt hl)
  clear hl
  go_enter Try.func98, Try.ntmps98
  go_wp2
  go_loop [3, 4] (fun t i => ∃ (k M : Nat), k ≤ l.length ∧ i = .int .i64 k ∧ t = .int .i64 (M : Int) ∧ Hid (M = maskTo l k)) (fun _ i => l.length - (intOf i).toNat)
  case atStart => exact ⟨0, 0, Nat.zero_le _, rfl, rfl, rfl⟩
  case round =>
    obtain ⟨k, M, hk, rfl, rfl, hM⟩ := hrel
    by_cases hlt : k < l.length
    · obtain ⟨b, o, rfl, _, hc⟩ := hA.at_ hlt
      obtain ⟨x, hxk⟩ := get_of (k := k) rfl hlt
      have hx := HL.out x (List.mem_of_getElem? hxk)
      obtain ⟨j, rfl⟩ : ∃ j : Nat, x = (j : Int) := ⟨x.toNat, by omega⟩
      have e0 := hc k _ hxk 0 _ rfl
      simp only [elInt, Nat.mul_one, Nat.add_zero] at e0
      have hMb : M < 2 ^ 20 := by rw [hM.out]; exact HB.out k (by omega)
      have hj : (2 : Nat) ^ j < 2 ^ 20 := Nat.pow_lt_pow_right (by decide) (by omega)
      have HN : Hid (maskTo l (k + 1) = M ||| 2 ^ j) := by
        show maskTo l k ||| 2 ^ (l.getD k 0).toNat = _
        rw [getD_of hxk, ← hM.out]; simp
      have HO := hid (bits_or_n hMb hj)
      clear hc hxk hM
      have hw : wrap64 ((2 : Int) ^ j) = ((2 ^ j : Nat) : Int) := by
        have e : ((2 : Int) ^ j) = ((2 ^ j : Nat) : Int) := by simp
        rw [e]
        have h62 : 2 ^ j < 4611686018427387904 := Nat.lt_trans hj (by decide)
        generalize 2 ^ j = y at *
        exact IntWalk.wrap64_in _ (by omega)
      have HW := hid hw
      clear hw
      go_wp2
      exact ⟨⟨k + 1, M ||| 2 ^ j, by omega, by go_num, by rw [HW.out, HO.out], HN.out.symm⟩, by simp [intOf]; omega⟩
    · have hkl : k = l.length := by omega
      have HE : Hid (maskN l = M) := by rw [hM.out, hkl]; rfl
      clear hkl hM
      go_wp2
      go_ret
      exact ⟨by rw [HE.out]; rfl, rfl⟩
end Go.Proofs.Ytdnmkcalpfkfhaa
