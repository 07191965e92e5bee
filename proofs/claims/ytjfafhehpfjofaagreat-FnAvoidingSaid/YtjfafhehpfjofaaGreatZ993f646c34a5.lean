/- Lemmas and walks that the claim rests on, laid together. Conditions: none. -/
import Derived.Test.YtjfafhehpfjofaaGreatRows
import Derived.Test.YtjfafhehpfjofaaGreatZ864e83883b1b
import Derived.Test.YtjfafhehpfjofaaGreatZ0a7cb1c9072e
import Derived.Test.YtjfafhehpfjofaaGreatZed1f78547694
import Derived.Test.YtjfafhehpfjofaaGreatZ366dab748d14
import Derived.Deep.RegionHeld3
import Derived.Test.YtjfafhehpfjofaaGreatZ6bf9e9b909bb
import Derived.ArgAppend
import Derived.Lib.SliceRun
/- impl.groups: the risk groups of a network, walked. Conditions: none. -/
namespace Go.Proofs.YtjfafhehpfjofaaGreat
open Go.RowKit
variable {n c m d : Nat} {A A' : Option Addr} {xs : List ByteArray} {fs : List Fib}
/-- The rows of the risks 1 .. t that some fiber bears. -/
def rkRow (fs : List Fib) (t : Nat) : List Int := idsTo (fun j => riskF fs j == ((t : Int) + 1)) fs.length
def rkTo (fs : List Fib) (t : Nat) : List (List Int) := ((List.range t).map (rkRow fs)).filter fun l => !l.isEmpty
theorem rkTo_zero (fs : List Fib) : rkTo fs 0 = [] := rfl
theorem rkTo_no {t : Nat} (h : rkRow fs t = []) : rkTo fs (t + 1) = rkTo fs t := by simp [rkTo, List.range_succ, List.filter_append, h]
theorem rkTo_yes {t : Nat} (h : rkRow fs t ≠ []) : rkTo fs (t + 1) = rkTo fs t ++ [rkRow fs t] := by simp [rkTo, List.range_succ, List.filter_append, h]
theorem rkTo_len (fs : List Fib) (t : Nat) : (rkTo fs t).length ≤ t := by
  unfold rkTo
  exact Nat.le_trans (List.length_filter_le _ _) (by simp)
/-- The rows of the fibers without a risk. -/
def zrTo (fs : List Fib) (k : Nat) : List (List Int) := (idsTo (fun j => riskF fs j == 0) k).map fun x => [x]
theorem zrTo_zero (fs : List Fib) : zrTo fs 0 = [] := rfl
theorem zrTo_no {k : Nat} (h : (riskF fs k == 0) = false) : zrTo fs (k + 1) = zrTo fs k := by unfold zrTo; rw [idsTo_no h]
theorem zrTo_yes {k : Nat} (h : (riskF fs k == 0) = true) : zrTo fs (k + 1) = zrTo fs k ++ [[(k : Int)]] := by unfold zrTo; rw [idsTo_yes h]; simp
theorem zrTo_len (fs : List Fib) (k : Nat) : (zrTo fs k).length ≤ k := by unfold zrTo; rw [List.length_map]; exact idsTo_len _ _
/-- All risk groups. -/
def groupsL (fs : List Fib) : List (List Int) := rkTo fs 9 ++ zrTo fs fs.length
end Go.Proofs.YtjfafhehpfjofaaGreat
/- impl.fibersAt walked. Conditions: none. -/
namespace Go.Proofs.YtjfafhehpfjofaaGreat
open Go.RowKit
variable {n c m d : Nat} {A A' : Option Addr} {xs : List ByteArray} {fs : List Fib}
def touchesF (fs : List Fib) (v : Int) (j : Nat) : Bool := (fs.getD j ⟨0, 0, 0, 0⟩).a == v || (fs.getD j ⟨0, 0, 0, 0⟩).b == v
end Go.Proofs.YtjfafhehpfjofaaGreat
/- slices.IndexFunc and ContainsFunc over numbers, walked, at a closure that answers p. Conditions: none. -/
namespace Go.Proofs.YtjfafhehpfjofaaGreat
open Go.RowKit
/-- None of the first k passes p. -/
def noneP {α : Type} (p : α → Bool) (l : List α) (k : Nat) : Prop := ∀ j x, j < k → l[j]? = some x → p x = false
theorem noneP_zero {α : Type} (p : α → Bool) (l : List α) : noneP p l 0 := fun j _ hj => by omega
theorem noneP_succ {α : Type} {p : α → Bool} {l : List α} {k : Nat} {x : α} (h : noneP p l k) (hx : l[k]? = some x) (hp : p x = false) : noneP p l (k + 1) := by
  intro j y hj hy
  rcases Nat.lt_succ_iff_lt_or_eq.1 hj with hlt | rfl
  · exact h j y hlt hy
  · rw [hx] at hy; injection hy with hy; subst hy; exact hp
/-- The index of the first element that passes p, or -1. -/
def findPF {α : Type} (p : α → Bool) : List α → Nat → Int
  | [], _ => -1
  | y :: l, k => if p y then (k : Int) else findPF p l (k + 1)
def findP {α : Type} (p : α → Bool) (l : List α) : Int := findPF p l 0
theorem findPF_at {α : Type} {p : α → Bool} : ∀ {l : List α} {k0 k : Nat} {x : α}, l[k]? = some x → p x = true → noneP p l k → findPF p l k0 = ((k0 + k : Nat) : Int) := by
  intro l
  induction l with
  | nil => intro k0 k x h; simp at h
  | cons y l ih =>
    intro k0 k x h hp hn
    unfold findPF
    cases k with
    | zero => simp at h; rw [h, if_pos hp]; rfl
    | succ k =>
      rw [if_neg (by rw [hn 0 y (Nat.succ_pos _) (by simp)]; decide)]
      rw [ih (k := k) (by simpa using h) hp (fun j z hj hz => hn (j + 1) z (by omega) (by simpa using hz))]
      congr 1; omega
theorem findP_at {α : Type} {p : α → Bool} {l : List α} {k : Nat} {x : α} (h : noneP p l k) (hx : l[k]? = some x) (hp : p x = true) : findP p l = k := by
  have := findPF_at (k0 := 0) hx hp h
  simpa [findP] using this
theorem findPF_neg {α : Type} {p : α → Bool} : ∀ {l : List α} {k0 : Nat}, (0 ≤ findPF p l k0 ↔ l.any p = true) ∧ -1 ≤ findPF p l k0 := by
  intro l
  induction l with
  | nil => intro k0; simp [findPF]
  | cons y l ih =>
    intro k0
    unfold findPF
    by_cases h : p y = true
    · rw [if_pos h]; simp [h]
    · rw [if_neg h]; simp only [List.any_cons]; rw [show p y = false by simpa using h]; simpa using ih
theorem findP_ge {α : Type} {p : α → Bool} {l : List α} : 0 ≤ findP p l ↔ l.any p = true := findPF_neg.1
theorem findP_none {α : Type} {p : α → Bool} {l : List α} {n : Nat} (hl : l.length = n) (h : noneP p l n) : findP p l = -1 := by
  have h1 := findPF_neg (p := p) (l := l) (k0 := 0)
  have h2 : ¬ (l.any p = true) := by
    intro ha
    obtain ⟨x, hx, hp⟩ := List.any_eq_true.1 ha
    obtain ⟨i, hi, e⟩ := List.mem_iff_getElem.1 hx
    have := h i x (by omega) (by rw [List.getElem?_eq_getElem hi, e])
    rw [this] at hp; cases hp
  unfold findP
  have := h1.2
  have h3 : ¬ (0 ≤ findPF p l 0) := fun h => h2 (h1.1.1 h)
  omega
section
variable {B n c : Nat} {A : Option Addr} {xs : List Int} {F : FuncId} {cap : Array Value}
set_option maxRecDepth 100000 in
theorem indexFuncI_any (p : Int → Bool) (w : World) (hA : Sees elInt w B A n xs) (hn : n ≤ 1048576)
    (hcall : ∀ args wr, (callFunc F args).run Tryz.prog wr = .ok (.enter F args) wr)
    (hF : ∀ x w', x ∈ xs → Cls w w' → Calls Tryz.prog F (#[.int .i64 x] ++ cap) w' fun e w2 => e = .returned (.bool (p x)) ∧ Below w'.heap.size w' w2) :
    Calls Tryz.prog 65 #[.slice A n c, .func (.func F) #[] cap] w fun e w' => e = .returned (.int .i64 (findP p xs)) ∧ Below w.heap.size w w' := by
  have HF := hid hF
  clear hF
  go_enter Tryz.func65, Tryz.ntmps65
  go_wp2
  go_loopw [8] (fun i wr => ∃ k : Nat, k ≤ n ∧ i = .int .i64 k ∧ Hid (noneP p xs k) ∧ Below w.heap.size w wr) (fun i _ => n - (intOf i).toNat)
  case atStart => exact ⟨0, Nat.zero_le _, rfl, noneP_zero _ _, Below.refl _ _⟩
  case round =>
    obtain ⟨k, hk, rfl, hno, hb⟩ := hrel
    by_cases hlt : k < n
    · obtain ⟨b, o, rfl, _, hc⟩ := hA.at_ hlt
      obtain ⟨x, hxk⟩ : ∃ x, xs[k]? = some x := ⟨xs[k]'(by rw [hA.len]; exact hlt), List.getElem?_eq_getElem _⟩
      have hcx := bl_cell hb (hc k x hxk 0 _ rfl)
      simp only [elInt, Nat.mul_one, Nat.add_zero] at hcx
      have HC := hid (HF.out x wr (List.mem_of_getElem? hxk) hb)
      clear hc
      go_wp2_with fail
      refine HC.out.mono ?_
      rintro e w' ⟨rfl, hb2⟩
      have hbb : Below w.heap.size w w' := bl_then hb hb2
      clear HC hcx hb hb2
      by_cases hp : p x = true
      · have HR := hid (findP_at hno.out hxk hp)
        clear hno hxk
        rw [hp]
        go_wp2_with fail
        go_ret
        exact ⟨by rw [HR.out]; rfl, hbb⟩
      · have hp' : p x = false := by simpa using hp
        have HR := hid (noneP_succ hno.out hxk hp')
        clear hno hxk
        rw [hp']
        go_wp2_with fail
        exact ⟨⟨k + 1, by omega, by go_num, HR, hbb⟩, by simp [intOf]; omega⟩
    · have HN := hid (findP_none (p := p) hA.len (by obtain rfl : k = n := (by omega); exact hno.out))
      clear hno
      go_wp2
      go_ret
      exact ⟨by rw [HN.out]; rfl, hb⟩
set_option maxRecDepth 100000 in
theorem containsFuncI_any (p : Int → Bool) (w : World) (hA : Sees elInt w B A n xs) (hn : n ≤ 1048576)
    (hcall : ∀ args wr, (callFunc F args).run Tryz.prog wr = .ok (.enter F args) wr)
    (hF : ∀ x w', x ∈ xs → Cls w w' → Calls Tryz.prog F (#[.int .i64 x] ++ cap) w' fun e w2 => e = .returned (.bool (p x)) ∧ Below w'.heap.size w' w2) :
    Calls Tryz.prog 37 #[.slice A n c, .func (.func F) #[] cap] w fun e w' => e = .returned (.bool (xs.any p)) ∧ Below w.heap.size w w' := by
  have HC := hid (indexFuncI_any (c := c) p w hA hn hcall hF)
  have H : Hid (decide (0 ≤ findP p xs) = xs.any p) := by
    unfold Hid
    cases g : xs.any p
    · exact decide_eq_false (fun h => by have := findP_ge.1 h; rw [g] at this; cases this)
    · exact decide_eq_true (findP_ge.2 g)
  clear hcall hF hA
  go_enter Tryz.func37, Tryz.ntmps37
  go_wp2_with fail
  refine HC.out.mono ?_
  rintro e w' ⟨rfl, hb⟩
  go_wp2_with fail
  go_ret
  exact ⟨by rw [← H.out]; rfl, hb⟩
end
end Go.Proofs.YtjfafhehpfjofaaGreat
/- impl.isNode walked, at any world. Conditions: none. -/
namespace Go.Proofs.YtjfafhehpfjofaaGreat
open Go.RowKit
variable {n c m d : Nat} {A A' : Option Addr} {xs : List ByteArray} {fs : List Fib}
set_option maxRecDepth 100000 in
theorem isNodeC (x : Int) (w : World) (g : Nat) (a a' : Value) (hn : a = .slice A n c) (hg : Blk w g 27 #[a, a']) (hle : n ≤ 1048576) :
    Calls Tryz.prog 38 #[.int .i64 x, .pointer (some ⟨g, 0, none⟩)] w fun e w' => e = .returned (.bool (!inB 0 ((n : Int) - 1) x)) ∧ Below w.heap.size w w' := by
  subst hn
  have q0 := hg.cell 0
  simp at q0
  go_enter Tryz.func38, Tryz.ntmps38
  go_wp2_with fail
  refine (within_any _ _ _ _).mono ?_
  rintro e w2 ⟨rfl, rfl⟩
  go_wp2_with fail
  go_ret
  exact ⟨rfl, Below.refl _ _⟩
/-- Every number of the list is a node's. -/
def nodesB (n : Nat) (vs : List Int) : Bool := !(vs.any fun x => !inB 0 ((n : Int) - 1) x)
set_option maxRecDepth 100000 in
theorem isNode_any {B k c' : Nat} {V : Option Addr} {vs : List Int} (w : World) (h : NetIs w A n c A' m d xs fs) (hv : Sees elInt w B V k vs) (hk : k ≤ 1048576) :
    Calls Tryz.prog 15 #[.agg #[.slice A n c, .slice A' m d], .slice V k c'] w fun e w' => e = .returned (.bool (goodB xs fs && nodesB n vs)) ∧ Below w.heap.size w w' := by
  have hb0 := bl_alloc (Below.refl w.heap.size w) (.cells #[.slice A n c, .slice A' m d] 27)
  have hx0 : Blk (w.alloc (.cells #[.slice A n c, .slice A' m d] 27)) w.heap.size 27 #[.slice A n c, .slice A' m d] := Blk.new _ _ _
  have h0 := h.grow hb0
  have hle := h.nle
  have hv0 := hv.grow hb0
  cases g : goodB xs fs
  · clear hv0
    go_enter Tryz.func15, Tryz.ntmps15
    go_wp2_with fail
    refine (validN _ h0).mono ?_
    rintro e w2 ⟨rfl, hb2⟩
    rw [g]
    go_wp2_with fail
    go_ret
    exact ⟨rfl, bl_then hb0 hb2⟩
  · go_enter Tryz.func15, Tryz.ntmps15
    go_wp2_with fail
    refine (validN _ h0).mono ?_
    rintro e w2 ⟨rfl, hb2⟩
    rw [g]
    have hx2 := hx0.below hb2 hx0.lt
    have hv2 := hv0.grow hb2
    clear hx0 hv0 hv
    go_wp2_with fail
    refine (containsFuncI_any (cap := #[.pointer (some ⟨w.heap.size, 0, none⟩)]) (fun x => !inB 0 ((n : Int) - 1) x) _ hv2 hk (fun _ _ => by rfl) (fun x w' _ hw' => isNodeC x w' w.heap.size _ _ rfl (hx2.below hw' hx2.lt) hle)).mono ?_
    rintro e w3 ⟨rfl, hb3⟩
    go_wp2_with fail
    go_ret
    exact ⟨rfl, bl_then (bl_then hb0 hb2) hb3⟩
end Go.Proofs.YtjfafhehpfjofaaGreat
/- impl.FibersAt and spec.FibersAt walked. Conditions: none. -/
namespace Go.Proofs.YtjfafhehpfjofaaGreat
open Go.RowKit
variable {n c m d : Nat} {A A' : Option Addr} {xs : List ByteArray} {fs : List Fib}
/-- What the reference asks of fiber j. -/
def endsF (fs : List Fib) (v : Int) (j : Nat) : Bool := decide (0 ≤ otherF (fs.getD j ⟨0, 0, 0, 0⟩) v)
theorem ends_eq {v : Int} (hg : goodB xs fs = true) {j : Nat} (hj : j < fs.length) : endsF fs v j = touchesF fs v j := by
  obtain ⟨f, hf⟩ := get_of (k := j) rfl hj
  have hb := goodB_fibB hg (List.mem_of_getElem? hf)
  unfold endsF touchesF
  rw [getD_of hf]
  unfold fibB at hb
  simp at hb
  unfold otherF
  by_cases h1 : v = f.a
  · rw [if_pos h1]; simp [h1]; omega
  · rw [if_neg h1]
    by_cases h2 : v = f.b
    · rw [if_pos h2]; simp [h2]; omega
    · rw [if_neg h2]
      have e1 : (f.a == v) = false := by simp; omega
      have e2 : (f.b == v) = false := by simp; omega
      rw [e1, e2]; rfl
def faB (xs : List ByteArray) (fs : List Fib) (v : Int) : Bool := goodB xs fs && inB 0 ((xs.length : Int) - 1) v
def faI (xs : List ByteArray) (fs : List Fib) (v : Int) : List Int := if faB xs fs v then idsTo (touchesF fs v) fs.length else []
theorem faI_ends {v : Int} (hg : goodB xs fs = true) (h : faB xs fs v = true) : faI xs fs v = idsTo (endsF fs v) fs.length := by
  unfold faI; rw [if_pos h]; exact idsTo_congr (fun j hj => (ends_eq hg hj).symm)
theorem faI_len (v : Int) : (faI xs fs v).length ≤ fs.length := by unfold faI; split; exact idsTo_len _ _; exact Nat.zero_le _
theorem nodesB_one (x : Int) : nodesB n [x] = inB 0 ((n : Int) - 1) x := by simp [nodesB]
theorem sees_one (w : World) (x : Int) (t : TypeId) : Sees elInt (w.alloc (.cells #[.int .i64 x] t)) (w.heap.size + 1) (some ⟨w.heap.size, 0, none⟩) 1 [x] := by
  refine ⟨rfl, .inr ⟨_, _, rfl, Nat.lt_succ_self _, fun k y hy j u hu => ?_⟩⟩
  match k, hy with
  | 0, hy =>
    simp at hy; subst hy
    match j, hu with
    | 0, hu => simp [elInt] at hu; subst hu; simp [elInt]
end Go.Proofs.YtjfafhehpfjofaaGreat
/- Bridges, cut nodes, critical groups, in plain Lean. Conditions: none. -/
namespace Go.Proofs.YtjfafhehpfjofaaGreat
open Go.RowKit
theorem Owns.splitg {α : Type} {E : El α} {w : World} {base n : Nat} {e : TypeId} {v : Value} {xs : List α} (h : Owns E w base e v xs) (hl : xs.length = n) (hn : 0 < n) : ∃ g c, v = .slice (some ⟨g, 0, none⟩) n c := by
  subst hl
  rcases Owns.cases h with ⟨_, h0⟩ | ⟨g, c, cur, hv, _⟩
  · rw [h0] at hn; simp at hn
  · exact ⟨g, c, hv⟩
section
variable {n : Nat} {xs : List ByteArray} {fs : List Fib} {l : List Int} {X Y : List Int} {s : Int}
/-- Fiber i is a bridge. -/
def brF (fs : List Fib) (n i : Nat) : Bool := !(valL (compL (goneF [(i : Int)]) fs n) (fibD fs i).a.toNat == valL (compL (goneF [(i : Int)]) fs n) (fibD fs i).b.toNat)
def brL (xs : List ByteArray) (fs : List Fib) : List Int := if goodB xs fs then idsTo (brF fs xs.length) fs.length else []
theorem brL_len : (brL xs fs).length ≤ 14 := by
  unfold brL
  cases g : goodB xs fs
  · simp
  · have h := goodB_bd g
    have h2 := idsTo_len (brF fs xs.length) fs.length
    simp; omega
theorem bit_one (i : Nat) : compL (fun j => (2 ^ i).testBit j) fs n = compL (goneF [(i : Int)]) fs n := compL_congr fun j _ => by
  rw [Nat.testBit_two_pow]
  unfold goneF
  rw [Bool.eq_iff_iff, hasB_iff, decide_eq_true_eq, List.mem_singleton]
  omega
/-- Two nodes that are told apart by Y and not by X, none of them s. -/
def sepP (X Y : List Int) (s : Int) (a b : Nat) : Bool := (!((a : Int) == s) && !((b : Int) == s)) && ((valL X a == valL X b) && !(valL Y a == valL Y b))
theorem sepP_symm {a b : Nat} : sepP X Y s a b = sepP X Y s b a := by
  unfold sepP
  rw [Bool.and_comm (!((a : Int) == s)), show (valL X a == valL X b) = (valL X b == valL X a) from Bool.beq_comm, show (valL Y a == valL Y b) = (valL Y b == valL Y a) from Bool.beq_comm]
def sepB (n : Nat) (X Y : List Int) (s : Int) : Bool := !(allB (fun a => allB (fun b => !sepP X Y s a b) a) n)
def splB (n : Nat) (X Y : List Int) (s : Int) : Bool := !(allB (fun a => allB (fun i => !sepP X Y s a (a + 1 + i)) (n - (a + 1))) n)
theorem splB_eq : splB n X Y s = sepB n X Y s := by
  unfold splB sepB
  congr 1
  rw [Bool.eq_iff_iff, allB_iff, allB_iff]
  constructor
  · intro h a ha
    rw [allB_iff]
    intro b hb
    have h1 : (!sepP X Y s b (b + 1 + (a - (b + 1)))) = true := allB_iff.1 (h b (by omega)) (a - (b + 1)) (by omega)
    rw [show b + 1 + (a - (b + 1)) = a by omega] at h1
    show (!sepP X Y s a b) = true
    rw [sepP_symm]; exact h1
  · intro h a ha
    rw [allB_iff]
    intro i hi
    have h1 : (!sepP X Y s (a + 1 + i) a) = true := allB_iff.1 (h (a + 1 + i) (by omega)) a (by omega)
    show (!sepP X Y s a (a + 1 + i)) = true
    rw [sepP_symm]; exact h1
theorem sepB_yes {a b : Nat} (ha : a < n) (hb : b < a) (h : sepP X Y s a b = true) : sepB n X Y s = true := by
  have h1 : allB (fun b => !sepP X Y s a b) a = false := allB_no hb (by show (!sepP X Y s a b) = false; rw [h]; rfl)
  unfold sepB
  rw [allB_no (p := fun a => allB (fun b => !sepP X Y s a b) a) ha h1]; rfl
theorem splB_yes {a b : Nat} (hb : b < n) (ha : a < b) (h : sepP X Y s a b = true) : splB n X Y s = true := by
  rw [splB_eq]; exact sepB_yes hb ha (by rw [sepP_symm]; exact h)
/-- A node whose loss parts others. -/
def cnF (fs : List Fib) (n v : Nat) : Bool := sepB n (compL (goneF []) fs n) (compL (goneF (idsTo (touchesF fs v) fs.length)) fs n) v
def cnL (xs : List ByteArray) (fs : List Fib) : List Int := if goodB xs fs then idsTo (cnF fs xs.length) xs.length else []
theorem cnL_len : (cnL xs fs).length ≤ 8 := by
  unfold cnL
  cases g : goodB xs fs
  · simp
  · have h := goodB_bd g
    have h2 := idsTo_len (cnF fs xs.length) xs.length
    simp; omega
/-- A group whose loss parts others. -/
def cgF (fs : List Fib) (n i : Nat) : Bool := sepB n (compL (goneF []) fs n) (compL (goneF ((groupsL fs).getD i [])) fs n) (-1)
def cgL (xs : List ByteArray) (fs : List Fib) : List Int := if goodB xs fs then idsTo (cgF fs xs.length) (groupsL fs).length else []
end
end Go.Proofs.YtjfafhehpfjofaaGreat
/- separates, l6Splits: whether two nodes are parted, walked. Conditions: the fibers' ends are nodes; 2 nodes at least; at most 20 fibers. -/
namespace Go.Proofs.YtjfafhehpfjofaaGreat
open Go.RowKit
theorem sepP_eq {X Y : List Int} {s : Int} {a b : Nat} : sepP X Y s a b = ((!((a : Int) == s) && !((b : Int) == s)) && ((valL X a == valL X b) && !(valL Y a == valL Y b))) := rfl
section
variable {n c m d k c' : Nat} {A A' G : Option Addr} {xs : List ByteArray} {fs : List Fib} {l : List Int} {s : Int}
end
end Go.Proofs.YtjfafhehpfjofaaGreat
/- CutNodes of both sides, walked. Conditions: none. -/
namespace Go.Proofs.YtjfafhehpfjofaaGreat
open Go.RowKit
theorem calls_bool {P : Program} {f : FuncId} {args : Array Value} {w : World} {b b' : Bool} (h : Calls P f args w fun e w' => e = .returned (.bool b) ∧ Below w.heap.size w w') (e : b = b') : Calls P f args w fun e w' => e = .returned (.bool b') ∧ Below w.heap.size w w' := by subst e; exact h
/-- What walks of these chapters ask of a network. -/
theorem good_parts {n c m d : Nat} {A A' : Option Addr} {xs : List ByteArray} {fs : List Fib} {w : World} (h : NetIs w A n c A' m d xs fs) (g : goodB xs fs = true) : endsB n fs ∧ 0 < n ∧ n ≤ 8 ∧ m ≤ 14 := by
  have he := goodB_ends g
  rw [h.xlen] at he
  have h1 := goodB_bd g
  have h2 := h.xlen
  have h3 := h.flen
  exact ⟨he, by omega, by omega, by omega⟩
theorem idsTo_range {p : Nat → Bool} {k : Nat} : ∀ x ∈ idsTo p k, 0 ≤ x ∧ x < k := fun x hx => by
  unfold idsTo at hx
  obtain ⟨j, hj, rfl⟩ := List.mem_map.1 hx
  have := (List.mem_filter.1 hj).1
  simp at this; omega
theorem maskN_comp {n : Nat} {fs : List Fib} {l : List Int} (h : ∀ x ∈ l, 0 ≤ x) : compL (fun i => (maskN l).testBit i) fs n = compL (goneF l) fs n := compL_congr fun i _ => maskN_bit h i
section
variable {n c m d : Nat} {A A' : Option Addr} {xs : List ByteArray} {fs : List Fib}
end
end Go.Proofs.YtjfafhehpfjofaaGreat
/- l1Own of the reference, walked. Conditions: none. -/
namespace Go.Proofs.YtjfafhehpfjofaaGreat
open Go.RowKit
theorem l1Own_any {B n c : Nat} {A : Option Addr} {xs : List Int} (w : World) (hA : Sees elInt w B A n xs) (hn : n ≤ 1048576) :
    Calls Tryz.prog 77 #[.slice A n c] w fun e w' => ∃ v, e = .returned v ∧ Owns elInt w' w.heap.size 3 v xs ∧ Below w.heap.size w w' := by
  obtain ⟨i0, hi, hz0, hz1, hz2⟩ := info_parts int_info
  have hS := (Led.nil w).empty elInt 3 w.heap.size rfl w.heap.size (Nat.le_refl _)
  go_enter Tryz.func77, Tryz.ntmps77
  go_wp2_with (first
    | (at_builtin; refine wpList_append_led rfl _ _ 28 rfl hS 0 rfl Tryz.underlying28 hi hz0 hz1 (by rw [hz2]; decide) rfl rfl rfl (hA.grow hS.bl) (by simp; omega) (by simp) ?_)
    | go_in)
  intro A' c' w1 hS1
  go_wp2
  go_ret
  exact ⟨_, rfl, hS1.own 0 rfl, hS1.bl⟩
end Go.Proofs.YtjfafhehpfjofaaGreat
/- Choices of so many numbers, in plain Lean: the first list for which something holds, in two spellings. Conditions: none. -/
namespace Go.Proofs.YtjfafhehpfjofaaGreat
/-- The first of f k, f (k + 1), .. (r of them) that is there. -/
def firstO {α : Type} (f : Nat → Option α) (k : Nat) : Nat → Option α
  | 0 => none
  | r + 1 => match f k with
    | some x => some x
    | none => firstO f (k + 1) r
section
variable {α : Type} {f g : Nat → Option α} {k r : Nat}
theorem firstO_zero : firstO f k 0 = none := rfl
theorem firstO_some {x : α} (h : f k = some x) : firstO f k (r + 1) = some x := by unfold firstO; rw [h]
theorem firstO_none (h : f k = none) : firstO f k (r + 1) = firstO f (k + 1) r := by
  show (match f k with | some x => some x | none => firstO f (k + 1) r) = _
  rw [h]
theorem firstO_congr (h : ∀ i, k ≤ i → i < k + r → f i = g i) : firstO f k r = firstO g k r := by
  induction r generalizing k with
  | zero => rfl
  | succ r ih =>
    have h0 := h k (Nat.le_refl _) (by omega)
    have h1 := ih (k := k + 1) (fun i h1 h2 => h i (by omega) (by omega))
    cases hf : f k with
    | some x => rw [firstO_some hf, firstO_some (h0 ▸ hf)]
    | none => rw [firstO_none hf, firstO_none (h0 ▸ hf), h1]
theorem firstO_all (h : ∀ i, k ≤ i → i < k + r → f i = none) : firstO f k r = none := by
  induction r generalizing k with
  | zero => rfl
  | succ r ih => rw [firstO_none (h k (Nat.le_refl _) (by omega))]; exact ih fun i h1 h2 => h i (by omega) (by omega)
/-- Behind the first q there is none. -/
theorem firstO_short {q : Nat} (h : ∀ i, k + q ≤ i → i < k + r → f i = none) (hq : q ≤ r) : firstO f k r = firstO f k q := by
  induction r generalizing k q with
  | zero => rw [show q = 0 by omega]
  | succ r ih =>
    cases q with
    | zero => rw [firstO_all (fun i h1 h2 => h i (by omega) (by omega))]; rfl
    | succ q =>
      cases hf : f k with
      | some x => rw [firstO_some hf, firstO_some hf]
      | none => rw [firstO_none hf, firstO_none hf]; exact ih (fun i h1 h2 => h i (by omega) (by omega)) (by omega)
theorem firstO_map {β : Type} {u : α → β} : firstO (fun i => (f i).map u) k r = (firstO f k r).map u := by
  induction r generalizing k with
  | zero => rfl
  | succ r ih =>
    cases hf : f k with
    | some x => rw [firstO_some hf, firstO_some (x := u x) (by rw [hf]; rfl)]; rfl
    | none => rw [firstO_none hf, firstO_none (by rw [hf]; rfl), ih]
/-- The last one, if there is none before. -/
theorem firstO_last : firstO f k (r + 1) = match firstO f k r with | some x => some x | none => f (k + r) := by
  induction r generalizing k with
  | zero =>
    cases hf : f k with
    | some x => rw [firstO_some hf]; rfl
    | none => rw [firstO_none hf]; rfl
  | succ r ih =>
    cases hf : f k with
    | some x => rw [firstO_some hf, firstO_some hf]
    | none => rw [firstO_none hf, firstO_none hf, ih, show k + 1 + r = k + (r + 1) by omega]
end
/-- The program's: the list so far stands ahead. -/
def chooseL (p : List Int → Bool) (n : Nat) : Nat → Nat → List Int → Option (List Int)
  | 0, _, L => if p L then some L else none
  | c + 1, s, L => firstO (fun k => chooseL p n c (k + 1) (L ++ [(k : Int)])) s (n - s)
/-- The reference's: the rest of the list alone; a set is a number. -/
def chooseS (q : Nat → Bool) (S : Nat → Nat) (n : Nat) : Nat → Nat → Nat → Option (List Int)
  | 0, _, M => if q M then some [] else none
  | c + 1, s, M => firstO (fun i => (chooseS q S n c (i + 1) (M ||| S i)).map fun R => (i : Int) :: R) s (n - c - s)
/-- The sets of a list. -/
def unionS (S : Nat → Nat) (L : List Int) : Nat := L.foldl (fun M x => M ||| S x.toNat) 0
theorem unionS_nil (S : Nat → Nat) : unionS S [] = 0 := rfl
theorem unionS_add (S : Nat → Nat) (L : List Int) (k : Nat) : unionS S (L ++ [(k : Int)]) = unionS S L ||| S k := by simp [unionS]
section
variable {p : List Int → Bool} {q : Nat → Bool} {S : Nat → Nat} {n : Nat}
theorem chooseL_few : ∀ (c s : Nat) (L : List Int), n - s < c → chooseL p n c s L = none := by
  intro c
  induction c with
  | zero => intro s L h; omega
  | succ c ih =>
    intro s L h
    exact firstO_all fun i h1 h2 => ih _ _ (by omega)
/-- Numbers below n. -/
def lowL (n : Nat) (L : List Int) : Prop := ∀ x ∈ L, 0 ≤ x ∧ x < n
theorem lowL_add {L : List Int} {k : Nat} (h : lowL n L) (hk : k < n) : lowL n (L ++ [(k : Int)]) := by
  intro x hx
  rcases List.mem_append.1 hx with h1 | h1
  · exact h x h1
  · rw [List.mem_singleton] at h1; omega
theorem chooseL_eq (hp : ∀ L, lowL n L → p L = q (unionS S L)) : ∀ (c s : Nat) (L : List Int), lowL n L → chooseL p n c s L = (chooseS q S n c s (unionS S L)).map fun R => L ++ R := by
  intro c
  induction c with
  | zero =>
    intro s L hL
    show (if p L then some L else none) = (if q (unionS S L) then some [] else none).map _
    rw [hp L hL]
    cases q (unionS S L) <;> simp
  | succ c ih =>
    intro s L hL
    show firstO (fun k => chooseL p n c (k + 1) (L ++ [(k : Int)])) s (n - s) = (firstO _ s (n - c - s)).map _
    rw [firstO_short (q := n - c - s) (fun i h1 h2 => chooseL_few _ _ _ (by omega)) (by omega), ← firstO_map]
    refine firstO_congr fun i h1 h2 => ?_
    rw [ih _ _ (lowL_add hL (by omega)), unionS_add, Option.map_map]
    congr 1
    funext R
    simp
/-- All from s on. -/
def fromL (n s : Nat) : List Int := (List.range' s (n - s)).map fun (j : Nat) => (j : Int)
theorem fromL_cons {s : Nat} (h : s < n) : fromL n s = (s : Int) :: fromL n (s + 1) := by
  unfold fromL
  rw [show n - s = (n - (s + 1)) + 1 by omega, List.range'_succ]; rfl
theorem chooseL_whole : ∀ (c s : Nat) (L : List Int), s + c = n → p (L ++ fromL n s) = true → chooseL p n c s L = some (L ++ fromL n s) := by
  intro c
  induction c with
  | zero =>
    intro s L hs h
    have e : fromL n s = [] := by unfold fromL; rw [show n - s = 0 by omega]; rfl
    rw [e, List.append_nil] at h ⊢
    show (if p L then some L else none) = _
    rw [h]; rfl
  | succ c ih =>
    intro s L hs h
    rw [fromL_cons (by omega), List.append_cons] at h ⊢
    have h1 := ih (s + 1) (L ++ [(s : Int)]) (by omega) h
    show firstO _ s (n - s) = _
    rw [show n - s = (n - s - 1) + 1 by omega]
    exact firstO_some h1
/-- The program's first list of the fewest. -/
def fewL (p : List Int → Bool) (n : Nat) : Option (List Int) := firstO (fun c => chooseL p n c 0 []) 0 (n + 1)
/-- The reference's. -/
def cutS (q : Nat → Bool) (S : Nat → Nat) (n : Nat) : List Int := (firstO (fun c => chooseS q S n c 0 0) 0 n).getD (fromL n 0)
theorem fewL_eq (hp : ∀ L, lowL n L → p L = q (unionS S L)) (hall : p (fromL n 0) = true) : fewL p n = some (cutS q S n) := by
  have h0 : lowL n ([] : List Int) := fun x hx => by cases hx
  have hc : ∀ c, chooseL p n c 0 [] = chooseS q S n c 0 0 := fun c => by
    rw [chooseL_eq hp c 0 [] h0, unionS_nil]
    cases chooseS q S n c 0 0 <;> simp
  unfold fewL cutS
  rw [firstO_last]
  rw [firstO_congr (f := fun c => chooseL p n c 0 []) (g := fun c => chooseS q S n c 0 0) (fun i _ _ => hc i)]
  cases firstO (fun c => chooseS q S n c 0 0) 0 n with
  | some x => rfl
  | none =>
    show chooseL p n (0 + n) 0 [] = some (fromL n 0)
    rw [Nat.zero_add, chooseL_whole n 0 [] (by omega) (by simpa using hall)]; simp
/-- What is found is a list of numbers below n. -/
theorem chooseL_low : ∀ (c s : Nat) (L R : List Int), lowL n L → chooseL p n c s L = some R → lowL n R ∧ R.length = L.length + c ∧ p R = true := by
  intro c
  induction c with
  | zero =>
    intro s L R hL h
    have h : (if p L then some L else none) = some R := h
    split at h
    · rename_i hpL
      injection h with h; subst h; exact ⟨hL, rfl, hpL⟩
    · cases h
  | succ c ih =>
    intro s L R hL h
    have h : firstO (fun k => chooseL p n c (k + 1) (L ++ [(k : Int)])) s (n - s) = some R := h
    have key : ∀ r k, k + r ≤ n → firstO (fun k => chooseL p n c (k + 1) (L ++ [(k : Int)])) k r = some R → lowL n R ∧ R.length = L.length + (c + 1) ∧ p R = true := by
      intro r
      induction r with
      | zero => intro k _ h; cases h
      | succ r ihr =>
        intro k hk h
        cases hf : chooseL p n c (k + 1) (L ++ [(k : Int)]) with
        | some x =>
          rw [firstO_some hf] at h
          injection h with h; subst h
          have := ih _ _ _ (lowL_add hL (by omega)) hf
          simp at this
          exact ⟨this.1, by omega, this.2.2⟩
        | none => rw [firstO_none hf] at h; exact ihr (k + 1) (by omega) h
    rcases Nat.lt_or_ge n s with h1 | h1
    · rw [show n - s = 0 by omega] at h; cases h
    · exact key _ _ (by omega) h
theorem fewL_low {R : List Int} (h : fewL p n = some R) : lowL n R ∧ R.length ≤ n ∧ p R = true := by
  have h0 : lowL n ([] : List Int) := fun x hx => by cases hx
  unfold fewL at h
  have key : ∀ r k, k + r ≤ n + 1 → firstO (fun c => chooseL p n c 0 []) k r = some R → lowL n R ∧ R.length ≤ n ∧ p R = true := by
    intro r
    induction r with
    | zero => intro k _ h; cases h
    | succ r ihr =>
      intro k hk h
      cases hf : chooseL p n k 0 [] with
      | some x =>
        rw [firstO_some hf] at h
        injection h with h; subst h
        have := chooseL_low _ _ _ _ h0 hf
        simp at this
        exact ⟨this.1, by omega, this.2.2⟩
      | none => rw [firstO_none hf] at h; exact ihr (k + 1) (by omega) h
  exact key _ _ (by omega) h
end
end Go.Proofs.YtjfafhehpfjofaaGreat
/- choices, fewest: the first list of the fewest numbers for which something holds, walked over whatever function asks. Conditions: as each states. -/
namespace Go.Proofs.YtjfafhehpfjofaaGreat
open Go.RowKit
/-- The cells behind a slice's address. -/
theorem sees_cells {α : Type} {E : El α} {w : World} {B n : Nat} {ad : Addr} {ys : List α} (hy : Sees E w B (some ad) n ys) : ∀ j u, (ys.flatMap E.cells)[j]? = some u → w.cell? (ad.add j) = some u := by
  intro j u hj
  have hyl := hy.len
  rcases hy.2 with h | ⟨b, o, h, _, hc⟩
  · subst h
    rw [List.eq_nil_of_length_eq_zero hyl] at hj; simp at hj
  · injection h with h; subst h
    have hpos := E.pos
    have hjl : j < ys.length * E.sz := by rw [← flat_len]; exact (List.getElem?_eq_some_iff.1 hj).1
    have hk : j / E.sz < ys.length := (Nat.div_lt_iff_lt_mul hpos).2 hjl
    obtain ⟨y, hyk⟩ : ∃ y, ys[j / E.sz]? = some y := ⟨ys[j / E.sz], List.getElem?_eq_getElem hk⟩
    have hm : j % E.sz < (E.cells y).length := by rw [E.len]; exact Nat.mod_lt _ hpos
    have h1 := hc (j / E.sz) y hyk (j % E.sz) _ (List.getElem?_eq_getElem hm)
    have h2 := flat_get E ys (j / E.sz) y hyk (j % E.sz) _ (List.getElem?_eq_getElem hm)
    have e1 : j / E.sz * E.sz + j % E.sz = j := by rw [Nat.mul_comm]; exact Nat.div_add_mod j E.sz
    rw [e1] at h2
    rw [hj] at h2
    injection h2 with h2
    rw [← h2] at h1
    have e2 : o + j / E.sz * E.sz + j % E.sz = o + j := by omega
    rw [e2] at h1
    rw [← h1]
    unfold Addr.add
    split
    · rename_i h0; rw [h0, Nat.add_zero]
    · rfl
/-- append onto a slice without room, whose it may be. -/
theorem wpList_append_full {w : World} {ops : Array Oper} {rest : List Oper} {o : Oper} {a : Act} {Q : Exit → Act → World → Prop} (hgd : o.guard = none) (s x : Operand)
    (ho : o.op = Op.call { callee := Callee.builtin Builtin.append, args := #[s, x], argTypes := #[28, 28] }) {B C n c : Nat} {A X : Option Addr} {xs : List Int} {y : Int}
    (hs : a.eval s = .slice A n n) (hA : Sees elInt w B A n xs) (hx : a.eval x = .slice X 1 c) (hX : Sees elInt w C X 1 [y]) (hn : n ≤ 1048576)
    (h : ∀ v' w', Owns elInt w' w.heap.size 3 v' (xs ++ [y]) → Below w.heap.size w w' → wpList Tryz.prog ops Q rest (a.put o.dst v') w') : wpList Tryz.prog ops Q (o :: rest) a w := by
  obtain ⟨i0, hi, hz0, hz1, hz2⟩ := info_parts int_info
  have hlen := hA.len
  obtain ⟨b', o', rfl, _, _⟩ := hX.at_ (k := 0) (by decide)
  refine wpList_append_grows w hgd s x 28 ho 3 i0 (.int .i64 0) 1 8 Tryz.underlying28 hi hz0 hz1 hz2 rfl (by decide) A n n (xs.flatMap elInt.cells) hs (fun e => ?_) (by rw [flat_len, hlen]; rfl) (fun b e => ?_) ⟨b', o', none⟩ 1 c ([y].flatMap elInt.cells) hx rfl (sees_cells hX) (fun u hu => ?_) (by omega) (by unfold maxLen; omega) (by omega) (fun v' w' h1 h2 => h v' w' ?_ ?_)
  · rcases hA.2 with h0 | ⟨b, o, h0, _⟩
    · exact ⟨h0, h0⟩
    · rw [e] at h0; cases h0
  · subst e; exact sees_cells hA
  · obtain ⟨z, _, h2⟩ := List.mem_flatMap.1 hu
    exact elInt.one z u h2
  · unfold Owns
    rw [List.length_append, hlen, List.flatMap_append]
    exact h1
  · exact ⟨h2.os, h2.tape, h2.output, h2.size, fun k hk => h2.block k hk (fun e => by cases e)⟩
/-- A slice whose block is not the one that may have turned. -/
theorem Sees.apart {α : Type} {E : El α} {w w' : World} {B n g : Nat} {A : Option Addr} {xs : List α} (h : Sees E w B A n xs) (t : Touch (fun b => b = g) w w') (hne : ∀ b o, A = some ⟨b, o, none⟩ → b ≠ g) : Sees E w' w'.heap.size A n xs := by
  refine ⟨h.1, ?_⟩
  rcases h.2 with h0 | ⟨b, o, rfl, hb, hc⟩
  · exact .inl h0
  · rcases Nat.eq_zero_or_pos n with h0 | h0
    · exact .inl h0
    · have hk : ∀ k x, xs[k]? = some x → ∀ j u, (E.cells x)[j]? = some u → w'.cell? ⟨b, o + k * E.sz + j, none⟩ = some u := fun k x hx j u hu => by
        have h1 := hc k x hx j u hu
        exact (World.cell?_of_block (a := ⟨b, _, none⟩) (t.block b (World.block_lt_of_cell? w _ h1) (hne b o rfl))).trans h1
      obtain ⟨x, hx⟩ : ∃ x, xs[0]? = some x := ⟨xs[0]'(by rw [h.1]; exact h0), List.getElem?_eq_getElem _⟩
      have hj : 0 < (E.cells x).length := by rw [E.len]; exact E.pos
      exact .inr ⟨b, o, rfl, World.block_lt_of_cell? w' _ (hk 0 x hx 0 _ (List.getElem?_eq_getElem hj)), hk⟩
/-- What a visiting function does: it answers p, keeps I, and leaves what it was shown in the box gb. -/
structure Visit (n : Nat) (p : List Int → Bool) (gb : Nat) (I : World → Prop) (O : List Int → World → Prop) (F : FuncId) (cap : Array Value) : Prop where
  enter : ∀ args wr, (callFunc F args).run Tryz.prog wr = .ok (.enter F args) wr
  grow : ∀ w w', I w → Below w.heap.size w w' → I w'
  far : ∀ w, I w → gb < w.heap.size
  call : ∀ (w : World) (L : List Int) (A : Option Addr) (c : Nat), I w → Sees elInt w w.heap.size A L.length L → (∀ b o, A = some ⟨b, o, none⟩ → b ≠ gb) → lowL n L → L.length ≤ n → L.length ≤ c →
    Calls Tryz.prog F (#[.slice A L.length c] ++ cap) w fun e w' => e = .returned (.bool (p L)) ∧ I w' ∧ O L w' ∧ Touch (fun b => b = gb) w w'
section
variable {n : Nat} {p : List Int → Bool} {gb : Nat} {I : World → Prop} {O : List Int → World → Prop} {F : FuncId} {cap : Array Value}
end
end Go.Proofs.YtjfafhehpfjofaaGreat
/- slices.Clone at numbers, walked. Conditions: at most 1048576 numbers. -/
namespace Go.Proofs.YtjfafhehpfjofaaGreat
open Go.RowKit
set_option maxHeartbeats 1000000 in
set_option maxRecDepth 100000 in
theorem cloneI_any {B n c : Nat} {A : Option Addr} {xs : List Int} (w : World) (hA : Sees elInt w B A n xs) (hn : n ≤ 1048576) :
    Calls Tryz.prog 53 #[.slice A n c] w fun e w' => ∃ v, e = .returned v ∧ Owns elInt w' w.heap.size 3 v xs ∧ Below w.heap.size w w' := by
  have qT : ∀ (w : World) (a : Option Addr), (binOp .eql 28 (.slice a n c) (.slice none 0 0)).run Tryz.prog w = .ok (.bool a.isNone) w := fun w a => Lib.run_eql_slice_nil w _ _ a n c 0 0 Tryz.underlying28
  rcases A with _ | ad
  · have h0 : xs = [] := by
      rcases hA.2 with h | ⟨b, o, h, _⟩
      · exact List.eq_nil_of_length_eq_zero (by rw [hA.len, h])
      · cases h
    subst h0
    go_enter Tryz.func53, Tryz.ntmps53
    go_wp2
    go_ret
    exact ⟨_, rfl, World.ownsRow_nil _ _ _ _, Below.refl _ _⟩
  · obtain ⟨i0, hi, hz0, hz1, hz2⟩ := info_parts int_info
    have hS := (Led.nil w).empty elInt 3 w.heap.size rfl w.heap.size (Nat.le_refl _)
    go_enter Tryz.func53, Tryz.ntmps53
    go_wp2_with (first
      | (at_builtin; refine wpList_append_led rfl _ _ 28 rfl hS 0 rfl Tryz.underlying28 hi hz0 hz1 (by rw [hz2]; decide) rfl rfl rfl (hA.grow hS.bl) (by simp; omega) (by simp) ?_)
      | go_in)
    intro A' c' w1 hS1
    go_wp2
    go_ret
    exact ⟨_, rfl, hS1.own 0 rfl, hS1.bl⟩
end Go.Proofs.YtjfafhehpfjofaaGreat
/- routesBetween: its recursive closure, and it, walked. Conditions: none. By ext.py. -/
namespace Go.Proofs.YtjfafhehpfjofaaGreat
open Go.RowKit
def capE (gt gout gf gn gex : Nat) : Array Value := #[.pointer (some ⟨gt, 0, none⟩), .pointer (some ⟨gout, 0, none⟩), .pointer (some ⟨gf, 0, none⟩), .pointer (some ⟨gn, 0, none⟩), .pointer (some ⟨gex, 0, none⟩)]
/-- What the closure works on. -/
def exT (base : Nat) (V : Value) (ss : List (Int × Sl)) (rows : List (Int × List Int)) (gt gout gf gn gex b : Nat) (B : Option Addr) (e : Nat) (ids : List Int) (R : List Thing) : List Thing :=
  tRS base V ss rows :: tBlk gout 58 #[V] :: tBlk gex 85 #[.func (.func 52) #[] (capE gt gout gf gn gex)] :: tOwns elInt b 3 (.slice B ids.length e) ids :: R
/-- The box of the closure stands. -/
def exS (w0 : World) (gt gout gf gn gex : Nat) (w' : World) : Prop := Led w0 w' [tBlk gex 85 #[.func (.func 52) #[] (capE gt gout gf gn gex)]]
/-- The row of fibers, made to the newest thing. -/
theorem Led.exIn {w0 w : World} {a b c x : Thing} {R : List Thing} (h : Led w0 w (x :: a :: b :: c :: R)) : Led w0 w (a :: b :: c :: x :: R) :=
  h.reidx (fun i => if i = 0 then 1 else if i = 1 then 2 else if i = 2 then 3 else if i = 3 then 0 else i) (fun i j hij => by
    show (if i = 0 then 1 else if i = 1 then 2 else if i = 2 then 3 else if i = 3 then 0 else i) ≠ (if j = 0 then 1 else if j = 1 then 2 else if j = 2 then 3 else if j = 3 then 0 else j)
    repeat' split
    all_goals omega) (fun i t hi => by
    match i, hi with
    | 0, hi => exact hi
    | 1, hi => exact hi
    | 2, hi => exact hi
    | 3, hi => exact hi
    | i + 4, hi => simpa using hi)
theorem exS_of {w0 w : World} {gt gout gf gn gex : Nat} {x y : Thing} {R : List Thing} (h : Led w0 w (x :: y :: tBlk gex 85 #[.func (.func 52) #[] (capE gt gout gf gn gex)] :: R)) : exS w0 gt gout gf gn gex w :=
  h.reidx (fun i => i + 2) (fun i j hij => by omega) (fun i t hi => by
    match i, hi with
    | 0, hi => exact hi
    | i + 1, hi => simp at hi)
theorem Led.skip1 {w0 w : World} {x y : Thing} {R : List Thing} (h : Led w0 w (x :: y :: R)) : Led w0 w (x :: R) :=
  h.reidx (fun i => if i = 0 then 0 else i + 1) (fun i j hij => by
    show (if i = 0 then 0 else i + 1) ≠ (if j = 0 then 0 else j + 1)
    repeat' split
    all_goals omega) (fun i t hi => by
    match i, hi with
    | 0, hi => exact hi
    | i + 1, hi => simpa using hi)
theorem Led.exOut {w0 w : World} {a b c x : Thing} {R : List Thing} (h : Led w0 w (a :: b :: c :: x :: R)) : Led w0 w (a :: b :: c :: R) :=
  h.reidx (fun i => if i < 3 then i else i + 1) (fun i j hij => by
    show (if i < 3 then i else i + 1) ≠ (if j < 3 then j else j + 1)
    repeat' split
    all_goals omega) (fun i t hi => by
    match i, hi with
    | 0, hi => exact hi
    | 1, hi => exact hi
    | 2, hi => exact hi
    | i + 3, hi =>
      rw [show (if i + 3 < 3 then i + 3 else i + 3 + 1) = i + 4 from if_neg (by omega)]
      simpa using hi)
section
variable {w : World} {ops : Array Oper} {o : Oper} {a : Act} {Q : Exit → Act → World → Prop} {K : Act → World → Prop} {F : Prop}
/-- append onto a slice without room, in a region. -/
theorem step_append_full (hgd : o.guard = none) (s x : Operand) (ho : o.op = Op.call { callee := Callee.builtin Builtin.append, args := #[s, x], argTypes := #[28, 28] }) {B C n c : Nat} {A X : Option Addr} {xs : List Int} {y : Int}
    (hs : a.eval s = .slice A n n) (hA : Sees elInt w B A n xs) (hx : a.eval x = .slice X 1 c) (hX : Sees elInt w C X 1 [y]) (hn : n ≤ 1048576)
    (h : ∀ v' w', Owns elInt w' w.heap.size 3 v' (xs ++ [y]) → Below w.heap.size w w' → K (a.put o.dst v') w') : if Region.wanted o (yielded ops a.tmps) = true then Oper.wp Tryz.prog o a w K Q else F := by
  have hw : Region.wanted o (yielded ops a.tmps) = true := by simp [Region.wanted, hgd]
  rw [if_pos hw]
  obtain ⟨i0, hi, hz0, hz1, hz2⟩ := info_parts int_info
  have hlen := hA.len
  obtain ⟨b', o', rfl, _, _⟩ := hX.at_ (k := 0) (by decide)
  have key : ∀ v' w', w'.ownsRow w.heap.size 3 1 v' (n + 1) (xs.flatMap elInt.cells ++ [y].flatMap elInt.cells) → w.grownBy w' none → Owns elInt w' w.heap.size 3 v' (xs ++ [y]) ∧ Below w.heap.size w w' := by
    intro v' w' h1 h2
    refine ⟨?_, ⟨h2.os, h2.tape, h2.output, h2.size, fun k hk => h2.block k hk (fun e => by cases e)⟩⟩
    unfold Owns
    rw [List.length_append, hlen, List.flatMap_append]
    exact h1
  have h1c : ∀ u ∈ [y].flatMap elInt.cells, u.oneCell' = true := fun u hu => by
    obtain ⟨z, _, h2⟩ := List.mem_flatMap.1 hu
    exact elInt.one z u h2
  cases A with
  | some b =>
    obtain ⟨v', w', hrun, r1, r2⟩ := run_append_arg_grows (P := Tryz.prog) w 28 o.type 3 i0 (.int .i64 0) 1 8 Tryz.underlying28 hi hz0 hz1 hz2 rfl (by decide) b n n (xs.flatMap elInt.cells) (by rw [flat_len, hlen]; rfl) (sees_cells hA) ⟨b', o', none⟩ 1 c ([y].flatMap elInt.cells) rfl (sees_cells hX) (by omega) (by unfold maxLen; omega) (by omega)
    unfold Oper.wp
    simp [execOp, ho, resolve, invoke, builtin, hs, hx, hrun, Result.andThen]
    exact h _ _ (key v' w' r1 r2).1 (key v' w' r1 r2).2
  | none =>
    have hn0 : n = 0 := by
      rcases hA.2 with h0 | ⟨b, o, h0, _⟩
      · exact h0
      · cases h0
    subst hn0
    have hx0 : xs = [] := List.eq_nil_of_length_eq_zero hlen
    subst hx0
    obtain ⟨v', w', hrun, r1, r2, _⟩ := run_append_own (P := Tryz.prog) w w.heap.size 28 o.type 3 i0 (.int .i64 0) 1 8 Tryz.underlying28 hi hz0 hz1 hz2 rfl (by decide) (.slice none 0 0) 0 [] (World.ownsRow_nil w _ 3 1) ⟨b', o', none⟩ 1 c ([y].flatMap elInt.cells) rfl (sees_cells hX) h1c (by unfold maxLen; omega) (by omega) (Nat.le_refl _)
    unfold Oper.wp
    simp [execOp, ho, resolve, invoke, builtin, hs, hx, hrun, Result.andThen]
    exact h _ _ (key v' w' r1 r2).1 (key v' w' r1 r2).2
end
section
variable {w0 : World} {n c m d gn gf gt gout gex : Nat} {A A' : Option Addr} {xs : List ByteArray} {fs : List Fib} {s to : Nat}
set_option maxHeartbeats 8000000 in
set_option maxRecDepth 100000 in
theorem ext_any (hn : NetIs w0 A n c A' m d xs fs) (hG : goodB xs fs = true) (hT : w0.cell? ⟨gt, 0, none⟩ = some (.int .i64 (to : Int))) (hF : w0.cell? ⟨gf, 0, none⟩ = some (.int .i64 (s : Int))) (hN0 : w0.cell? ⟨gn, 0, none⟩ = some (.slice A n c)) (hN1 : w0.cell? ⟨gn, 1, none⟩ = some (.slice A' m d)) :
    ∀ (k v M : Nat) (seen : List Nat) (ids : List Int) (V : Value) (ss : List (Int × Sl)) (rows : List (Int × List Int)) (R : List Thing) (B : Option Addr) (e b : Nat) (w : World),
      seen.Nodup → (∀ u ∈ seen, u < n) → seen.length + k = n + 1 → v < n → M < 2 ^ 20 → (∀ u, u < n → (M.testBit u = true ↔ u ∈ seen)) → rows.length + (rtsL fs to k v seen ids).length ≤ 549755813888 → ids.length + 1 = seen.length → w0.heap.size ≤ b →
      Led w0 w (exT w0.heap.size V ss rows gt gout gf gn gex b B e ids R) →
      Calls Tryz.prog 52 (#[.int .i64 (v : Int), .int .i64 (M : Int), .slice B ids.length e] ++ capE gt gout gf gn gex) w fun e' w' => e' = .returned (.tuple #[]) ∧
        ∃ V' ss', Led w0 w' (exT w0.heap.size V' ss' (rows ++ (rtsL fs to k v seen ids).map (fun r => ((s : Int), r))) gt gout gf gn gex b B e ids R) := by
  obtain ⟨he, hn0, hn8, hm14⟩ := good_parts hn hG
  have HN := hid hn
  have HE := hid he
  have HLF := hid hn.flen
  have FT : Hid (∀ w', Below w0.heap.size w0 w' → w'.cell? ⟨gt, 0, none⟩ = some (.int .i64 (to : Int))) := fun w' h => bl_cell h hT
  have FF : Hid (∀ w', Below w0.heap.size w0 w' → w'.cell? ⟨gf, 0, none⟩ = some (.int .i64 (s : Int))) := fun w' h => bl_cell h hF
  have FN0 : Hid (∀ w', Below w0.heap.size w0 w' → w'.cell? ⟨gn, 0, none⟩ = some (.slice A n c)) := fun w' h => bl_cell h hN0
  have FN1 : Hid (∀ w', Below w0.heap.size w0 w' → w'.cell? ⟨gn, 1, none⟩ = some (.slice A' m d)) := fun w' h => bl_cell h hN1
  clear hn he hT hF hN0 hN1 hG
  intro k
  induction k with
  | zero =>
    intro v M seen ids V ss rows R B e b w h1 h2 h3
    exact absurd (fuel_pos h1 h2 h3) (by decide)
  | succ k ih =>
    intro v M seen ids V ss rows R B e b w hnd hsn hlen hv hM hbit hrl hil hbb hL
    have HIH := hid ih
    have HL := hid hL
    have HND := hid hnd
    have HSN := hid hsn
    have HBIT := hid hbit
    have hsl := nodup_len n seen hnd hsn
    have hil9 : ids.length ≤ 8 := by omega
    have HIL := hid hil
    have HLEN := hid hlen
    clear ih hL hnd hsn hbit hil hlen
    have q0 := FT.out w HL.out.bl
    by_cases hvt : v = to
    · have e1 : ((v : Int) == (to : Int)) = true := by rw [hvt]; exact beq_self_eq_true _
      have HR : Hid (rtsL fs to (k + 1) v seen ids = [ids]) := by rw [hvt]; exact rtsL_end
      have HRL : Hid (ss.length + 1 ≤ 1099511627776) := by
        have h1 : OwnsRS w w0.heap.size V ss rows := HL.out.get 0 rfl
        have h2 := hrl
        rw [HR.out] at h2
        simp at h2
        have := h1.2.1
        refine hid ?_
        omega
      clear hvt hrl
      unfold capE
      go_enter Tryz.func52, Tryz.ntmps52
      go_wp2_with fail
      have F0 : ∀ w', Below w0.heap.size w0 w' → w'.cell? ⟨gf, 0, none⟩ = some (.int .i64 (s : Int)) := fun w' h => FF.out w' h
      have hd := HL.out.step (Cls.drew w)
      have HLD := hid hd
      clear hd q0
      refine wp_region_held_drew (S := fun w' => Below w0.heap.size w0 w') (by kernel_rfl) (HLD.out.bl) (fun hHeld => ?_)
      refine wpAnyH_take (i := 1) (oi := _) (v := ?_) rfl (by kernel_rfl) (by kernel_rfl) (by kernel_rfl) (fun _ _ _ h => h) (Or.inl ⟨by rfl, ?_⟩) (by assumption) ?_
      rotate_left
      · intro w hSw; go_simp; with_reducible rfl
      simp only [Act.put, List.getElem_toArray, List.getElem_cons_zero, List.getElem_cons_succ, List.setIfInBounds_toArray, List.set_cons_zero, List.set_cons_succ]
      refine wpAnyH_take (i := 2) (oi := _) (v := ?_) rfl (by kernel_rfl) (by kernel_rfl) (by kernel_rfl) (fun _ _ _ h => h) (Or.inl ⟨by rfl, ?_⟩) (by assumption) ?_
      rotate_left
      · intro w hSw; go_simp; with_reducible rfl
      simp only [Act.put, List.getElem_toArray, List.getElem_cons_zero, List.getElem_cons_succ, List.setIfInBounds_toArray, List.set_cons_zero, List.set_cons_succ]
      refine wpAnyH_ready (rs := [0, 3]) (by kernel_rfl) (by simp) ?_
      refine AllReadyH.cons rfl (fun K hK => ?_) ?_
      · skip
        have q1 := HLD.out.cell 1 0 rfl rfl
        go_simp
        go_wp2_with fail
        refine hK.out _ _ (HLD.out.bl) (fun hHeld => ?_)
        clear hK K
        try simp only [Act.put, List.getElem_toArray, List.getElem_cons_zero, List.getElem_cons_succ, List.setIfInBounds_toArray, List.set_cons_zero, List.set_cons_succ]
        clear q1
        refine wpAnyH_ready (rs := [3]) (by kernel_rfl) (by simp) ?_
        refine AllReadyH.cons rfl (fun K hK => ?_) AllReadyH.nil
        go_simp
        refine (cloneI_any _ ((HLD.out).seesI 3 rfl) (by omega)).mono ?_
        rintro e1 w1 ⟨v1, rfl, ho1, hb1⟩
        obtain ⟨B1, c1, rfl, _⟩ := ho1.form
        have hc := (HLD.out).owns hb1 ho1
        have HC := hid hc
        clear hb1 ho1 hc
        go_wp2_with fail
        refine hK.out _ _ (HC.out.bl) (fun hHeld => ?_)
        clear hK K
        try simp only [Act.put, List.getElem_toArray, List.getElem_cons_zero, List.getElem_cons_succ, List.setIfInBounds_toArray, List.set_cons_zero, List.set_cons_succ]
        refine wpAnyH_take (i := 4) (oi := _) (v := ?_) rfl (by kernel_rfl) (by kernel_rfl) (by kernel_rfl) (fun _ _ _ h => h) (Or.inl ⟨by rfl, ?_⟩) (by assumption) ?_
        rotate_left
        · intro w hSw; go_simp; with_reducible rfl
        simp only [Act.put, List.getElem_toArray, List.getElem_cons_zero, List.getElem_cons_succ, List.setIfInBounds_toArray, List.set_cons_zero, List.set_cons_succ]
        refine wpAnyH_ready (rs := [5]) (by kernel_rfl) (by simp) ?_
        refine AllReadyH.cons rfl (fun K hK => ?_) AllReadyH.nil
        have HD := hid (HC.out.blk_ w1.heap.size rfl 32 #[.int .i64 (s : Int), .slice B1 ids.length c1])
        go_simp
        go_wp2_with fail
        refine hK.out _ _ (HD.out.bl) (fun hHeld => ?_)
        clear hK K
        try simp only [Act.put, List.getElem_toArray, List.getElem_cons_zero, List.getElem_cons_succ, List.setIfInBounds_toArray, List.set_cons_zero, List.set_cons_succ]
        refine wpAnyH_ready (rs := [6]) (by kernel_rfl) (by simp) ?_
        refine AllReadyH.cons rfl (fun K hK => ?_) AllReadyH.nil
        have HD2 := hid (HD.out.drop 1)
        refine step_append_rs rfl _ _ rfl (s0 := ((s : Int), ⟨B1, ids.length, c1⟩)) (r0 := ((s : Int), ids)) HD2.out 0 rfl rfl HLD.out.bl.size rfl rfl (show Sees elRt _ _ _ 1 [((s : Int), (⟨B1, ids.length, c1⟩ : Sl))] from sees_new elRt _ _ _ _ rfl) HRL.out HD2.out.bl.size ?_
        intro A3 c3 w3 h3
        have H3 := hid h3
        clear h3
        refine hK.out _ _ (H3.out.bl) (fun hHeld => ?_)
        clear hK K
        try simp only [Act.put, List.getElem_toArray, List.getElem_cons_zero, List.getElem_cons_succ, List.setIfInBounds_toArray, List.set_cons_zero, List.set_cons_succ]
        have q2 := H3.out.cell 1 0 rfl rfl
        have z2 := H3.out.frozen 1 0 rfl
        have H4 := hid (H3.out.set 1 rfl 0 (.slice A3 (ss.length + 1) c3))
        refine wpAnyH_ready (rs := [7]) (by kernel_rfl) (by simp) ?_
        refine AllReadyH.cons rfl (fun K hK => ?_) AllReadyH.nil
        go_simp
        go_wp2_with fail
        refine hK.out _ _ (H4.out.bl) (fun hHeld => ?_)
        clear hK K
        try simp only [Act.put, List.getElem_toArray, List.getElem_cons_zero, List.getElem_cons_succ, List.setIfInBounds_toArray, List.set_cons_zero, List.set_cons_succ]
        refine wpAnyH_done (by kernel_rfl) ?_ _
        go_wp2
        exact bodyPost_ret (results_none rfl _ _ _) rfl ⟨rfl, _, _, by rw [HR.out]; exact H4.out⟩
      refine AllReadyH.cons rfl (fun K hK => ?_) AllReadyH.nil
      go_simp
      refine (cloneI_any _ ((HLD.out).seesI 3 rfl) (by omega)).mono ?_
      rintro e1 w1 ⟨v1, rfl, ho1, hb1⟩
      obtain ⟨B1, c1, rfl, _⟩ := ho1.form
      have hc := (HLD.out).owns hb1 ho1
      have HC := hid hc
      clear hb1 ho1 hc
      go_wp2_with fail
      refine hK.out _ _ (HC.out.bl) (fun hHeld => ?_)
      clear hK K
      try simp only [Act.put, List.getElem_toArray, List.getElem_cons_zero, List.getElem_cons_succ, List.setIfInBounds_toArray, List.set_cons_zero, List.set_cons_succ]
      refine wpAnyH_take (i := 4) (oi := _) (v := ?_) rfl (by kernel_rfl) (by kernel_rfl) (by kernel_rfl) (fun _ _ _ h => h) (Or.inl ⟨by rfl, ?_⟩) (by assumption) ?_
      rotate_left
      · intro w hSw; go_simp; with_reducible rfl
      simp only [Act.put, List.getElem_toArray, List.getElem_cons_zero, List.getElem_cons_succ, List.setIfInBounds_toArray, List.set_cons_zero, List.set_cons_succ]
      refine wpAnyH_ready (rs := [0, 5]) (by kernel_rfl) (by simp) ?_
      refine AllReadyH.cons rfl (fun K hK => ?_) ?_
      · skip
        have HC1 := hid (Led.drop HC.out 1)
        have q1 := HC1.out.cell 1 0 rfl rfl
        go_simp
        go_wp2_with fail
        refine hK.out _ _ (HC1.out.bl) (fun hHeld => ?_)
        clear hK K
        try simp only [Act.put, List.getElem_toArray, List.getElem_cons_zero, List.getElem_cons_succ, List.setIfInBounds_toArray, List.set_cons_zero, List.set_cons_succ]
        clear q1
        refine wpAnyH_ready (rs := [5]) (by kernel_rfl) (by simp) ?_
        refine AllReadyH.cons rfl (fun K hK => ?_) AllReadyH.nil
        have HD := hid (HC.out.blk_ w1.heap.size rfl 32 #[.int .i64 (s : Int), .slice B1 ids.length c1])
        go_simp
        go_wp2_with fail
        refine hK.out _ _ (HD.out.bl) (fun hHeld => ?_)
        clear hK K
        try simp only [Act.put, List.getElem_toArray, List.getElem_cons_zero, List.getElem_cons_succ, List.setIfInBounds_toArray, List.set_cons_zero, List.set_cons_succ]
        refine wpAnyH_ready (rs := [6]) (by kernel_rfl) (by simp) ?_
        refine AllReadyH.cons rfl (fun K hK => ?_) AllReadyH.nil
        have HD2 := hid (HD.out.drop 1)
        refine step_append_rs rfl _ _ rfl (s0 := ((s : Int), ⟨B1, ids.length, c1⟩)) (r0 := ((s : Int), ids)) HD2.out 0 rfl rfl HLD.out.bl.size rfl rfl (show Sees elRt _ _ _ 1 [((s : Int), (⟨B1, ids.length, c1⟩ : Sl))] from sees_new elRt _ _ _ _ rfl) HRL.out HD2.out.bl.size ?_
        intro A3 c3 w3 h3
        have H3 := hid h3
        clear h3
        refine hK.out _ _ (H3.out.bl) (fun hHeld => ?_)
        clear hK K
        try simp only [Act.put, List.getElem_toArray, List.getElem_cons_zero, List.getElem_cons_succ, List.setIfInBounds_toArray, List.set_cons_zero, List.set_cons_succ]
        have q2 := H3.out.cell 1 0 rfl rfl
        have z2 := H3.out.frozen 1 0 rfl
        have H4 := hid (H3.out.set 1 rfl 0 (.slice A3 (ss.length + 1) c3))
        refine wpAnyH_ready (rs := [7]) (by kernel_rfl) (by simp) ?_
        refine AllReadyH.cons rfl (fun K hK => ?_) AllReadyH.nil
        go_simp
        go_wp2_with fail
        refine hK.out _ _ (H4.out.bl) (fun hHeld => ?_)
        clear hK K
        try simp only [Act.put, List.getElem_toArray, List.getElem_cons_zero, List.getElem_cons_succ, List.setIfInBounds_toArray, List.set_cons_zero, List.set_cons_succ]
        refine wpAnyH_done (by kernel_rfl) ?_ _
        go_wp2
        exact bodyPost_ret (results_none rfl _ _ _) rfl ⟨rfl, _, _, by rw [HR.out]; exact H4.out⟩
      refine AllReadyH.cons rfl (fun K hK => ?_) AllReadyH.nil
      have HD := hid (HC.out.blk_ w1.heap.size rfl 32 #[.int .i64 (s : Int), .slice B1 ids.length c1])
      go_simp
      go_wp2_with fail
      refine hK.out _ _ (HD.out.bl) (fun hHeld => ?_)
      clear hK K
      try simp only [Act.put, List.getElem_toArray, List.getElem_cons_zero, List.getElem_cons_succ, List.setIfInBounds_toArray, List.set_cons_zero, List.set_cons_succ]
      refine wpAnyH_ready (rs := [0]) (by kernel_rfl) (by simp) ?_
      refine AllReadyH.cons rfl (fun K hK => ?_) AllReadyH.nil
      have HC1 := hid (HD.out.drop 2)
      have q1 := HC1.out.cell 1 0 rfl rfl
      go_simp
      go_wp2_with fail
      refine hK.out _ _ (HC1.out.bl) (fun hHeld => ?_)
      clear hK K
      try simp only [Act.put, List.getElem_toArray, List.getElem_cons_zero, List.getElem_cons_succ, List.setIfInBounds_toArray, List.set_cons_zero, List.set_cons_succ]
      clear q1
      refine wpAnyH_ready (rs := [6]) (by kernel_rfl) (by simp) ?_
      refine AllReadyH.cons rfl (fun K hK => ?_) AllReadyH.nil
      have HD2 := hid (HD.out.drop 1)
      refine step_append_rs rfl _ _ rfl (s0 := ((s : Int), ⟨B1, ids.length, c1⟩)) (r0 := ((s : Int), ids)) HD2.out 0 rfl rfl HLD.out.bl.size rfl rfl (show Sees elRt _ _ _ 1 [((s : Int), (⟨B1, ids.length, c1⟩ : Sl))] from sees_new elRt _ _ _ _ rfl) HRL.out HD2.out.bl.size ?_
      intro A3 c3 w3 h3
      have H3 := hid h3
      clear h3
      refine hK.out _ _ (H3.out.bl) (fun hHeld => ?_)
      clear hK K
      try simp only [Act.put, List.getElem_toArray, List.getElem_cons_zero, List.getElem_cons_succ, List.setIfInBounds_toArray, List.set_cons_zero, List.set_cons_succ]
      have q2 := H3.out.cell 1 0 rfl rfl
      have z2 := H3.out.frozen 1 0 rfl
      have H4 := hid (H3.out.set 1 rfl 0 (.slice A3 (ss.length + 1) c3))
      refine wpAnyH_ready (rs := [7]) (by kernel_rfl) (by simp) ?_
      refine AllReadyH.cons rfl (fun K hK => ?_) AllReadyH.nil
      go_simp
      go_wp2_with fail
      refine hK.out _ _ (H4.out.bl) (fun hHeld => ?_)
      clear hK K
      try simp only [Act.put, List.getElem_toArray, List.getElem_cons_zero, List.getElem_cons_succ, List.setIfInBounds_toArray, List.set_cons_zero, List.set_cons_succ]
      refine wpAnyH_done (by kernel_rfl) ?_ _
      go_wp2
      exact bodyPost_ret (results_none rfl _ _ _) rfl ⟨rfl, _, _, by rw [HR.out]; exact H4.out⟩
    · have e1 : ((v : Int) == (to : Int)) = false := by rw [beq_eq_false_iff_ne]; omega
      have HR : Hid (rtsL fs to (k + 1) v seen ids = rtsJ fs to k v seen ids m) := by unfold Hid; rw [rtsL_on hvt, HLF.out]
      have HRL : Hid (rows.length + (rtsJ fs to k v seen ids m).length ≤ 549755813888) := by rw [← HR.out]; exact hrl
      have H0 : Hid (Led w0 w (exT w0.heap.size V ss (rows ++ (rtsJ fs to k v seen ids 0).map (fun r => ((s : Int), r))) gt gout gf gn gex b B e ids R)) := by
        have : rows ++ (rtsJ fs to k v seen ids 0).map (fun r => ((s : Int), r)) = rows := by unfold rtsJ; simp
        rw [this]; exact HL.out
      have q1 := FN1.out w HL.out.bl
      clear hvt hrl
      unfold capE
      go_enter Tryz.func52, Tryz.ntmps52
      go_wp2_with fail
      clear q0 q1
      go_loopw [27] (fun i wr => ∃ (j : Nat) (V' : Value) (ss' : List (Int × Sl)), j ≤ m ∧ i = .int .i64 j ∧ Hid (Led w0 wr (exT w0.heap.size V' ss' (rows ++ (rtsJ fs to k v seen ids j).map (fun r => ((s : Int), r))) gt gout gf gn gex b B e ids R))) (fun i _ => m - (intOf i).toNat)
      case atStart => exact ⟨0, V, ss, Nat.zero_le _, rfl, H0⟩
      case round =>
        clear H0
        obtain ⟨j, V', ss', hj, rfl, HS⟩ := hrel
        by_cases hlt : j < m
        · obtain ⟨f, hfj⟩ := get_of (k := j) HLF.out hlt
          obtain ⟨nb, no, rfl, _, hc⟩ := (HN.out.grow HS.out.bl).fibs.at_ (k := j) hlt
          have f0 := hc j f hfj 0 _ rfl
          have f1 := hc j f hfj 1 _ rfl
          have f2 := hc j f hfj 2 _ rfl
          have f3 := hc j f hfj 3 _ rfl
          simp only [elFib, Nat.add_zero] at f0 f1 f2 f3
          have hfd : fibD fs j = f := getD_of hfj
          have hends := HE.out j (by rw [HLF.out]; exact hlt)
          rw [hfd] at hends
          have HU := hid (rtsJ_succ (fs := fs) (to := to) (k := k) (v := v) (seen := seen) (ids := ids) j)
          obtain ⟨u, hu⟩ : ∃ u, otherF f (v : Int) = u := ⟨_, rfl⟩
          have HF : Hid (otherF (fibD fs j) (v : Int) = u) := by rw [hfd]; exact hu
          have hub : u < n := by rw [← hu]; unfold otherF; split <;> (try split) <;> omega
          have HS1 := hid (HS.out.blk_ wr.heap.size rfl 64 #[.int .i64 f.a, .int .i64 f.b, .int .i64 f.len, .int .i64 f.risk])
          have HC := hid (otherEnd_any f (v : Int) (wr.alloc (.cells #[.int .i64 f.a, .int .i64 f.b, .int .i64 f.len, .int .i64 f.risk] 64)))
          rw [hu] at HC
          unfold fibV at HC
          clear hc hfj hfd hends hu
          go_wp2_with fail
          refine HC.out.mono ?_
          rintro e2 w2 ⟨rfl, hb2⟩
          have HS2 := hid ((HS1.out.step hb2).drop 1)
          clear HC HS1 hb2 f0 f1 f2 f3 HS
          by_cases hu0 : u < 0
          · have hI : Hid (rtsI fs to k v seen ids j = []) := rtsI_none (by rw [HF.out]; exact hu0)
            have HN2 : Hid (rtsJ fs to k v seen ids (j + 1) = rtsJ fs to k v seen ids j) := by unfold Hid; rw [HU.out, hI.out, List.append_nil]
            go_wp2
            refine ⟨⟨j + 1, V', ss', by omega, by go_num, by rw [HN2.out]; exact HS2⟩, by simp [intOf]; omega⟩
          · obtain ⟨q, rfl⟩ : ∃ q : Nat, u = (q : Int) := ⟨u.toNat, by omega⟩
            have hq8 : q < n := by omega
            have iu : IntKind.u64.wrap (q : Int) = (q : Int) := by rw [IntKind.wrap_u64]; omega
            have imn : min q 64 = q := by omega
            have hdv : ((M : Int) / 2 ^ q) = ((M / 2 ^ q : Nat) : Int) := by simp
            have ib := bits_and_one hM q
            rw [← hdv] at ib
            clear hdv
            by_cases hs : q ∈ seen
            · have hI : Hid (rtsI fs to k v seen ids j = []) := rtsI_seen HF.out hs
              have HN2 : Hid (rtsJ fs to k v seen ids (j + 1) = rtsJ fs to k v seen ids j) := by unfold Hid; rw [HU.out, hI.out, List.append_nil]
              rw [(HBIT.out q hq8).2 hs] at ib
              simp only [if_true] at ib
              go_wp2
              refine ⟨⟨j + 1, V', ss', by omega, by go_num, by rw [HN2.out]; exact HS2⟩, by simp [intOf]; omega⟩
            · have hbf : M.testBit q = false := by
                cases g : M.testBit q
                · rfl
                · exact absurd ((HBIT.out q hq8).1 g) hs
              rw [hbf] at ib
              simp only [Bool.false_eq_true, if_false] at ib
              have hI : Hid (rtsI fs to k v seen ids j = rtsL fs to k q (q :: seen) (ids ++ [(j : Int)])) := rtsI_on HF.out hs
              have HN2 : Hid (rtsJ fs to k v seen ids (j + 1) = rtsJ fs to k v seen ids j ++ rtsL fs to k q (q :: seen) (ids ++ [(j : Int)])) := by unfold Hid; rw [HU.out, hI.out]
              have HRL2 : Hid ((rows ++ (rtsJ fs to k v seen ids j).map (fun r => ((s : Int), r))).length + (rtsL fs to k q (q :: seen) (ids ++ [(j : Int)])).length ≤ 549755813888) := by
                have h1 := HRL.out
                have h2 := rtsJ_mono (fs := fs) (to := to) (k := k) (v := v) (seen := seen) (ids := ids) (i := j + 1) (j := m) hlt
                rw [HN2.out, List.length_append] at h2
                rw [List.length_append, List.length_map] at *
                refine hid ?_
                omega
              have hj2 : (2 : Nat) ^ q < 2 ^ 20 := Nat.pow_lt_pow_right (by decide) (by omega)
              have HO := hid (bits_or_n hM hj2)
              have hw : IntKind.i64.wrap ((2 : Int) ^ q) = ((2 ^ q : Nat) : Int) := by
                have e : ((2 : Int) ^ q) = ((2 ^ q : Nat) : Int) := by simp
                rw [e]
                have h62 : 2 ^ q < 4611686018427387904 := Nat.lt_trans hj2 (by decide)
                generalize 2 ^ q = y at *
                exact IntWalk.i64_in _ (by omega)
              have HW : Hid (IntKind.i64.wrap ((2 : Int) ^ q) = ((2 ^ q : Nat) : Int)) := hw
              have HM2 : Hid (M ||| 2 ^ q < 2 ^ 20) := Nat.or_lt_two_pow hM hj2
              have HB2 : Hid (∀ u, u < n → ((M ||| 2 ^ q).testBit u = true ↔ u ∈ q :: seen)) := fun u hu => by
                rw [Nat.testBit_or, Nat.testBit_two_pow, Bool.or_eq_true, decide_eq_true_eq, HBIT.out u hu, List.mem_cons]
                exact ⟨fun h => h.elim .inr (fun e => .inl e.symm), fun h => h.elim (fun e => .inr e.symm) .inl⟩
              have E0 : ∀ w', exS w0 gt gout gf gn gex w' → w'.cell? ⟨gex, 0, none⟩ = some (.func (.func 52) #[] (capE gt gout gf gn gex)) := fun _ h => h.cell 0 0 rfl rfl
              have i9 : (0 : Int) ≤ (ids.length : Int) := by omega
              have hsl2 : ids.length ≤ 1048576 := by omega
              have HH := hid HS2.out
              have HNS := hid hs
              clear hw hs hbf hj2
              unfold capE at E0
              obtain ⟨_, _, hvB, hle⟩ := HL.out.form 3 rfl
              injection hvB with hv1 hv2 hv3
              subst hv1
              subst hv3
              clear hv2
              have HK := hid ((HH.out.blk_ w2.heap.size rfl 3 #[.int .i64 (j : Int)]).step (Cls.drew _))
              have HA : Hid (Sees elInt (w2.alloc (.cells #[.int .i64 (j : Int)] 3)).drew (w2.alloc (.cells #[.int .i64 (j : Int)] 3)).drew.heap.size B ids.length ids) := HK.out.seesI 4 rfl
              have HX : Hid (Sees elInt (w2.alloc (.cells #[.int .i64 (j : Int)] 3)).drew (w2.heap.size + 1) (some ⟨w2.heap.size, 0, none⟩) 1 [(j : Int)]) := (sees_new elInt w2 (j : Int) 3 _ rfl).keep (fun _ _ => rfl)
              have hS0 : exS w0 gt gout gf gn gex w2.drew := exS_of (HH.out.step (Cls.drew w2))
              have hS1 : exS w0 gt gout gf gn gex (w2.alloc (.cells #[.int .i64 (j : Int)] 3)).drew := exS_of (HK.out.drop 1)
              have hlj : (ids ++ [(j : Int)]).length = ids.length + 1 := by rw [List.length_append]; rfl
              have HLJ := hid hlj
              have hwb : w0.heap.size ≤ (w2.alloc (.cells #[.int .i64 (j : Int)] 3)).drew.heap.size := HK.out.bl.size
              have HWB := hid hwb
              have HCALL : Hid (∀ (B3 : Option Addr) (e3 : Nat) (w3 : World), Led w0 w3 (exT w0.heap.size V' ss' (rows ++ (rtsJ fs to k v seen ids j).map (fun r => ((s : Int), r))) gt gout gf gn gex (w2.alloc (.cells #[.int .i64 (j : Int)] 3)).drew.heap.size B3 e3 (ids ++ [(j : Int)]) (tOwns elInt b 3 (.slice B ids.length e) ids :: R)) →
                  Calls Tryz.prog 52 (#[.int .i64 (q : Int), .int .i64 (Go.bits .or .i64 (M : Int) (IntKind.i64.wrap ((2 : Int) ^ q))), .slice B3 (ids.length + 1) e3, .pointer (some ⟨gt, 0, none⟩), .pointer (some ⟨gout, 0, none⟩), .pointer (some ⟨gf, 0, none⟩), .pointer (some ⟨gn, 0, none⟩), .pointer (some ⟨gex, 0, none⟩)]) w3 fun e' w' => e' = .returned (.tuple #[]) ∧
                    ∃ V4 ss4, Led w0 w' (exT w0.heap.size V4 ss4 (rows ++ (rtsJ fs to k v seen ids (j + 1)).map (fun r => ((s : Int), r))) gt gout gf gn gex b B e ids R)) := fun B3 e3 w3 h3 => by
                have hc := HIH.out q (M ||| 2 ^ q) (q :: seen) (ids ++ [(j : Int)]) V' ss' _ (tOwns elInt b 3 (.slice B ids.length e) ids :: R) B3 e3 _ w3 (List.nodup_cons.2 ⟨HNS.out, HND.out⟩) (fun u hu => by
                  rcases List.mem_cons.1 hu with e | hu
                  · rw [e]; exact hq8
                  · exact HSN.out u hu) (by rw [List.length_cons]; have := HLEN.out; omega) hq8 HM2.out HB2.out HRL2.out (by rw [HLJ.out, List.length_cons]; have := HIL.out; omega) HWB.out h3
                rw [HW.out, HO.out]
                rw [HLJ.out] at hc
                refine hc.mono ?_
                rintro e' w' ⟨he', V4, ss4, h4⟩
                refine ⟨he', V4, ss4, ?_⟩
                rw [HN2.out, List.map_append, ← List.append_assoc]
                exact h4.exOut
              clear hwb hlj
              go_wp2_with fail
              go_region_held3 (fun w' => exS w0 gt gout gf gn gex w') (first | exact hS0 | exact hS1 | assumption)
                (first
                  | (refine step_append_full rfl _ _ rfl rfl HA.out rfl HX.out (by omega) ?_; intro v3 w3 ho3 hb3; obtain ⟨B3, e3, rfl, _⟩ := ho3.form; have HK3 := hid (Led.exIn (Led.skip1 (HK.out.owns hb3 ho3))); have hS3 := exS_of HK3.out)
                  | (go_at_call 52; with_reducible refine (HCALL.out _ _ _ HK3.out).mono ?_; rintro e4 w4 ⟨rfl, V4, ss4, h4⟩; have hS4 := exS_of h4))
              have H4 := hid h4
              clear hS0 hS1 hS3 hS4 h4 HCALL HK HK3
              go_wp2
              refine ⟨⟨j + 1, V4, ss4, by omega, by go_num, H4⟩, by simp [intOf]; omega⟩
        · have hjm : j = m := by omega
          have HE2 : Hid (rtsJ fs to k v seen ids j = rtsL fs to (k + 1) v seen ids) := by unfold Hid; rw [HR.out, hjm]
          go_wp2
          go_end0
          exact ⟨rfl, V', ss', by rw [← HE2.out]; exact HS.out⟩
end
end Go.Proofs.YtjfafhehpfjofaaGreat
/- Distances by relaxing along fibers: as many rounds as there are nodes suffice. Plain Lean. Conditions: the fibers' ends are nodes, lengths are positive. -/
namespace Go.Proofs.YtjfafhehpfjofaaGreat
/-- x is as good a distance as y; what is below 0 is none. -/
def better (x y : Int) : Prop := y < 0 ∨ (0 ≤ x ∧ x ≤ y)
theorem better_refl (x : Int) : better x x := by unfold better; omega
theorem better_trans {x y z : Int} (h : better x y) (k : better y z) : better x z := by unfold better at *; omega
/-- May v be reached better by way of u? -/
def canB (u v : Nat) (l : Int) (D : List Int) : Bool := decide (0 ≤ valL D u) && (decide (valL D v < 0) || decide (valL D u + l < valL D v))
def relax (u v : Nat) (l : Int) (D : List Int) : List Int := if canB u v l D then D.set v (valL D u + l) else D
/-- Each fiber there and back. -/
def arcU (fs : List Fib) (j : Nat) : Nat := if j % 2 = 0 then (fibD fs (j / 2)).a.toNat else (fibD fs (j / 2)).b.toNat
def arcV (fs : List Fib) (j : Nat) : Nat := if j % 2 = 0 then (fibD fs (j / 2)).b.toNat else (fibD fs (j / 2)).a.toNat
def arcLn (fs : List Fib) (j : Nat) : Int := (fibD fs (j / 2)).len
def dstTo (q : Nat → Bool) (fs : List Fib) (D : List Int) : Nat → List Int
  | 0 => D
  | j + 1 => if q (j / 2) then dstTo q fs D j else relax (arcU fs j) (arcV fs j) (arcLn fs j) (dstTo q fs D j)
theorem dstTo_succ (q : Nat → Bool) (fs : List Fib) (D : List Int) (j : Nat) : dstTo q fs D (j + 1) = if q (j / 2) then dstTo q fs D j else relax (arcU fs j) (arcV fs j) (arcLn fs j) (dstTo q fs D j) := rfl
theorem dstTo_no {q : Nat → Bool} {fs : List Fib} {D : List Int} {j : Nat} (h : q (j / 2) = false) : dstTo q fs D (j + 1) = relax (arcU fs j) (arcV fs j) (arcLn fs j) (dstTo q fs D j) := by rw [dstTo_succ, h]; rfl
def dstPass (q : Nat → Bool) (fs : List Fib) (D : List Int) : List Int := dstTo q fs D (2 * fs.length)
def dst0 (n s : Nat) : List Int := (List.replicate n (-1)).set s 0
def dstRnd (q : Nat → Bool) (fs : List Fib) (n s : Nat) : Nat → List Int
  | 0 => dst0 n s
  | k + 1 => dstPass q fs (dstRnd q fs n s k)
/-- The distances from s; -1 where there is no way. -/
def distL (q : Nat → Bool) (fs : List Fib) (n s : Nat) : List Int := dstRnd q fs n s n
/-- Lengths are positive. -/
def lensB (fs : List Fib) : Prop := ∀ i, i < fs.length → 1 ≤ (fibD fs i).len
section
variable {q : Nat → Bool} {fs : List Fib} {n s : Nat}
theorem arc_in (he : endsB n fs) {j : Nat} (hj : j < 2 * fs.length) : arcU fs j < n ∧ arcV fs j < n ∧ arcU fs j ≠ arcV fs j := by
  obtain ⟨h0, h1, h2⟩ := he (j / 2) (by omega)
  unfold arcU arcV
  split <;> omega
theorem arc_len (hl : lensB fs) {j : Nat} (hj : j < 2 * fs.length) : 1 ≤ arcLn fs j := hl _ (by omega)
theorem relax_len (u v : Nat) (l : Int) (D : List Int) : (relax u v l D).length = D.length := by unfold relax; split <;> simp
theorem relax_val {u v w : Nat} {l : Int} {D : List Int} (hv : v < D.length) : valL (relax u v l D) w = if w = v ∧ canB u v l D = true then valL D u + l else valL D w := by
  unfold relax
  cases h : canB u v l D
  · simp
  · simp only [if_true]
    rw [valL_set hv]
    by_cases e : w = v
    · simp [e]
    · simp [e]
theorem canB_iff {u v : Nat} {l : Int} {D : List Int} : canB u v l D = true ↔ 0 ≤ valL D u ∧ (valL D v < 0 ∨ valL D u + l < valL D v) := by
  unfold canB; simp
theorem dstTo_len (D : List Int) (j : Nat) : (dstTo q fs D j).length = D.length := by
  induction j with
  | zero => rfl
  | succ j ih => rw [dstTo_succ]; split; exact ih; rw [relax_len]; exact ih
theorem dst0_len : (dst0 n s).length = n := by simp [dst0]
theorem dstRnd_len (k : Nat) : (dstRnd q fs n s k).length = n := by
  induction k with
  | zero => exact dst0_len
  | succ k ih => show (dstPass q fs (dstRnd q fs n s k)).length = n; unfold dstPass; rw [dstTo_len]; exact ih
theorem distL_len : (distL q fs n s).length = n := dstRnd_len n
theorem dstTo_step {D : List Int} (hD : D.length = n) (he : endsB n fs) (hl : lensB fs) {j : Nat} (hj : j < 2 * fs.length) (w : Nat) : better (valL (dstTo q fs D (j + 1)) w) (valL (dstTo q fs D j) w) := by
  rw [dstTo_succ]
  split
  · exact better_refl _
  · obtain ⟨hu, hv, _⟩ := arc_in he hj
    have := arc_len hl hj
    rw [relax_val (by rw [dstTo_len, hD]; exact hv)]
    split
    · rename_i h
      have h2 := canB_iff.1 h.2
      rw [h.1]
      unfold better; omega
    · exact better_refl _
theorem dstTo_mono {D : List Int} (hD : D.length = n) (he : endsB n fs) (hl : lensB fs) {i j : Nat} (hij : i ≤ j) (hj : j ≤ 2 * fs.length) (w : Nat) : better (valL (dstTo q fs D j) w) (valL (dstTo q fs D i) w) := by
  induction j with
  | zero => rw [show i = 0 by omega]; exact better_refl _
  | succ j ih =>
    rcases Nat.lt_or_ge i (j + 1) with h | h
    · exact better_trans (dstTo_step hD he hl (by omega) w) (ih (by omega) (by omega))
    · rw [show i = j + 1 by omega]; exact better_refl _
theorem dstPass_better {D : List Int} (hD : D.length = n) (he : endsB n fs) (hl : lensB fs) (w : Nat) : better (valL (dstPass q fs D) w) (valL D w) := dstTo_mono hD he hl (Nat.zero_le _) (Nat.le_refl _) w
theorem dstPass_arc {D : List Int} (hD : D.length = n) (he : endsB n fs) (hl : lensB fs) {j : Nat} (hj : j < 2 * fs.length) (hq : q (j / 2) = false) (hu : 0 ≤ valL D (arcU fs j)) :
    0 ≤ valL (dstPass q fs D) (arcV fs j) ∧ valL (dstPass q fs D) (arcV fs j) ≤ valL D (arcU fs j) + arcLn fs j := by
  have h1 := dstTo_mono (q := q) hD he hl (Nat.zero_le j) (Nat.le_of_lt hj) (arcU fs j)
  have h2 := dstTo_mono (q := q) hD he hl (show j + 1 ≤ 2 * fs.length from hj) (Nat.le_refl _) (arcV fs j)
  have e0 : dstTo q fs D 0 = D := rfl
  rw [e0] at h1
  obtain ⟨hu', hv', _⟩ := arc_in he hj
  have hl1 := arc_len hl hj
  have h3 : valL (dstTo q fs D (j + 1)) (arcV fs j) = if arcV fs j = arcV fs j ∧ canB (arcU fs j) (arcV fs j) (arcLn fs j) (dstTo q fs D j) = true then valL (dstTo q fs D j) (arcU fs j) + arcLn fs j else valL (dstTo q fs D j) (arcV fs j) := by
    rw [dstTo_no hq]; exact relax_val (by rw [dstTo_len, hD]; exact hv')
  have h4 : 0 ≤ valL (dstTo q fs D (j + 1)) (arcV fs j) ∧ valL (dstTo q fs D (j + 1)) (arcV fs j) ≤ valL (dstTo q fs D j) (arcU fs j) + arcLn fs j := by
    rw [h3]
    unfold better at h1
    split
    · omega
    · rename_i h
      have hc : ¬ (canB (arcU fs j) (arcV fs j) (arcLn fs j) (dstTo q fs D j) = true) := fun hc => h ⟨rfl, hc⟩
      rw [canB_iff] at hc
      omega
  unfold dstPass
  unfold better at h1 h2
  omega
/-- Some arc leads to a distance of c at most that is better than what is known. -/
def impP (q : Nat → Bool) (fs : List Fib) (D : List Int) (c : Int) : Prop := ∃ j, j < 2 * fs.length ∧ q (j / 2) = false ∧ canB (arcU fs j) (arcV fs j) (arcLn fs j) D = true ∧ valL D (arcU fs j) + arcLn fs j ≤ c
theorem dstTo_stay {D : List Int} (hD : D.length = n) (he : endsB n fs) (hl : lensB fs) {c : Int} (hc : ¬ impP q fs D c) {j : Nat} (hj : j ≤ 2 * fs.length) :
    ∀ w, (0 ≤ valL D w → valL D w ≤ c → valL (dstTo q fs D j) w = valL D w) ∧ (0 ≤ valL (dstTo q fs D j) w → valL (dstTo q fs D j) w ≤ c → valL D w = valL (dstTo q fs D j) w) := by
  induction j with
  | zero => exact fun w => ⟨fun _ _ => rfl, fun _ _ => rfl⟩
  | succ j ih =>
    have ih := ih (by omega)
    intro w
    rw [dstTo_succ]
    cases hq : q (j / 2)
    · simp only [Bool.false_eq_true, if_false]
      obtain ⟨hu, hv, _⟩ := arc_in he (j := j) (by omega)
      have hl1 := arc_len hl (j := j) (by omega)
      rw [relax_val (by rw [dstTo_len, hD]; exact hv)]
      by_cases h : w = arcV fs j ∧ canB (arcU fs j) (arcV fs j) (arcLn fs j) (dstTo q fs D j) = true
      · rw [if_pos h]
        obtain ⟨hw, hcan⟩ := h
        have hcan' := canB_iff.1 hcan
        have iu := ih (arcU fs j)
        have iv := ih (arcV fs j)
        rw [← hw] at iv hcan'
        have key : ¬ (valL (dstTo q fs D j) (arcU fs j) + arcLn fs j ≤ c) := by
          intro hle
          have e1 := iu.2 hcan'.1 (by omega)
          have hno : ¬ (canB (arcU fs j) (arcV fs j) (arcLn fs j) D = true) := fun hx => hc ⟨j, by omega, hq, hx, by omega⟩
          rw [canB_iff, ← hw] at hno
          have := iv.1
          omega
        constructor
        · intro a1 a2
          have := iv.1 a1 a2
          omega
        · intro a1 a2; omega
      · rw [if_neg h]; exact ih w
    · simp only [if_true]; exact ih w
theorem dstPass_stay {D : List Int} (hD : D.length = n) (he : endsB n fs) (hl : lensB fs) {c : Int} (hc : ¬ impP q fs D c) (w : Nat) :
    (0 ≤ valL D w → valL D w ≤ c → valL (dstPass q fs D) w = valL D w) ∧ (0 ≤ valL (dstPass q fs D) w → valL (dstPass q fs D) w ≤ c → valL D w = valL (dstPass q fs D) w) := dstTo_stay hD he hl hc (Nat.le_refl _) w
theorem least_of {p : Nat → Prop} (h : ∃ k, p k) : ∃ k, p k ∧ ∀ j, j < k → ¬ p j := by
  obtain ⟨k, hk⟩ := h
  induction k using Nat.strongRecOn with
  | _ k ih =>
    rcases Classical.em (∃ j, j < k ∧ p j) with ⟨j, hj, hp⟩ | hno
    · exact ih j hj hp
    · exact ⟨k, hk, fun j hj hp => hno ⟨j, hj, hp⟩⟩
/-- How many nodes have a distance of c at most. -/
def cntD (n : Nat) (D : List Int) (c : Int) : Nat := (List.range n).countP fun v => decide (0 ≤ valL D v) && decide (valL D v ≤ c)
theorem val_repl (n v : Nat) : valL (List.replicate n (-1)) v = if v < n then -1 else 0 := by
  unfold valL
  by_cases h : v < n
  · rw [if_pos h]; simp [h]
  · rw [if_neg h]; simp [h]
theorem dst0_val (hs : s < n) (v : Nat) (hv : v < n) : valL (dst0 n s) v = if v = s then 0 else -1 := by
  unfold dst0
  rw [valL_set (by simp; exact hs), val_repl, if_pos hv]
/-- No arc leads on to a better distance. -/
def dstFix (q : Nat → Bool) (fs : List Fib) (D : List Int) : Prop := ∀ c, ¬ impP q fs D c
theorem dstFix_pass {D : List Int} (hD : D.length = n) (he : endsB n fs) (hl : lensB fs) (h : dstFix q fs D) : dstPass q fs D = D := by
  refine valL_ext (by unfold dstPass; rw [dstTo_len]) (fun v => ?_)
  have h1 := dstPass_stay hD he hl (h (valL D v)) v
  have h2 := dstPass_stay hD he hl (h (valL (dstPass q fs D) v)) v
  have h3 := dstPass_better (q := q) hD he hl v
  by_cases a : 0 ≤ valL D v
  · exact h1.1 a (Int.le_refl _)
  · by_cases b : 0 ≤ valL (dstPass q fs D) v
    · exact (h2.2 b (Int.le_refl _)).symm
    · -- both are none: no step has turned it
      suffices hh : ∀ j, j ≤ 2 * fs.length → valL (dstTo q fs D j) v = valL D v from hh _ (Nat.le_refl _)
      intro j
      induction j with
      | zero => intro _; rfl
      | succ j ih =>
        intro hj
        have ih := ih (by omega)
        have hmono := dstTo_mono (q := q) hD he hl hj (Nat.le_refl _) v
        unfold dstPass at b
        rw [dstTo_succ]
        cases hq : q (j / 2)
        · simp only [Bool.false_eq_true, if_false]
          obtain ⟨hu, hv, _⟩ := arc_in he (j := j) (by omega)
          have hl1 := arc_len hl (j := j) (by omega)
          have hval : valL (dstTo q fs D (j + 1)) v = if v = arcV fs j ∧ canB (arcU fs j) (arcV fs j) (arcLn fs j) (dstTo q fs D j) = true then valL (dstTo q fs D j) (arcU fs j) + arcLn fs j else valL (dstTo q fs D j) v := by
            rw [dstTo_no hq]; exact relax_val (by rw [dstTo_len, hD]; exact hv)
          rw [relax_val (by rw [dstTo_len, hD]; exact hv)]
          split
          · rename_i hx
            rw [if_pos hx] at hval
            have := (canB_iff.1 hx.2).1
            unfold better at hmono
            omega
          · exact ih
        · simp only [if_true]; exact ih
theorem dst_or (he : endsB n fs) (hl : lensB fs) (hs : s < n) (k : Nat) :
    dstFix q fs (dstRnd q fs n s k) ∨ ∃ c, ¬ impP q fs (dstRnd q fs n s k) c ∧ k + 1 ≤ cntD n (dstRnd q fs n s k) c := by
  induction k with
  | zero =>
    right
    refine ⟨0, ?_, ?_⟩
    · rintro ⟨j, hj, hq, hc, hle⟩
      have := arc_len hl hj
      have := (canB_iff.1 hc).1
      omega
    · show 0 < cntD n (dst0 n s) 0
      unfold cntD
      rw [List.countP_pos_iff]
      exact ⟨s, by simpa using hs, by rw [dst0_val hs s hs]; simp⟩
  | succ k ih =>
    have hD : (dstRnd q fs n s k).length = n := dstRnd_len k
    rcases Classical.em (dstFix q fs (dstRnd q fs n s k)) with hf | hf
    · left
      show dstFix q fs (dstPass q fs (dstRnd q fs n s k))
      rw [dstFix_pass hD he hl hf]; exact hf
    · right
      obtain ⟨c, hc, hk⟩ := ih.resolve_left hf
      have hex : ∃ t : Nat, impP q fs (dstRnd q fs n s k) (t : Int) := by
        have ⟨c', hc'⟩ : ∃ c', impP q fs (dstRnd q fs n s k) c' := Classical.byContradiction fun h => hf fun c' hc' => h ⟨c', hc'⟩
        obtain ⟨j, hj, hq, hcan, hle⟩ := hc'
        have := (canB_iff.1 hcan).1
        have := arc_len hl hj
        exact ⟨c'.toNat, j, hj, hq, hcan, by omega⟩
      obtain ⟨t, ht, hmin⟩ := least_of hex
      have hpos : 0 < t := by
        obtain ⟨j, hj, hq, hcan, hle⟩ := ht
        have := (canB_iff.1 hcan).1
        have := arc_len hl hj
        omega
      have hprev : ¬ impP q fs (dstRnd q fs n s k) ((t : Int) - 1) := by
        have := hmin (t - 1) (by omega)
        rwa [show ((t - 1 : Nat) : Int) = (t : Int) - 1 by omega] at this
      have hct : c < t := by
        apply Classical.byContradiction
        intro h
        obtain ⟨j, hj, hq, hcan, hle⟩ := ht
        exact hc ⟨j, hj, hq, hcan, by omega⟩
      have hstay := fun w => dstPass_stay hD he hl hprev w
      refine ⟨t, ?_, ?_⟩
      · rintro ⟨j, hj, hq, hcan, hle⟩
        have h1 := canB_iff.1 hcan
        have hl1 := arc_len hl hj
        change 0 ≤ valL (dstPass q fs (dstRnd q fs n s k)) _ ∧ (valL (dstPass q fs (dstRnd q fs n s k)) _ < 0 ∨ valL (dstPass q fs (dstRnd q fs n s k)) _ + _ < valL (dstPass q fs (dstRnd q fs n s k)) _) at h1
        change valL (dstPass q fs (dstRnd q fs n s k)) _ + _ ≤ _ at hle
        have h2 := (hstay (arcU fs j)).2 h1.1 (by omega)
        have h3 := dstPass_arc (q := q) hD he hl hj hq (by omega)
        omega
      · have hlt : cntD n (dstRnd q fs n s k) c < cntD n (dstRnd q fs n s (k + 1)) t := by
          refine countP_lt (fun v _ hv => ?_) ?_
          · simp only [Bool.and_eq_true, decide_eq_true_eq] at hv ⊢
            have := (hstay v).1 hv.1 (by omega)
            show 0 ≤ valL (dstPass q fs (dstRnd q fs n s k)) v ∧ valL (dstPass q fs (dstRnd q fs n s k)) v ≤ t
            omega
          · obtain ⟨j, hj, hq, hcan, hle⟩ := ht
            have h1 := canB_iff.1 hcan
            have hl1 := arc_len hl hj
            have h3 := dstPass_arc (q := q) hD he hl hj hq h1.1
            refine ⟨arcV fs j, by simpa using (arc_in he hj).2.1, ?_, ?_⟩
            · have hge : ¬ (valL (dstRnd q fs n s k) (arcU fs j) + arcLn fs j ≤ c) := fun h => hc ⟨j, hj, hq, hcan, h⟩
              have : ¬ (0 ≤ valL (dstRnd q fs n s k) (arcV fs j) ∧ valL (dstRnd q fs n s k) (arcV fs j) ≤ c) := by omega
              simpa using this
            · simp only [Bool.and_eq_true, decide_eq_true_eq]
              show 0 ≤ valL (dstPass q fs (dstRnd q fs n s k)) _ ∧ valL (dstPass q fs (dstRnd q fs n s k)) _ ≤ t
              omega
        omega
theorem distL_fixed (he : endsB n fs) (hl : lensB fs) (hs : s < n) : dstFix q fs (distL q fs n s) := by
  rcases dst_or (q := q) he hl hs n with h | ⟨c, _, h⟩
  · exact h
  · have : cntD n (dstRnd q fs n s n) c ≤ n := by unfold cntD; exact Nat.le_trans List.countP_le_length (by simp)
    omega
theorem distL_fix (he : endsB n fs) (hl : lensB fs) (hs : s < n) : dstPass q fs (distL q fs n s) = distL q fs n s := dstFix_pass distL_len he hl (distL_fixed he hl hs)
theorem dstRnd_stay {k : Nat} (h : dstRnd q fs n s (k + 1) = dstRnd q fs n s k) : ∀ j, k ≤ j → dstRnd q fs n s j = dstRnd q fs n s k := by
  intro j
  induction j with
  | zero => intro hk; rw [show k = 0 by omega]
  | succ j ih =>
    intro hk
    rcases Nat.lt_or_ge j k with h1 | h1
    · rw [show k = j + 1 by omega]
    · show dstPass q fs (dstRnd q fs n s j) = _
      rw [ih h1]; exact h
theorem dstRnd_done (he : endsB n fs) (hl : lensB fs) (hs : s < n) {k : Nat} (h : dstRnd q fs n s (k + 1) = dstRnd q fs n s k) : dstRnd q fs n s k = distL q fs n s := by
  rcases Nat.le_total k n with h1 | h1
  · exact (dstRnd_stay h n h1).symm
  · exact dstRnd_stay (distL_fix he hl hs) k h1
theorem dstRnd_late (he : endsB n fs) (hl : lensB fs) (hs : s < n) {k : Nat} (h : n ≤ k) : dstRnd q fs n s (k + 1) = dstRnd q fs n s k := by
  rw [dstRnd_stay (distL_fix (q := q) he hl hs) k h, dstRnd_stay (distL_fix (q := q) he hl hs) (k + 1) (by omega)]
/-- Has one of the first j arcs turned a distance? -/
def dchB (q : Nat → Bool) (fs : List Fib) (D : List Int) : Nat → Bool
  | 0 => false
  | j + 1 => dchB q fs D j || (!q (j / 2) && canB (arcU fs j) (arcV fs j) (arcLn fs j) (dstTo q fs D j))
theorem dchB_no {D : List Int} {j : Nat} (h : dchB q fs D j = false) : dstTo q fs D j = D := by
  induction j with
  | zero => rfl
  | succ j ih =>
    unfold dchB at h
    rw [Bool.or_eq_false_iff] at h
    have ih := ih h.1
    rw [dstTo_succ]
    cases hq : q (j / 2)
    · have h2 := h.2
      rw [hq] at h2
      simp only [Bool.false_eq_true, if_false]
      unfold relax
      rw [if_neg (by simpa using h2)]
      exact ih
    · simp only [if_true]; exact ih
theorem dchB_yes {D : List Int} (hD : D.length = n) (he : endsB n fs) (hl : lensB fs) {j : Nat} (hj : j ≤ 2 * fs.length) (h : dchB q fs D j = true) : dstPass q fs D ≠ D := by
  have ⟨i, hi, hq, hc⟩ : ∃ i, i < 2 * fs.length ∧ q (i / 2) = false ∧ canB (arcU fs i) (arcV fs i) (arcLn fs i) (dstTo q fs D i) = true := by
    induction j with
    | zero => cases h
    | succ j ih =>
      unfold dchB at h
      rcases Bool.or_eq_true_iff.1 h with h | h
      · exact ih (by omega) h
      · exact ⟨j, by omega, by simpa using (Bool.and_eq_true_iff.1 h).1, (Bool.and_eq_true_iff.1 h).2⟩
  intro hEq
  obtain ⟨hu, hv, _⟩ := arc_in he hi
  have hl1 := arc_len hl hi
  have h1 := canB_iff.1 hc
  have e : valL (dstTo q fs D (i + 1)) (arcV fs i) = valL (dstTo q fs D i) (arcU fs i) + arcLn fs i := by
    rw [dstTo_no hq, relax_val (by rw [dstTo_len, hD]; exact hv), if_pos ⟨rfl, hc⟩]
  have k1 := dstTo_mono (q := q) hD he hl (show i + 1 ≤ 2 * fs.length from hi) (Nat.le_refl _) (arcV fs i)
  have k2 := dstTo_mono (q := q) hD he hl (Nat.zero_le i) (Nat.le_of_lt hi) (arcV fs i)
  have e0 : dstTo q fs D 0 = D := rfl
  have em : dstTo q fs D (2 * fs.length) = D := hEq
  rw [e0] at k2
  rw [em, e] at k1
  unfold better at k1 k2
  omega
/-- All but the start lie away. -/
theorem dstRnd_pos (he : endsB n fs) (hl : lensB fs) (hs : s < n) (k : Nat) : ∀ v, v < n → (v = s → valL (dstRnd q fs n s k) v = 0) ∧ (v ≠ s → valL (dstRnd q fs n s k) v = -1 ∨ 1 ≤ valL (dstRnd q fs n s k) v) := by
  induction k with
  | zero =>
    intro v hv
    show (_ → valL (dst0 n s) v = 0) ∧ (_ → valL (dst0 n s) v = -1 ∨ _)
    rw [dst0_val hs v hv]
    exact ⟨fun h => if_pos h, fun h => .inl (if_neg h)⟩
  | succ k ih =>
    have hD : (dstRnd q fs n s k).length = n := dstRnd_len k
    suffices h : ∀ j, j ≤ 2 * fs.length → ∀ v, v < n → (v = s → valL (dstTo q fs (dstRnd q fs n s k) j) v = 0) ∧ (v ≠ s → valL (dstTo q fs (dstRnd q fs n s k) j) v = -1 ∨ 1 ≤ valL (dstTo q fs (dstRnd q fs n s k) j) v) from h _ (Nat.le_refl _)
    intro j
    induction j with
    | zero => exact fun _ => ih
    | succ j ih2 =>
      intro hj v hv
      have i2 := ih2 (by omega)
      rw [dstTo_succ]
      split
      · exact i2 v hv
      · obtain ⟨hu, hv', _⟩ := arc_in he (j := j) (by omega)
        have hl1 := arc_len hl (j := j) (by omega)
        rw [relax_val (by rw [dstTo_len, hD]; exact hv')]
        split
        · rename_i hx
          have hc := canB_iff.1 hx.2
          have := i2 v hv
          rw [← hx.1] at hc
          refine ⟨fun e => ?_, fun _ => .inr (by omega)⟩
          have := this.1 e
          omega
        · exact i2 v hv
theorem distL_pos (he : endsB n fs) (hl : lensB fs) (hs : s < n) {v : Nat} (hv : v < n) : (v = s → valL (distL q fs n s) v = 0) ∧ (v ≠ s → valL (distL q fs n s) v = -1 ∨ 1 ≤ valL (distL q fs n s) v) := dstRnd_pos he hl hs n v hv
end
end Go.Proofs.YtjfafhehpfjofaaGreat
/- Minimum cuts in plain Lean: the program's choice and the reference's are one. Conditions: none. -/
namespace Go.Proofs.YtjfafhehpfjofaaGreat
section
variable {n m : Nat} {fs : List Fib}
/-- The nodes are parted without the fibers of a list. -/
def cutP (fs : List Fib) (n f t : Nat) (L : List Int) : Bool := !(valL (compL (goneF L) fs n) f == valL (compL (goneF L) fs n) t)
/-- .. without those of a set's number. -/
def cutQ (fs : List Fib) (n f t : Nat) (M : Nat) : Bool := !(valL (compL (fun i => M.testBit i) fs n) f == valL (compL (fun i => M.testBit i) fs n) t)
theorem union_bit {L : List Int} (h : ∀ x ∈ L, 0 ≤ x) (j : Nat) : ∀ M : Nat, (L.foldl (fun M x => M ||| 2 ^ x.toNat) M).testBit j = (M.testBit j || decide ((j : Int) ∈ L)) := by
  induction L with
  | nil => intro M; simp
  | cons x L ih =>
    intro M
    have hx := h x (by simp)
    rw [List.foldl_cons, ih (fun y hy => h y (by simp [hy])), Nat.testBit_or, Nat.testBit_two_pow, Bool.or_assoc]
    congr 1
    rw [Bool.eq_iff_iff, Bool.or_eq_true, decide_eq_true_eq, decide_eq_true_eq, decide_eq_true_eq, List.mem_cons]
    constructor
    · rintro (h1 | h1)
      · exact .inl (by omega)
      · exact .inr h1
    · rintro (h1 | h1)
      · exact .inl (by omega)
      · exact .inr h1
theorem cut_eq {f t : Nat} (L : List Int) (h : lowL m L) : cutP fs n f t L = cutQ fs n f t (unionS (fun i => 2 ^ i) L) := by
  unfold cutP cutQ
  have e : compL (goneF L) fs n = compL (fun i => (unionS (fun i => 2 ^ i) L).testBit i) fs n := compL_congr fun j _ => by
    unfold unionS goneF
    rw [union_bit (fun x hx => (h x hx).1), Nat.zero_testBit, Bool.false_or, Bool.eq_iff_iff, hasB_iff, decide_eq_true_eq]
  rw [e]
theorem passTo_all {q : Nat → Bool} {X : List Int} : ∀ j, (∀ i, i < j → q i = true) → passTo q fs X j = X := by
  intro j
  induction j with
  | zero => intro _; rfl
  | succ j ih => intro h; rw [passTo_succ, h j (by omega)]; exact ih fun i hi => h i (by omega)
theorem compL_all {q : Nat → Bool} (h : ∀ i, i < fs.length → q i = true) : compL q fs n = marks 0 n := by
  suffices hh : ∀ k, rndL q fs n k = marks 0 n from hh n
  intro k
  induction k with
  | zero => rfl
  | succ k ih => rw [rndL_succ, ih]; exact passTo_all _ h
theorem fromL_mem {s : Nat} {x : Int} : x ∈ fromL m s ↔ ∃ j : Nat, s ≤ j ∧ j < m ∧ x = (j : Int) := by
  unfold fromL
  rw [List.mem_map]
  constructor
  · rintro ⟨j, hj, rfl⟩
    rw [List.mem_range'] at hj
    obtain ⟨i, hi, rfl⟩ := hj
    exact ⟨_, by omega, by omega, rfl⟩
  · rintro ⟨j, h1, h2, rfl⟩
    exact ⟨j, by rw [List.mem_range']; exact ⟨j - s, by omega, by omega⟩, rfl⟩
theorem cut_all {f t : Nat} (hf : f < n) (ht : t < n) (hne : f ≠ t) (hm : fs.length = m) : cutP fs n f t (fromL m 0) = true := by
  have e : compL (goneF (fromL m 0)) fs n = marks 0 n := compL_all fun i hi => by
    unfold goneF
    rw [hasB_iff, fromL_mem]
    exact ⟨i, Nat.zero_le _, by omega, rfl⟩
  have v : ∀ k, k < n → valL (marks 0 n) k = (k : Int) := fun k hk => by
    have := marks_get (k := 0) hk
    unfold valL
    rw [List.getD_eq_getElem?_getD, this]; simp
  unfold cutP
  rw [e, v f hf, v t ht]
  simp; omega
/-- The reference's list of the fewest fibers. -/
def cutL (fs : List Fib) (n f t : Nat) : List Int := cutS (cutQ fs n f t) (fun i => 2 ^ i) fs.length
theorem few_cut {f t : Nat} (hf : f < n) (ht : t < n) (hne : f ≠ t) : fewL (cutP fs n f t) fs.length = some (cutL fs n f t) := fewL_eq (fun L h => cut_eq L h) (cut_all hf ht hne rfl)
theorem cutL_len {f t : Nat} (hf : f < n) (ht : t < n) (hne : f ≠ t) : (cutL fs n f t).length ≤ fs.length := (fewL_low (few_cut hf ht hne)).2.1
end
/-- May a cut be asked for? -/
def mcB (xs : List ByteArray) (fs : List Fib) (f t : Int) : Bool := ((goodB xs fs && inB 0 ((xs.length : Int) - 1) f) && inB 0 ((xs.length : Int) - 1) t) && !(f == t)
def mcL (xs : List ByteArray) (fs : List Fib) (f t : Int) : List Int := if mcB xs fs f t then cutL fs xs.length f.toNat t.toNat else []
theorem mcB_parts {xs : List ByteArray} {fs : List Fib} {f t : Int} (h : mcB xs fs f t = true) : goodB xs fs = true ∧ (0 ≤ f ∧ f < xs.length) ∧ (0 ≤ t ∧ t < xs.length) ∧ f ≠ t := by
  unfold mcB at h
  rw [Bool.and_eq_true, Bool.and_eq_true, Bool.and_eq_true] at h
  refine ⟨h.1.1.1, inB_idx h.1.1.2, inB_idx h.1.2, ?_⟩
  have := h.2
  simpa using this
theorem mcL_len {xs : List ByteArray} {fs : List Fib} {f t : Int} : (mcL xs fs f t).length ≤ 14 := by
  unfold mcL
  cases g : mcB xs fs f t
  · simp
  · obtain ⟨hg, hf, ht, hne⟩ := mcB_parts g
    have h1 := (goodB_bd hg).2.2
    have h2 := cutL_len (fs := fs) (n := xs.length) (f := f.toNat) (t := t.toNat) (by omega) (by omega) (by omega)
    rw [if_pos rfl]; omega
end Go.Proofs.YtjfafhehpfjofaaGreat
/- fewest, MinimumCut, DisjointCount of the program, walked. Conditions: as each states. -/
namespace Go.Proofs.YtjfafhehpfjofaaGreat
open Go.RowKit
section
variable {n : Nat} {p : List Int → Bool} {H : FuncId} {hcap : Array Value}
end
end Go.Proofs.YtjfafhehpfjofaaGreat
/- MinimumCut, DisjointCount of the program, walked. Conditions: none. -/
namespace Go.Proofs.YtjfafhehpfjofaaGreat
open Go.RowKit
theorem nodesB_two (n : Nat) (x y : Int) : nodesB n [x, y] = (inB 0 ((n : Int) - 1) x && inB 0 ((n : Int) - 1) y) := by simp [nodesB]
section
variable {n c m d : Nat} {A A' : Option Addr} {xs : List ByteArray} {fs : List Fib}
end
end Go.Proofs.YtjfafhehpfjofaaGreat
/- The greatest distance, in plain Lean, in two spellings. Conditions: none. -/
namespace Go.Proofs.YtjfafhehpfjofaaGreat
/-- What is kept: the nodes and the distance. -/
structure Dia where
  x : Int
  y : Int
  m : Int
def diaStep (a b : Nat) (d : Int) (s : Dia) : Dia := if a < b ∧ s.m < d then ⟨a, b, d⟩ else s
def diaRow (D : List Int) (a : Nat) (s : Dia) : Nat → Dia
  | 0 => s
  | b + 1 => diaStep a b (valL D b) (diaRow D a s b)
def diaTo (F : Nat → List Int) (n : Nat) (s : Dia) : Nat → Dia
  | 0 => s
  | a + 1 => diaRow (F a) a (diaTo F n s a) n
/-- Is every node reached from every one? -/
def allD (F : Nat → List Int) (n : Nat) : Bool := allB (fun a => allB (fun b => decide (0 ≤ valL (F a) b)) n) n
section
variable {F : Nat → List Int} {n : Nat}
theorem diaRow_two {D : List Int} {s t : Dia} (k : Nat) (hs : s.m = 0) (ht : t.m = -1) (h1 : 1 ≤ valL D 1) : diaRow D 0 s (k + 2) = diaRow D 0 t (k + 2) := by
  induction k with
  | zero =>
    show diaStep 0 1 (valL D 1) (diaStep 0 0 (valL D 0) s) = diaStep 0 1 (valL D 1) (diaStep 0 0 (valL D 0) t)
    have e1 : diaStep 0 0 (valL D 0) s = s := if_neg (by omega)
    have e2 : diaStep 0 0 (valL D 0) t = t := if_neg (by omega)
    rw [e1, e2]
    unfold diaStep
    rw [if_pos (by omega), if_pos (by omega)]
  | succ k ih =>
    show diaStep 0 (k + 2) _ (diaRow D 0 s (k + 2)) = diaStep 0 (k + 2) _ (diaRow D 0 t (k + 2))
    rw [ih]
theorem diaTo_two (hn : 2 ≤ n) (h1 : 1 ≤ valL (F 0) 1) (k : Nat) : diaTo F n ⟨0, 0, 0⟩ (k + 1) = diaTo F n ⟨0, 0, -1⟩ (k + 1) := by
  induction k with
  | zero =>
    show diaRow (F 0) 0 ⟨0, 0, 0⟩ n = diaRow (F 0) 0 ⟨0, 0, -1⟩ n
    obtain ⟨j, rfl⟩ : ∃ j, n = j + 2 := ⟨n - 2, by omega⟩
    exact diaRow_two j rfl rfl h1
  | succ k ih =>
    show diaRow (F (k + 1)) (k + 1) (diaTo F n ⟨0, 0, 0⟩ (k + 1)) n = diaRow (F (k + 1)) (k + 1) (diaTo F n ⟨0, 0, -1⟩ (k + 1)) n
    rw [ih]
theorem allD_no {a b : Nat} (ha : a < n) (hb : b < n) (h : valL (F a) b < 0) : allD F n = false := by
  unfold allD
  exact allB_no ha (allB_no hb (by simp; omega))
theorem allD_yes (h : allTo (fun a => allB (fun b => decide (0 ≤ valL (F a) b)) n) n) : allD F n = true := allB_iff.2 h
end
section
variable {xs : List ByteArray} {fs : List Fib}
/-- The distances from a node. -/
def dsF (fs : List Fib) (n a : Nat) : List Int := distL (goneF []) fs n a
def diaB (xs : List ByteArray) (fs : List Fib) : Bool := goodB xs fs && allD (dsF fs xs.length) xs.length
def diaV (xs : List ByteArray) (fs : List Fib) : Dia := if diaB xs fs then diaTo (dsF fs xs.length) xs.length ⟨0, 0, 0⟩ xs.length else ⟨0, 0, 0⟩
end
end Go.Proofs.YtjfafhehpfjofaaGreat
