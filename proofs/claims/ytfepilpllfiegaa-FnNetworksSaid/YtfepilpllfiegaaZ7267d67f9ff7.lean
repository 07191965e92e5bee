/- Lemmas and walks that the claim rests on, laid together. Conditions: none. -/
import Derived.Test.YtfepilpllfiegaaRows
import Derived.Test.YtfepilpllfiegaaZc731a5b1582e
import Derived.Test.YtfepilpllfiegaaZ76d3d4a5ee99
import Derived.Test.YtfepilpllfiegaaZ3128dd2975f1
/- impl.fibersAt walked. Conditions: none. -/
namespace Go.Proofs.Ytfepilpllfiegaa
open Go.RowKit
variable {n c m d : Nat} {A A' : Option Addr} {xs : List ByteArray} {fs : List Fib}
def touchesF (fs : List Fib) (v : Int) (j : Nat) : Bool := (fs.getD j ⟨0, 0, 0, 0⟩).a == v || (fs.getD j ⟨0, 0, 0, 0⟩).b == v
set_option maxHeartbeats 1000000 in
set_option maxRecDepth 100000 in
theorem fibersAt_any (x : Int) (w : World) (h : NetIs w A n c A' m d xs fs) :
    Calls Try.prog 72 #[.agg #[.slice A n c, .slice A' m d], .int .i64 x] w fun e w' => ∃ v, e = .returned v ∧ Owns elInt w' w.heap.size 3 v (idsTo (touchesF fs x) m) ∧ Below w.heap.size w w' := by
  obtain ⟨i0, hi, hz0, hz1, hz2⟩ := info_parts int_info
  have hb0 := bl_alloc (Below.refl w.heap.size w) (.cells #[.slice A n c, .slice A' m d] 27)
  have hx0 : Blk (w.alloc (.cells #[.slice A n c, .slice A' m d] 27)) w.heap.size 27 #[.slice A n c, .slice A' m d] := Blk.new _ _ _
  have h0 := h.grow hb0
  have q1 := hx0.cell 1
  simp at q1
  have hm := h.mle
  go_enter Try.func72, Try.ntmps72
  go_wp2
  have hbe : Below (w.alloc (.cells #[.slice A n c, .slice A' m d] 27)).heap.size (w.alloc (.cells #[.slice A n c, .slice A' m d] 27)) ((w.alloc (.cells #[.slice A n c, .slice A' m d] 27)).alloc (.cells #[] 3)) := bl_alloc (Below.refl _ _) _
  have hoe : Hid (Owns elInt ((w.alloc (.cells #[.slice A n c, .slice A' m d] 27)).alloc (.cells #[] 3)) (w.heap.size + 1) 3 (.slice (some ⟨w.heap.size + 1, 0, none⟩) 0 0) (idsTo (touchesF fs x) 0)) :=
    Owns.of_blk (n := 0) (cap := 0) (cur := #[]) (by have := Blk.new (w.alloc (.cells #[.slice A n c, .slice A' m d] 27)) 3 #[]; simpa using this) (Nat.le_refl _) rfl (Nat.le_refl _) rfl (by decide) (Filled.zero _ _ _)
  have hsz0 : (w.alloc (.cells #[.slice A n c, .slice A' m d] 27)).heap.size = w.heap.size + 1 := by simp
  generalize hw0 : w.alloc (.cells #[.slice A n c, .slice A' m d] 27) = w0 at *
  go_loopw [5, 12] (fun v i wr => ∃ k : Nat, k ≤ m ∧ i = .int .i64 k ∧ Hid (Owns elInt wr (w.heap.size + 1) 3 v (idsTo (touchesF fs x) k)) ∧ Below w0.heap.size w0 wr) (fun _ i _ => m - (intOf i).toNat)
  case atStart => exact ⟨0, Nat.zero_le _, rfl, hoe, hbe⟩
  case round =>
    clear hbe hoe
    obtain ⟨k, hk, rfl, hown, hb⟩ := hrel
    by_cases hlt : k < m
    · obtain ⟨b, o, rfl, _, hc⟩ := h0.fibs.at_ hlt
      obtain ⟨f, hfk⟩ := get_of (k := k) h0.flen hlt
      have f0 := bl_cell hb (hc k f hfk 0 _ rfl)
      have f1 := bl_cell hb (hc k f hfk 1 _ rfl)
      have f2 := bl_cell hb (hc k f hfk 2 _ rfl)
      have f3 := bl_cell hb (hc k f hfk 3 _ rfl)
      simp only [elFib, Nat.add_zero] at f0 f1 f2 f3
      clear hc
      have hp : Hid (touchesF fs x k = (f.a == x || f.b == x)) := by unfold Hid touchesF; rw [getD_of hfk]
      have hwz := hb.size
      have hbF := bl_alloc hb (.cells #[.int .i64 f.a, .int .i64 f.b, .int .i64 f.len, .int .i64 f.risk] 62)
      have hbG := bl_alloc hbF (.cells #[.int .i64 k] 3)
      have hoF : Hid (Owns elInt _ _ _ _ _) := hown.out.below (bl_alloc (Below.refl _ _) (.cells #[.int .i64 f.a, .int .i64 f.b, .int .i64 f.len, .int .i64 f.risk] 62))
      have hoG : Hid (Owns elInt _ _ _ _ _) := hoF.out.below (bl_alloc (Below.refl _ _) (.cells #[.int .i64 k] 3))
      have hll := idsTo_len (touchesF fs x) k
      clear hown hb
      by_cases hpp : touchesF fs x k = true
      · have HN : Hid (idsTo (touchesF fs x) (k + 1) = idsTo (touchesF fs x) k ++ [(k : Int)]) := idsTo_yes hpp
        rw [hp.out] at hpp
        clear hp hfk hoF hbF
        cases g1 : (f.a == x)
        · have g2 : (f.b == x) = true := by rw [g1] at hpp; simpa using hpp
          clear hpp
          go_wp2_with (first
            | (at_builtin; refine wpList_append_own _ rfl _ _ 33 rfl (w.heap.size + 1) 3 i0 (.int .i64 0) 1 8 Try.underlying33 hi hz0 hz1 hz2 rfl (by decide) _ (idsTo (touchesF fs x) k).length ((idsTo (touchesF fs x) k).flatMap elInt.cells) rfl hoG.out ⟨_, 0, none⟩ 1 1 [.int .i64 k] rfl rfl (one_new _ _ _ (by simp)) (fun u hu => by simp at hu; subst hu; rfl) (by unfold maxLen; omega) (by omega) (by simp; omega) ?_)
            | go_in)
          intro v' w1 hown' hgrow _
          have HO : Hid (Owns elInt w1 (w.heap.size + 1) 3 v' (idsTo (touchesF fs x) (k + 1))) := by unfold Hid; rw [HN.out]; exact Owns.appended hown'
          have hbN := bl_grown hbG hgrow (fun g hg => by have := (hoG.out.lies g hg).1; omega)
          clear hown' hgrow hoG hbG
          go_wp2
          go_roundw
          case rel => exact ⟨k + 1, by omega, by go_num, HO, hbN⟩
          case measure => simp [intOf]; omega
        · clear hpp
          go_wp2_with (first
            | (at_builtin; refine wpList_append_own _ rfl _ _ 33 rfl (w.heap.size + 1) 3 i0 (.int .i64 0) 1 8 Try.underlying33 hi hz0 hz1 hz2 rfl (by decide) _ (idsTo (touchesF fs x) k).length ((idsTo (touchesF fs x) k).flatMap elInt.cells) rfl hoG.out ⟨_, 0, none⟩ 1 1 [.int .i64 k] rfl rfl (one_new _ _ _ (by simp)) (fun u hu => by simp at hu; subst hu; rfl) (by unfold maxLen; omega) (by omega) (by simp; omega) ?_)
            | go_in)
          intro v' w1 hown' hgrow _
          have HO : Hid (Owns elInt w1 (w.heap.size + 1) 3 v' (idsTo (touchesF fs x) (k + 1))) := by unfold Hid; rw [HN.out]; exact Owns.appended hown'
          have hbN := bl_grown hbG hgrow (fun g hg => by have := (hoG.out.lies g hg).1; omega)
          clear hown' hgrow hoG hbG
          go_wp2
          go_roundw
          case rel => exact ⟨k + 1, by omega, by go_num, HO, hbN⟩
          case measure => simp [intOf]; omega
      · have hpn : touchesF fs x k = false := by simpa using hpp
        have HN : Hid (idsTo (touchesF fs x) (k + 1) = idsTo (touchesF fs x) k) := idsTo_no hpn
        rw [hp.out] at hpn
        obtain ⟨g1, g2⟩ := Bool.or_eq_false_iff.1 hpn
        have HO := hoF
        rw [← HN.out] at HO
        clear hp hfk hoF hoG hbG hpn hpp
        go_wp2
        exact ⟨⟨k + 1, by omega, by go_num, HO, hbF⟩, by simp [intOf]; omega⟩
    · have hkm : k = m := by omega
      rw [hkm] at hown
      clear hlt
      go_wp2
      go_ret
      exact ⟨_, rfl, hown.out.base (by omega), hb0.trans (hb.mono (by omega))⟩
end Go.Proofs.Ytfepilpllfiegaa
/- slices.IndexFunc and ContainsFunc over numbers, walked, at a closure that answers p. Conditions: none. -/
namespace Go.Proofs.Ytfepilpllfiegaa
open Go.RowKit
/-- None of the first k passes p. -/
def noneP {α : Type} (p : α → Bool) (l : List α) (k : Nat) : Prop := ∀ j x, j < k → l[j]? = some x → p x = false
theorem noneP_zero {α : Type} (p : α → Bool) (l : List α) : noneP p l 0 := fun j _ hj => by omega
theorem noneP_succ {α : Type} {p : α → Bool} {l : List α} {k : Nat} {x : α} (h : noneP p l k) (hx : l[k]? = some x) (hp : p x = false) : noneP p l (k + 1) := by
  intro j y hj hy
  rcases Nat.lt_succ_iff_lt_or_eq.1 hj with hlt | rfl
  · exact h j y hlt hy
  · rw [hx] at hy; injection hy with hy; subst hy; exact hp
/-- The index of the first element that passes p, or -1. -/
def findPF {α : Type} (p : α → Bool) : List α → Nat → Int
  | [], _ => -1
  | y :: l, k => if p y then (k : Int) else findPF p l (k + 1)
def findP {α : Type} (p : α → Bool) (l : List α) : Int := findPF p l 0
theorem findPF_at {α : Type} {p : α → Bool} : ∀ {l : List α} {k0 k : Nat} {x : α}, l[k]? = some x → p x = true → noneP p l k → findPF p l k0 = ((k0 + k : Nat) : Int) := by
  intro l
  induction l with
  | nil => intro k0 k x h; simp at h
  | cons y l ih =>
    intro k0 k x h hp hn
    unfold findPF
    cases k with
    | zero => simp at h; rw [h, if_pos hp]; rfl
    | succ k =>
      rw [if_neg (by rw [hn 0 y (Nat.succ_pos _) (by simp)]; decide)]
      rw [ih (k := k) (by simpa using h) hp (fun j z hj hz => hn (j + 1) z (by omega) (by simpa using hz))]
      congr 1; omega
theorem findP_at {α : Type} {p : α → Bool} {l : List α} {k : Nat} {x : α} (h : noneP p l k) (hx : l[k]? = some x) (hp : p x = true) : findP p l = k := by
  have := findPF_at (k0 := 0) hx hp h
  simpa [findP] using this
theorem findPF_neg {α : Type} {p : α → Bool} : ∀ {l : List α} {k0 : Nat}, (0 ≤ findPF p l k0 ↔ l.any p = true) ∧ -1 ≤ findPF p l k0 := by
  intro l
  induction l with
  | nil => intro k0; simp [findPF]
  | cons y l ih =>
    intro k0
    unfold findPF
    by_cases h : p y = true
    · rw [if_pos h]; simp [h]
    · rw [if_neg h]; simp only [List.any_cons]; rw [show p y = false by simpa using h]; simpa using ih
theorem findP_ge {α : Type} {p : α → Bool} {l : List α} : 0 ≤ findP p l ↔ l.any p = true := findPF_neg.1
theorem findP_none {α : Type} {p : α → Bool} {l : List α} {n : Nat} (hl : l.length = n) (h : noneP p l n) : findP p l = -1 := by
  have h1 := findPF_neg (p := p) (l := l) (k0 := 0)
  have h2 : ¬ (l.any p = true) := by
    intro ha
    obtain ⟨x, hx, hp⟩ := List.any_eq_true.1 ha
    obtain ⟨i, hi, e⟩ := List.mem_iff_getElem.1 hx
    have := h i x (by omega) (by rw [List.getElem?_eq_getElem hi, e])
    rw [this] at hp; cases hp
  unfold findP
  have := h1.2
  have h3 : ¬ (0 ≤ findPF p l 0) := fun h => h2 (h1.1.1 h)
  omega
section
variable {B n c : Nat} {A : Option Addr} {xs : List Int} {F : FuncId} {cap : Array Value}
set_option maxRecDepth 100000 in
theorem indexFuncI_any (p : Int → Bool) (w : World) (hA : Sees elInt w B A n xs) (hn : n ≤ 1048576)
    (hcall : ∀ args wr, (callFunc F args).run Try.prog wr = .ok (.enter F args) wr)
    (hF : ∀ x w', x ∈ xs → Cls w w' → Calls Try.prog F (#[.int .i64 x] ++ cap) w' fun e w2 => e = .returned (.bool (p x)) ∧ Below w'.heap.size w' w2) :
    Calls Try.prog 153 #[.slice A n c, .func (.func F) #[] cap] w fun e w' => e = .returned (.int .i64 (findP p xs)) ∧ Below w.heap.size w w' := by
  have HF := hid hF
  clear hF
  go_enter Try.func153, Try.ntmps153
  go_wp2
  go_loopw [8] (fun i wr => ∃ k : Nat, k ≤ n ∧ i = .int .i64 k ∧ Hid (noneP p xs k) ∧ Below w.heap.size w wr) (fun i _ => n - (intOf i).toNat)
  case atStart => exact ⟨0, Nat.zero_le _, rfl, noneP_zero _ _, Below.refl _ _⟩
  case round =>
    obtain ⟨k, hk, rfl, hno, hb⟩ := hrel
    by_cases hlt : k < n
    · obtain ⟨b, o, rfl, _, hc⟩ := hA.at_ hlt
      obtain ⟨x, hxk⟩ : ∃ x, xs[k]? = some x := ⟨xs[k]'(by rw [hA.len]; exact hlt), List.getElem?_eq_getElem _⟩
      have hcx := bl_cell hb (hc k x hxk 0 _ rfl)
      simp only [elInt, Nat.mul_one, Nat.add_zero] at hcx
      have HC := hid (HF.out x wr (List.mem_of_getElem? hxk) hb)
      clear hc
      go_wp2_with fail
      refine HC.out.mono ?_
      rintro e w' ⟨rfl, hb2⟩
      have hbb : Below w.heap.size w w' := bl_then hb hb2
      clear HC hcx hb hb2
      by_cases hp : p x = true
      · have HR := hid (findP_at hno.out hxk hp)
        clear hno hxk
        rw [hp]
        go_wp2_with fail
        go_ret
        exact ⟨by rw [HR.out]; rfl, hbb⟩
      · have hp' : p x = false := by simpa using hp
        have HR := hid (noneP_succ hno.out hxk hp')
        clear hno hxk
        rw [hp']
        go_wp2_with fail
        exact ⟨⟨k + 1, by omega, by go_num, HR, hbb⟩, by simp [intOf]; omega⟩
    · have HN := hid (findP_none (p := p) hA.len (by obtain rfl : k = n := (by omega); exact hno.out))
      clear hno
      go_wp2
      go_ret
      exact ⟨by rw [HN.out]; rfl, hb⟩
set_option maxRecDepth 100000 in
theorem containsFuncI_any (p : Int → Bool) (w : World) (hA : Sees elInt w B A n xs) (hn : n ≤ 1048576)
    (hcall : ∀ args wr, (callFunc F args).run Try.prog wr = .ok (.enter F args) wr)
    (hF : ∀ x w', x ∈ xs → Cls w w' → Calls Try.prog F (#[.int .i64 x] ++ cap) w' fun e w2 => e = .returned (.bool (p x)) ∧ Below w'.heap.size w' w2) :
    Calls Try.prog 120 #[.slice A n c, .func (.func F) #[] cap] w fun e w' => e = .returned (.bool (xs.any p)) ∧ Below w.heap.size w w' := by
  have HC := hid (indexFuncI_any (c := c) p w hA hn hcall hF)
  have H : Hid (decide (0 ≤ findP p xs) = xs.any p) := by
    unfold Hid
    cases g : xs.any p
    · exact decide_eq_false (fun h => by have := findP_ge.1 h; rw [g] at this; cases this)
    · exact decide_eq_true (findP_ge.2 g)
  clear hcall hF hA
  go_enter Try.func120, Try.ntmps120
  go_wp2_with fail
  refine HC.out.mono ?_
  rintro e w' ⟨rfl, hb⟩
  go_wp2_with fail
  go_ret
  exact ⟨by rw [← H.out]; rfl, hb⟩
end
end Go.Proofs.Ytfepilpllfiegaa
/- impl.isNode walked, at any world. Conditions: none. -/
namespace Go.Proofs.Ytfepilpllfiegaa
open Go.RowKit
variable {n c m d : Nat} {A A' : Option Addr} {xs : List ByteArray} {fs : List Fib}
set_option maxRecDepth 100000 in
theorem isNodeC (x : Int) (w : World) (g : Nat) (a a' : Value) (hn : a = .slice A n c) (hg : Blk w g 27 #[a, a']) (hle : n ≤ 1048576) :
    Calls Try.prog 121 #[.int .i64 x, .pointer (some ⟨g, 0, none⟩)] w fun e w' => e = .returned (.bool (!inB 0 ((n : Int) - 1) x)) ∧ Below w.heap.size w w' := by
  subst hn
  have q0 := hg.cell 0
  simp at q0
  go_enter Try.func121, Try.ntmps121
  go_wp2_with fail
  refine (within_any _ _ _ _).mono ?_
  rintro e w2 ⟨rfl, rfl⟩
  go_wp2_with fail
  go_ret
  exact ⟨rfl, Below.refl _ _⟩
/-- Every number of the list is a node's. -/
def nodesB (n : Nat) (vs : List Int) : Bool := !(vs.any fun x => !inB 0 ((n : Int) - 1) x)
set_option maxRecDepth 100000 in
theorem isNode_any {B k c' : Nat} {V : Option Addr} {vs : List Int} (w : World) (h : NetIs w A n c A' m d xs fs) (hv : Sees elInt w B V k vs) (hk : k ≤ 1048576) :
    Calls Try.prog 56 #[.agg #[.slice A n c, .slice A' m d], .slice V k c'] w fun e w' => e = .returned (.bool (goodB xs fs && nodesB n vs)) ∧ Below w.heap.size w w' := by
  have hb0 := bl_alloc (Below.refl w.heap.size w) (.cells #[.slice A n c, .slice A' m d] 27)
  have hx0 : Blk (w.alloc (.cells #[.slice A n c, .slice A' m d] 27)) w.heap.size 27 #[.slice A n c, .slice A' m d] := Blk.new _ _ _
  have h0 := h.grow hb0
  have hle := h.nle
  have hv0 := hv.grow hb0
  cases g : goodB xs fs
  · clear hv0
    go_enter Try.func56, Try.ntmps56
    go_wp2_with fail
    refine (validN _ h0).mono ?_
    rintro e w2 ⟨rfl, hb2⟩
    rw [g]
    go_wp2_with fail
    go_ret
    exact ⟨rfl, bl_then hb0 hb2⟩
  · go_enter Try.func56, Try.ntmps56
    go_wp2_with fail
    refine (validN _ h0).mono ?_
    rintro e w2 ⟨rfl, hb2⟩
    rw [g]
    have hx2 := hx0.below hb2 hx0.lt
    have hv2 := hv0.grow hb2
    clear hx0 hv0 hv
    go_wp2_with fail
    refine (containsFuncI_any (cap := #[.pointer (some ⟨w.heap.size, 0, none⟩)]) (fun x => !inB 0 ((n : Int) - 1) x) _ hv2 hk (fun _ _ => by rfl) (fun x w' _ hw' => isNodeC x w' w.heap.size _ _ rfl (hx2.below hw' hx2.lt) hle)).mono ?_
    rintro e w3 ⟨rfl, hb3⟩
    go_wp2_with fail
    go_ret
    exact ⟨rfl, bl_then (bl_then hb0 hb2) hb3⟩
end Go.Proofs.Ytfepilpllfiegaa
/- impl.FibersAt and spec.FibersAt walked. Conditions: none. -/
namespace Go.Proofs.Ytfepilpllfiegaa
open Go.RowKit
variable {n c m d : Nat} {A A' : Option Addr} {xs : List ByteArray} {fs : List Fib}
/-- What the reference asks of fiber j. -/
def endsF (fs : List Fib) (v : Int) (j : Nat) : Bool := decide (0 ≤ otherF (fs.getD j ⟨0, 0, 0, 0⟩) v)
theorem ends_eq {v : Int} (hg : goodB xs fs = true) {j : Nat} (hj : j < fs.length) : endsF fs v j = touchesF fs v j := by
  obtain ⟨f, hf⟩ := get_of (k := j) rfl hj
  have hb := goodB_fibB hg (List.mem_of_getElem? hf)
  unfold endsF touchesF
  rw [getD_of hf]
  unfold fibB at hb
  simp at hb
  unfold otherF
  by_cases h1 : v = f.a
  · rw [if_pos h1]; simp [h1]; omega
  · rw [if_neg h1]
    by_cases h2 : v = f.b
    · rw [if_pos h2]; simp [h2]; omega
    · rw [if_neg h2]
      have e1 : (f.a == v) = false := by simp; omega
      have e2 : (f.b == v) = false := by simp; omega
      rw [e1, e2]; rfl
def faB (xs : List ByteArray) (fs : List Fib) (v : Int) : Bool := goodB xs fs && inB 0 ((xs.length : Int) - 1) v
def faI (xs : List ByteArray) (fs : List Fib) (v : Int) : List Int := if faB xs fs v then idsTo (touchesF fs v) fs.length else []
theorem faI_ends {v : Int} (hg : goodB xs fs = true) (h : faB xs fs v = true) : faI xs fs v = idsTo (endsF fs v) fs.length := by
  unfold faI; rw [if_pos h]; exact idsTo_congr (fun j hj => (ends_eq hg hj).symm)
theorem faI_len (v : Int) : (faI xs fs v).length ≤ fs.length := by unfold faI; split; exact idsTo_len _ _; exact Nat.zero_le _
theorem nodesB_one (x : Int) : nodesB n [x] = inB 0 ((n : Int) - 1) x := by simp [nodesB]
theorem sees_one (w : World) (x : Int) (t : TypeId) : Sees elInt (w.alloc (.cells #[.int .i64 x] t)) (w.heap.size + 1) (some ⟨w.heap.size, 0, none⟩) 1 [x] := by
  refine ⟨rfl, .inr ⟨_, _, rfl, Nat.lt_succ_self _, fun k y hy j u hu => ?_⟩⟩
  match k, hy with
  | 0, hy =>
    simp at hy; subst hy
    match j, hu with
    | 0, hu => simp [elInt] at hu; subst hu; simp [elInt]
set_option maxHeartbeats 1000000 in
set_option maxRecDepth 100000 in
theorem specFibersAt (x : Int) (w : World) (h : NetIs w A n c A' m d xs fs) :
    Calls Try.prog 26 #[.agg #[.slice A n c, .slice A' m d], .int .i64 x] w fun e w' => ∃ v, e = .returned (.tuple #[v, .bool (faB xs fs x)]) ∧ Owns elInt w' w.heap.size 3 v (faI xs fs x) ∧ Below w.heap.size w w' := by
  obtain ⟨i0, hi, hz0, hz1, hz2⟩ := info_parts int_info
  have hb0 := bl_alloc (Below.refl w.heap.size w) (.cells #[.slice A n c, .slice A' m d] 27)
  have hx0 : Blk (w.alloc (.cells #[.slice A n c, .slice A' m d] 27)) w.heap.size 27 #[.slice A n c, .slice A' m d] := Blk.new _ _ _
  have h0 := h.grow hb0
  have hlx := h.xlen
  have hlf := h.flen
  have hm := h.mle
  have hn := h.nle
  have hbe : Below (w.alloc (.cells #[.slice A n c, .slice A' m d] 27)).heap.size (w.alloc (.cells #[.slice A n c, .slice A' m d] 27)) ((w.alloc (.cells #[.slice A n c, .slice A' m d] 27)).alloc (.cells #[] 3)) := bl_alloc (Below.refl _ _) _
  have hoe : Hid (Owns elInt ((w.alloc (.cells #[.slice A n c, .slice A' m d] 27)).alloc (.cells #[] 3)) (w.heap.size + 1) 3 (.slice (some ⟨w.heap.size + 1, 0, none⟩) 0 0) []) :=
    Owns.of_blk (n := 0) (cap := 0) (cur := #[]) (by have := Blk.new (w.alloc (.cells #[.slice A n c, .slice A' m d] 27)) 3 #[]; simpa using this) (Nat.le_refl _) rfl (Nat.le_refl _) rfl (by decide) (Filled.zero _ _ _)
  have hsz0 : (w.alloc (.cells #[.slice A n c, .slice A' m d] 27)).heap.size = w.heap.size + 1 := by simp
  have h1 := h0.grow hbe
  cases g : goodB xs fs
  · have H : Hid (faB xs fs x = false ∧ faI xs fs x = []) := by unfold Hid faI faB; rw [g]; exact ⟨rfl, rfl⟩
    clear hlx hlf
    go_enter Try.func26, Try.ntmps26
    go_wp2_with fail
    refine (goodN _ h1).mono ?_
    rintro e w2 ⟨rfl, hb2⟩
    rw [g]
    have hoe2 := hid (hoe.out.below hb2)
    clear hoe
    go_wp2_with fail
    go_ret2
    exact ⟨_, by rw [H.out.1]; rfl, by rw [H.out.2]; exact hoe2.out.base (by omega), bl_then (bl_alloc hb0 _) hb2⟩
  · cases g2 : inB 0 ((n : Int) - 1) x
    · have H : Hid (faB xs fs x = false ∧ faI xs fs x = []) := by unfold Hid faI faB; rw [g, hlx, g2]; exact ⟨rfl, rfl⟩
      clear hlx hlf
      go_enter Try.func26, Try.ntmps26
      go_wp2_with fail
      refine (goodN _ h1).mono ?_
      rintro e w2 ⟨rfl, hb2⟩
      rw [g]
      have hoe2 := hid (hoe.out.below hb2)
      have q0 := ((hx0.below hbe hx0.lt).below hb2 (by simp; omega)).cell 0
      simp at q0
      clear hoe
      go_wp2_with fail
      refine (l1In_any _ _ _ _).mono ?_
      rintro e w3 ⟨rfl, rfl⟩
      rw [g2]
      go_wp2_with fail
      go_ret2
      exact ⟨_, by rw [H.out.1]; rfl, by rw [H.out.2]; exact hoe2.out.base (by omega), bl_then (bl_alloc hb0 _) hb2⟩
    · have H : Hid (faB xs fs x = true ∧ faI xs fs x = idsTo (endsF fs x) m) := by
        have hh : faB xs fs x = true := by unfold faB; rw [g, hlx, g2]; rfl
        exact ⟨hh, by rw [faI_ends g hh, hlf]⟩
      clear hlx
      go_enter Try.func26, Try.ntmps26
      go_wp2_with fail
      refine (goodN _ h1).mono ?_
      rintro e w2 ⟨rfl, hb2⟩
      rw [g]
      have hoe2 : Hid (Owns elInt w2 (w.heap.size + 1) 3 (.slice (some ⟨w.heap.size + 1, 0, none⟩) 0 0) (idsTo (endsF fs x) 0)) := hid (hoe.out.below hb2)
      have q0 := ((hx0.below hbe hx0.lt).below hb2 (by simp; omega)).cell 0
      simp at q0
      clear hoe
      go_wp2_with fail
      refine (l1In_any _ _ _ _).mono ?_
      rintro e w3 ⟨rfl, rfl⟩
      rw [g2]
      have hbw := hbe.trans (hb2.mono (by simp))
      clear hbe hb2 q0 h1
      go_wp2_with fail
      generalize hw0 : w.alloc (.cells #[.slice A n c, .slice A' m d] 27) = w0 at *
      go_loopw [6, 7] (fun v i wr => ∃ k : Nat, k ≤ m ∧ i = .int .i64 k ∧ Hid (Owns elInt wr (w.heap.size + 1) 3 v (idsTo (endsF fs x) k)) ∧ Below w0.heap.size w0 wr) (fun _ i _ => m - (intOf i).toNat)
      case atStart => exact ⟨0, Nat.zero_le _, rfl, hoe2, hbw⟩
      case round =>
        clear hbw hoe2
        obtain ⟨k, hk, rfl, hown, hb⟩ := hrel
        have q0 := (hx0.below hb hx0.lt).cell 0
        have q1 := (hx0.below hb hx0.lt).cell 1
        simp at q0 q1
        by_cases hlt : k < m
        · obtain ⟨f, hfk⟩ := get_of (k := k) hlf hlt
          have hp : Hid (endsF fs x k = decide (0 ≤ otherF f x)) := by unfold Hid endsF; rw [getD_of hfk]
          have hwz := hb.size
          have HC := hid (l2Other_any (k : Int) x wr (h0.grow hb) (f := f) (by omega) (by omega) (by simpa using hfk))
          have hll := idsTo_len (endsF fs x) k
          clear hfk
          go_wp2_with fail
          refine HC.out.mono ?_
          rintro e w3 ⟨rfl, hb3⟩
          clear HC
          have hb4 := bl_then hb hb3
          have hoF : Hid (Owns elInt _ _ _ _ _) := hown.out.below hb3
          clear hown q0 q1
          have hx3 := hb4.size
          cases g1 : decide (0 ≤ otherF f x)
          · have HN : Hid (idsTo (endsF fs x) (k + 1) = idsTo (endsF fs x) k) := idsTo_no (hp.out.trans g1)
            have HO := hoF
            rw [← HN.out] at HO
            clear hp hoF
            go_wp2
            exact ⟨⟨k + 1, by omega, by go_num, HO, hb4⟩, by simp [intOf]; omega⟩
          · have HN : Hid (idsTo (endsF fs x) (k + 1) = idsTo (endsF fs x) k ++ [(k : Int)]) := idsTo_yes (hp.out.trans g1)
            have hbG := bl_alloc hb4 (.cells #[.int .i64 k] 3)
            have hoG : Hid (Owns elInt _ _ _ _ _) := hoF.out.below (bl_alloc (Below.refl _ _) (.cells #[.int .i64 k] 3))
            clear hp hoF
            go_wp2_with (first
            | (at_builtin; refine wpList_append_own _ rfl _ _ 33 rfl (w.heap.size + 1) 3 i0 (.int .i64 0) 1 8 Try.underlying33 hi hz0 hz1 hz2 rfl (by decide) _ (idsTo (endsF fs x) k).length ((idsTo (endsF fs x) k).flatMap elInt.cells) rfl hoG.out ⟨_, 0, none⟩ 1 1 [.int .i64 k] rfl rfl (one_new _ _ _ (by simp)) (fun u hu => by simp at hu; subst hu; rfl) (by unfold maxLen; omega) (by omega) (by simp; omega) ?_)
            | go_in)
            intro v' w1 hown' hgrow _
            have HO : Hid (Owns elInt w1 (w.heap.size + 1) 3 v' (idsTo (endsF fs x) (k + 1))) := by unfold Hid; rw [HN.out]; exact Owns.appended hown'
            have hbN := bl_grown hbG hgrow (fun g hg => by have := (hoG.out.lies g hg).1; omega)
            clear hown' hgrow hoG hbG
            go_wp2
            go_roundw
            case rel => exact ⟨k + 1, by omega, by go_num, HO, hbN⟩
            case measure => simp [intOf]; omega
        · have hkm : k = m := by omega
          rw [hkm] at hown
          clear hlt
          go_wp2
          go_ret2
          exact ⟨_, by rw [H.out.1]; rfl, by rw [H.out.2]; exact hown.out.base (by omega), hb0.trans (hb.mono (by omega))⟩
end Go.Proofs.Ytfepilpllfiegaa
/- The risk group of a fiber: the reference's, walked. Conditions: none. -/
namespace Go.Proofs.Ytfepilpllfiegaa
open Go.RowKit
variable {n c m d : Nat} {A A' : Option Addr} {xs : List ByteArray} {fs : List Fib}
def riskF (fs : List Fib) (j : Nat) : Int := (fs.getD j ⟨0, 0, 0, 0⟩).risk
/-- The fibers that fail together with fiber i. -/
def groupL (fs : List Fib) (i : Nat) : List Int := if riskF fs i == 0 then [(i : Int)] else idsTo (fun j => riskF fs j == riskF fs i) fs.length
theorem riskF_of {j : Nat} {f : Fib} (h : fs[j]? = some f) : riskF fs j = f.risk := by unfold riskF; rw [getD_of h]
theorem filled_int1 (s : Int) : Filled elInt #[.int .i64 s] [s] 1 := by
  intro j x hj hx i u hu
  obtain rfl : j = 0 := by omega
  simp at hx; subst hx
  match i, hu with
  | 0, hu => simp [elInt] at hu; subst hu; rfl
set_option maxHeartbeats 1000000 in
set_option maxRecDepth 100000 in
theorem l2Group_any (i : Nat) (w : World) (h : NetIs w A n c A' m d xs fs) (hi' : i < m) :
    Calls Try.prog 139 #[.agg #[.slice A n c, .slice A' m d], .int .i64 i] w fun e w' => ∃ s : Sl, e = .returned (slV s) ∧ Owns elInt w' w.heap.size 3 (slV s) (groupL fs i) ∧ Below w.heap.size w w' := by
  obtain ⟨i0, hi, hz0, hz1, hz2⟩ := info_parts int_info
  have hb0 := bl_alloc (Below.refl w.heap.size w) (.cells #[.slice A n c, .slice A' m d] 27)
  have hx0 : Blk (w.alloc (.cells #[.slice A n c, .slice A' m d] 27)) w.heap.size 27 #[.slice A n c, .slice A' m d] := Blk.new _ _ _
  have h0 := h.grow hb0
  have hlf := h.flen
  have hm := h.mle
  have hsz0 : (w.alloc (.cells #[.slice A n c, .slice A' m d] 27)).heap.size = w.heap.size + 1 := by simp
  have q1 := hx0.cell 1
  simp at q1
  obtain ⟨fi, hfi⟩ := get_of (k := i) hlf hi'
  obtain ⟨b, o, rfl, _, hc⟩ := h0.fibs.at_ hi'
  have fr := hc i fi hfi 3 _ rfl
  simp only [elFib] at fr
  cases g : (fi.risk == 0)
  · have H : Hid (groupL fs i = idsTo (fun j => riskF fs j == fi.risk) m) := by unfold Hid groupL; rw [riskF_of hfi, g, hlf]; rfl
    have hoe : Hid (Owns elInt ((w.alloc (.cells #[.slice A n c, .slice (some ⟨b, o, none⟩) m d] 27)).alloc (.cells #[] 3)) (w.heap.size + 1) 3 (.slice (some ⟨w.heap.size + 1, 0, none⟩) 0 0) (idsTo (fun j => riskF fs j == fi.risk) 0)) :=
      Owns.of_blk (n := 0) (cap := 0) (cur := #[]) (by have := Blk.new (w.alloc (.cells #[.slice A n c, .slice (some ⟨b, o, none⟩) m d] 27)) 3 #[]; simpa using this) (Nat.le_refl _) rfl (Nat.le_refl _) rfl (by decide) (Filled.zero _ _ _)
    have hbe : Below (w.alloc (.cells #[.slice A n c, .slice (some ⟨b, o, none⟩) m d] 27)).heap.size (w.alloc (.cells #[.slice A n c, .slice (some ⟨b, o, none⟩) m d] 27)) ((w.alloc (.cells #[.slice A n c, .slice (some ⟨b, o, none⟩) m d] 27)).alloc (.cells #[] 3)) := bl_alloc (Below.refl _ _) _
    have HC := hid hc
    clear hfi hc
    go_enter Try.func139, Try.ntmps139
    go_wp2_with fail
    generalize hw0 : w.alloc (.cells #[.slice A n c, .slice (some ⟨b, o, none⟩) m d] 27) = w0 at *
    go_loopw [5, 6] (fun v i wr => ∃ k : Nat, k ≤ m ∧ i = .int .i64 k ∧ Hid (Owns elInt wr (w.heap.size + 1) 3 v (idsTo (fun j => riskF fs j == fi.risk) k)) ∧ Below w0.heap.size w0 wr) (fun _ i _ => m - (intOf i).toNat)
    case atStart => exact ⟨0, Nat.zero_le _, rfl, hoe, hbe⟩
    case round =>
      clear hbe hoe q1
      obtain ⟨k, hk, rfl, hown, hb⟩ := hrel
      have q1 := (hx0.below hb hx0.lt).cell 1
      simp at q1
      by_cases hlt : k < m
      · obtain ⟨f, hfk⟩ := get_of (k := k) hlf hlt
        have f3 := bl_cell hb (HC.out k f hfk 3 _ rfl)
        have fr' := bl_cell hb fr
        simp only [elFib] at f3
        have T0 : ∀ w', Cls wr w' → w'.cell? ⟨b, o + k * 4 + 3, none⟩ = some (.int .i64 f.risk) := fun _ h => h.cell f3
        have T1 : ∀ w', Cls wr w' → w'.cell? ⟨b, o + i * 4 + 3, none⟩ = some (.int .i64 fi.risk) := fun _ h => h.cell fr'
        have Q1 : ∀ w', Cls wr w' → w'.cell? ⟨w.heap.size, 1, none⟩ = some (.slice (some ⟨b, o, none⟩) m d) := fun _ h => h.cell q1
        have iz : (k : Int) < (m : Int) := by omega
        have iz2 : (i : Int) < (m : Int) := by omega
        have hp : Hid ((riskF fs k == fi.risk) = (f.risk == fi.risk)) := by unfold Hid; rw [riskF_of hfk]
        have hwz := hb.size
        have hll := idsTo_len (fun j => riskF fs j == fi.risk) k
        clear hfk f3 fr'
        go_wp2
        refine region_cls (by kernel_rfl) (by kernel_rfl) ?_
        repeat (first
          | ((with_reducible refine quiet_pos ?_ (fun K hK => ?_))
             · rfl
             apply Exists.intro
             refine ⟨fun w' hw' => ?_, ?_⟩
             · go_simp
               with_reducible rfl
             simp only [Act.put, List.setIfInBounds_toArray, List.set_cons_zero, List.set_cons_succ]
             refine hK _ ?_; clear hK K)
          | ((with_reducible refine quiet_neg ?_ (fun K hK => ?_))
             · rfl
             simp only [Act.put, List.setIfInBounds_toArray, List.set_cons_zero, List.set_cons_succ]
             refine hK _ ?_; clear hK K))
        with_reducible refine wpQuiet_nil ?_
        intro wz hwz'
        have hbZ := bl_then hb hwz'
        have hoZ : Hid (Owns elInt _ _ _ _ _) := hown.out.below hwz'
        have hzz := hwz'.size
        clear hown T0 T1 Q1 q1 hb
        cases g3 : (f.risk == fi.risk)
        · have HN : Hid (idsTo (fun j => riskF fs j == fi.risk) (k + 1) = idsTo (fun j => riskF fs j == fi.risk) k) := idsTo_no (hp.out.trans g3)
          have HO := hoZ
          rw [← HN.out] at HO
          clear hp hoZ
          go_wp2
          exact ⟨⟨k + 1, by omega, by go_num, HO, hbZ⟩, by simp [intOf]; omega⟩
        · have HN : Hid (idsTo (fun j => riskF fs j == fi.risk) (k + 1) = idsTo (fun j => riskF fs j == fi.risk) k ++ [(k : Int)]) := idsTo_yes (hp.out.trans g3)
          have hbG := bl_alloc hbZ (.cells #[.int .i64 k] 3)
          have hoG : Hid (Owns elInt _ _ _ _ _) := hoZ.out.below (bl_alloc (Below.refl _ _) (.cells #[.int .i64 k] 3))
          clear hp hoZ
          go_wp2_with (first
            | (at_builtin; refine wpList_append_own _ rfl _ _ 33 rfl (w.heap.size + 1) 3 i0 (.int .i64 0) 1 8 Try.underlying33 hi hz0 hz1 hz2 rfl (by decide) _ (idsTo (fun j => riskF fs j == fi.risk) k).length ((idsTo (fun j => riskF fs j == fi.risk) k).flatMap elInt.cells) rfl hoG.out ⟨_, 0, none⟩ 1 1 [.int .i64 k] rfl rfl (one_new _ _ _ (by simp)) (fun u hu => by simp at hu; subst hu; rfl) (by unfold maxLen; omega) (by omega) (by simp; omega) ?_)
            | go_in)
          intro v' w1 hown' hgrow _
          have HO : Hid (Owns elInt w1 (w.heap.size + 1) 3 v' (idsTo (fun j => riskF fs j == fi.risk) (k + 1))) := by unfold Hid; rw [HN.out]; exact Owns.appended hown'
          have hbN := bl_grown hbG hgrow (fun g hg => by have := (hoG.out.lies g hg).1; omega)
          clear hown' hgrow hoG hbG
          go_wp2
          go_roundw
          case rel => exact ⟨k + 1, by omega, by go_num, HO, hbN⟩
          case measure => simp [intOf]; omega
      · have hkm : k = m := by omega
        rw [hkm] at hown
        obtain ⟨Ao, co, rfl, _, _, _⟩ := hown.out.form
        clear hlt
        go_wp2
        go_ret
        exact ⟨⟨Ao, _, co⟩, rfl, by rw [H.out]; exact hown.out.base (by omega), hb0.trans (hb.mono (by omega))⟩
  · have H : Hid (groupL fs i = [(i : Int)]) := by unfold Hid groupL; rw [riskF_of hfi, g]; rfl
    clear hfi hc
    go_enter Try.func139, Try.ntmps139
    go_wp2_with fail
    go_ret
    exact ⟨⟨some ⟨w.heap.size + 1, 0, none⟩, 1, 1⟩, rfl, by rw [H.out]; exact Owns.of_blk (n := 1) (cap := 1) (cur := #[.int .i64 i]) (by have := Blk.new (w.alloc (.cells #[.slice A n c, .slice (some ⟨b, o, none⟩) m d] 27)) 3 #[.int .i64 i]; simpa using this) (Nat.le_succ _) rfl (Nat.le_refl _) rfl (by decide) (filled_int1 _), bl_alloc hb0 _⟩
end Go.Proofs.Ytfepilpllfiegaa
/- impl.groups: the risk groups of a network, walked. Conditions: none. -/
namespace Go.Proofs.Ytfepilpllfiegaa
open Go.RowKit
variable {n c m d : Nat} {A A' : Option Addr} {xs : List ByteArray} {fs : List Fib}
/-- The rows of the risks 1 .. t that some fiber bears. -/
def rkRow (fs : List Fib) (t : Nat) : List Int := idsTo (fun j => riskF fs j == ((t : Int) + 1)) fs.length
def rkTo (fs : List Fib) (t : Nat) : List (List Int) := ((List.range t).map (rkRow fs)).filter fun l => !l.isEmpty
theorem rkTo_zero (fs : List Fib) : rkTo fs 0 = [] := rfl
theorem rkTo_no {t : Nat} (h : rkRow fs t = []) : rkTo fs (t + 1) = rkTo fs t := by simp [rkTo, List.range_succ, List.filter_append, h]
theorem rkTo_yes {t : Nat} (h : rkRow fs t ≠ []) : rkTo fs (t + 1) = rkTo fs t ++ [rkRow fs t] := by simp [rkTo, List.range_succ, List.filter_append, h]
theorem rkTo_len (fs : List Fib) (t : Nat) : (rkTo fs t).length ≤ t := by
  unfold rkTo
  exact Nat.le_trans (List.length_filter_le _ _) (by simp)
/-- The rows of the fibers without a risk. -/
def zrTo (fs : List Fib) (k : Nat) : List (List Int) := (idsTo (fun j => riskF fs j == 0) k).map fun x => [x]
theorem zrTo_zero (fs : List Fib) : zrTo fs 0 = [] := rfl
theorem zrTo_no {k : Nat} (h : (riskF fs k == 0) = false) : zrTo fs (k + 1) = zrTo fs k := by unfold zrTo; rw [idsTo_no h]
theorem zrTo_yes {k : Nat} (h : (riskF fs k == 0) = true) : zrTo fs (k + 1) = zrTo fs k ++ [[(k : Int)]] := by unfold zrTo; rw [idsTo_yes h]; simp
theorem zrTo_len (fs : List Fib) (k : Nat) : (zrTo fs k).length ≤ k := by unfold zrTo; rw [List.length_map]; exact idsTo_len _ _
/-- All risk groups. -/
def groupsL (fs : List Fib) : List (List Int) := rkTo fs 9 ++ zrTo fs fs.length
set_option maxHeartbeats 2000000 in
set_option maxRecDepth 100000 in
theorem groups_any (w : World) (h : NetIs w A n c A' m d xs fs) :
    Calls Try.prog 86 #[.agg #[.slice A n c, .slice A' m d]] w fun e w' => ∃ s ss, e = .returned (slV s) ∧ OwnsSS w' w.heap.size (slV s) ss (groupsL fs) ∧ Below w.heap.size w w' := by
  obtain ⟨i0, hi, hz0, hz1, hz2⟩ := info_parts int_info
  obtain ⟨j0, hj, hy0, hy1, hy2⟩ := info_parts sl_info
  have hb0 := bl_alloc (Below.refl w.heap.size w) (.cells #[.slice A n c, .slice A' m d] 27)
  have hx0 : Blk (w.alloc (.cells #[.slice A n c, .slice A' m d] 27)) w.heap.size 27 #[.slice A n c, .slice A' m d] := Blk.new _ _ _
  have h0 := h.grow hb0
  have hlf := h.flen
  have hm := h.mle
  have hsz0 : (w.alloc (.cells #[.slice A n c, .slice A' m d] 27)).heap.size = w.heap.size + 1 := by simp
  have hbe : Below (w.alloc (.cells #[.slice A n c, .slice A' m d] 27)).heap.size (w.alloc (.cells #[.slice A n c, .slice A' m d] 27)) ((w.alloc (.cells #[.slice A n c, .slice A' m d] 27)).alloc (.cells #[] 33)) := bl_alloc (Below.refl _ _) _
  have hoe : Hid (OwnsSS ((w.alloc (.cells #[.slice A n c, .slice A' m d] 27)).alloc (.cells #[] 33)) (w.heap.size + 1) (.slice (some ⟨w.heap.size + 1, 0, none⟩) 0 0) [] (rkTo fs 0)) :=
    ⟨Owns.of_blk (E := elSl) (n := 0) (cap := 0) (cur := #[]) (by have := Blk.new (w.alloc (.cells #[.slice A n c, .slice A' m d] 27)) 33 #[]; simpa using this) (Nat.le_refl _) rfl (Nat.le_refl _) rfl (by decide) (Filled.zero _ _ _), rfl, fun i s r h1 => by simp at h1, fun i j s t g _ h1 => by simp at h1⟩
  go_enter Try.func86, Try.ntmps86
  go_wp2_with fail
  generalize hw0 : w.alloc (.cells #[.slice A n c, .slice A' m d] 27) = w0 at *
  go_loopw [3, 4] (fun v i wr => ∃ (t : Nat) (ss : List Sl), t ≤ 9 ∧ i = .int .i64 ((t : Int) + 1) ∧ Hid (OwnsSS wr (w.heap.size + 1) v ss (rkTo fs t)) ∧ Below w0.heap.size w0 wr) (fun _ i _ => 10 - (intOf i).toNat)
  case atStart => exact ⟨0, [], Nat.zero_le _, rfl, hoe, hbe⟩
  case round =>
    clear hbe hoe
    obtain ⟨t, ss, ht, rfl, hss, hb⟩ := hrel
    have q1 := (hx0.below hb hx0.lt).cell 1
    simp at q1
    have hwz := hb.size
    by_cases htl : t < 9
    · obtain ⟨wo, hwo⟩ : ∃ wo, wo = wr := ⟨_, rfl⟩
      subst hwo
      have hbi : Below wo.heap.size wo (wo.alloc (.cells #[] 3)) := bl_alloc (Below.refl _ _) _
      have hoi : Hid (Owns elInt (wo.alloc (.cells #[] 3)) wo.heap.size 3 (.slice (some ⟨wo.heap.size, 0, none⟩) 0 0) (idsTo (fun j => riskF fs j == ((t : Int) + 1)) 0)) :=
        Owns.of_blk (n := 0) (cap := 0) (cur := #[]) (Blk.new wo 3 #[]) (Nat.le_refl _) rfl (Nat.le_refl _) rfl (by decide) (Filled.zero _ _ _)
      have e9 : decide ((t : Int) + 1 ≤ 9) = true := decide_eq_true (by omega)
      have q2 := ((hx0.below hb hx0.lt).alloc (.cells #[] 3)).cell 1
      simp at q2
      go_wp2_with fail
      clear q1 q2
      go_loopw [5, 19] (fun v i wq => ∃ k : Nat, k ≤ m ∧ i = .int .i64 k ∧ Hid (Owns elInt wq wo.heap.size 3 v (idsTo (fun j => riskF fs j == ((t : Int) + 1)) k)) ∧ Below wo.heap.size wo wq) (fun _ i _ => m - (intOf i).toNat)
      case atStart => exact ⟨0, Nat.zero_le _, rfl, hoi, hbi⟩
      case round =>
        clear hbi hoi
        obtain ⟨k, hk, rfl, hown, hq⟩ := hrel
        have hbq := bl_then hb hq
        have zq := hq.size
        by_cases hlt : k < m
        · obtain ⟨b, o, rfl, _, hc⟩ := h0.fibs.at_ hlt
          obtain ⟨f, hfk⟩ := get_of (k := k) hlf hlt
          have f0 := bl_cell hbq (hc k f hfk 0 _ rfl)
          have f1 := bl_cell hbq (hc k f hfk 1 _ rfl)
          have f2 := bl_cell hbq (hc k f hfk 2 _ rfl)
          have f3 := bl_cell hbq (hc k f hfk 3 _ rfl)
          simp only [elFib, Nat.add_zero] at f0 f1 f2 f3
          have hp : Hid ((riskF fs k == ((t : Int) + 1)) = (f.risk == ((t : Int) + 1))) := by unfold Hid; rw [riskF_of hfk]
          have hbF := bl_alloc hq (.cells #[.int .i64 f.a, .int .i64 f.b, .int .i64 f.len, .int .i64 f.risk] 62)
          have hbF1 := bl_alloc (Below.refl wr.heap.size wr) (.cells #[.int .i64 f.a, .int .i64 f.b, .int .i64 f.len, .int .i64 f.risk] 62)
          have hoF : Hid (Owns elInt _ _ _ _ _) := hown.out.below hbF1
          have hll := idsTo_len (fun j => riskF fs j == ((t : Int) + 1)) k
          clear hc hfk hown hbF1
          cases g3 : (f.risk == ((t : Int) + 1))
          · have HN : Hid (idsTo (fun j => riskF fs j == ((t : Int) + 1)) (k + 1) = idsTo (fun j => riskF fs j == ((t : Int) + 1)) k) := idsTo_no (hp.out.trans g3)
            have HO := hoF
            rw [← HN.out] at HO
            clear hp hoF
            go_wp2
            exact ⟨⟨k + 1, by omega, by go_num, HO, hbF⟩, by simp [intOf]; omega⟩
          · have HN : Hid (idsTo (fun j => riskF fs j == ((t : Int) + 1)) (k + 1) = idsTo (fun j => riskF fs j == ((t : Int) + 1)) k ++ [(k : Int)]) := idsTo_yes (hp.out.trans g3)
            have hbG := bl_alloc hbF (.cells #[.int .i64 k] 3)
            have hoG : Hid (Owns elInt _ _ _ _ _) := hoF.out.below (bl_alloc (Below.refl _ _) (.cells #[.int .i64 k] 3))
            clear hp hoF
            go_wp2_with (first
              | (at_builtin; refine wpList_append_own _ rfl _ _ 33 rfl wo.heap.size 3 i0 (.int .i64 0) 1 8 Try.underlying33 hi hz0 hz1 hz2 rfl (by decide) _ (idsTo (fun j => riskF fs j == ((t : Int) + 1)) k).length ((idsTo (fun j => riskF fs j == ((t : Int) + 1)) k).flatMap elInt.cells) rfl hoG.out ⟨_, 0, none⟩ 1 1 [.int .i64 k] rfl rfl (one_new _ _ _ (by simp)) (fun u hu => by simp at hu; subst hu; rfl) (by unfold maxLen; omega) (by omega) (by simp; omega) ?_)
              | go_in)
            intro v' w1 hown' hgrow _
            have HO : Hid (Owns elInt w1 wo.heap.size 3 v' (idsTo (fun j => riskF fs j == ((t : Int) + 1)) (k + 1))) := by unfold Hid; rw [HN.out]; exact Owns.appended hown'
            have hbN := bl_grown hbG hgrow (fun g hg => (hoG.out.lies g hg).1)
            clear hown' hgrow hoG hbG
            go_wp2
            go_roundw
            case rel => first | exact ⟨k + 1, by omega, by go_num, HO, hbN⟩ | ((repeat apply Exists.intro); exact ⟨⟨k + 1, by omega, by go_num, HO, hbN⟩, rfl⟩)
            case measure => simp [intOf]; omega
        · have hkm : k = m := by omega
          rw [hkm] at hown
          have HRW : Hid (idsTo (fun j => riskF fs j == ((t : Int) + 1)) m = rkRow fs t) := by unfold Hid rkRow; rw [hlf]
          rw [HRW.out] at hown
          obtain ⟨Ao, co, rfl, _, _, _⟩ := hown.out.form
          obtain ⟨L, hL⟩ : ∃ L, L = (rkRow fs t).length := ⟨_, rfl⟩
          have HLL := hid hL
          rw [← hL] at hown ⊢
          have hsq := hid (hss.out.below hq)
          clear hlt
          by_cases hL0 : L = 0
          · have e0 : decide (0 < L) = false := by simp [hL0]
            have HT : Hid (rkTo fs (t + 1) = rkTo fs t) := rkTo_no (List.eq_nil_of_length_eq_zero (by rw [← hL, hL0]))
            have HS := hsq
            rw [← HT.out] at HS
            clear hL hL0 hsq hown hss
            go_wp2
            exact ⟨⟨t + 1, ss, by omega, by go_num, HS, hbq⟩, by simp [intOf]; omega⟩
          · have e0 : decide (0 < L) = true := by simp; omega
            have HT : Hid (rkTo fs (t + 1) = rkTo fs t ++ [rkRow fs t]) := rkTo_yes (fun e => hL0 (by rw [hL, e]; rfl))
            have hbG := bl_alloc hbq (.cells #[.slice Ao L co] 33)
            have hq2 := bl_alloc hq (.cells #[.slice Ao L co] 33)
            have hsG := hid (hsq.out.below (bl_alloc (Below.refl _ _) (.cells #[.slice Ao L co] 33)))
            have hr2 : Hid (Owns elInt _ _ _ (slV ⟨Ao, L, co⟩) _) := hown.out.below (bl_alloc (Below.refl _ _) (.cells #[.slice Ao L co] 33))
            have hsl : ss.length ≤ 9 := by have := hsG.out.2.1; have := rkTo_len fs t; omega
            clear hL hL0 hsq hown
            go_wp2_with (first
              | (at_builtin; refine wpList_append_own _ rfl _ _ 56 rfl (w.heap.size + 1) 33 j0 (.slice none 0 0) 1 24 Try.underlying56 hj hy0 hy1 hy2 rfl (by decide) _ ss.length (ss.flatMap elSl.cells) rfl hsG.out.1 ⟨_, 0, none⟩ 1 1 [.slice Ao L co] rfl rfl (one_new _ _ _ (by simp)) (fun u hu => by simp at hu; subst hu; rfl) (by unfold maxLen; omega) (by omega) (by simp; omega) ?_)
              | go_in)
            intro v' w1 hown' hgrow _
            have HP : Hid (OwnsSS w1 (w.heap.size + 1) v' (ss ++ [⟨Ao, L, co⟩]) (rkTo fs (t + 1))) := by
              unfold Hid; rw [HT.out]; exact hss.out.push (s0 := ⟨Ao, L, co⟩) hq2 (by omega) hr2.out (Owns.appended (E := elSl) hown') hgrow
            have hbN := bl_grown hbG hgrow (fun g hg => by have := (hsG.out.1.lies g hg).1; omega)
            clear hown' hgrow hsG hbG hr2 hq2 hss
            go_wp2
            exact ⟨⟨t + 1, _, by omega, by go_num, HP, hbN⟩, by simp [intOf]; omega⟩
    · have ht9 : t = 9 := by omega
      subst ht9
      have hs0 := hss
      rw [show rkTo fs 9 = rkTo fs 9 ++ zrTo fs 0 from by rw [zrTo_zero, List.append_nil]] at hs0
      clear hss
      go_wp2_with fail
      clear q1
      have hbs := hb
      obtain ⟨wo, hwo⟩ : ∃ wo, wo = wr := ⟨_, rfl⟩
      subst hwo
      go_loopw [3, 43] (fun v i wr => ∃ (k : Nat) (ss : List Sl), k ≤ m ∧ i = .int .i64 k ∧ Hid (OwnsSS wr (w.heap.size + 1) v ss (rkTo fs 9 ++ zrTo fs k)) ∧ Below w0.heap.size w0 wr) (fun _ i _ => m - (intOf i).toNat)
      case atStart => exact ⟨0, ss, Nat.zero_le _, rfl, hs0, hbs⟩
      case round =>
        clear hs0 hbs hb hwz
        obtain ⟨k, ss, hk, rfl, hss, hb⟩ := hrel
        have hwz := hb.size
        by_cases hlt : k < m
        · obtain ⟨b, o, rfl, _, hc⟩ := h0.fibs.at_ hlt
          obtain ⟨f, hfk⟩ := get_of (k := k) hlf hlt
          have f0 := bl_cell hb (hc k f hfk 0 _ rfl)
          have f1 := bl_cell hb (hc k f hfk 1 _ rfl)
          have f2 := bl_cell hb (hc k f hfk 2 _ rfl)
          have f3 := bl_cell hb (hc k f hfk 3 _ rfl)
          simp only [elFib, Nat.add_zero] at f0 f1 f2 f3
          have hp : Hid ((riskF fs k == 0) = (f.risk == 0)) := by unfold Hid; rw [riskF_of hfk]
          have hbF := bl_alloc hb (.cells #[.int .i64 f.a, .int .i64 f.b, .int .i64 f.len, .int .i64 f.risk] 62)
          have hbF1 := bl_alloc (Below.refl wr.heap.size wr) (.cells #[.int .i64 f.a, .int .i64 f.b, .int .i64 f.len, .int .i64 f.risk] 62)
          clear hc hfk
          cases g3 : (f.risk == 0)
          · have HN : Hid (zrTo fs (k + 1) = zrTo fs k) := zrTo_no (hp.out.trans g3)
            have HO := hid (hss.out.below hbF1)
            rw [← HN.out] at HO
            clear hp hss
            go_wp2
            exact ⟨⟨k + 1, ss, by omega, by go_num, HO, hbF⟩, by simp [intOf]; omega⟩
          · have HN : Hid (rkTo fs 9 ++ zrTo fs (k + 1) = (rkTo fs 9 ++ zrTo fs k) ++ [[(k : Int)]]) := by unfold Hid; rw [zrTo_yes (hp.out.trans g3), List.append_assoc]
            have hq1 := bl_alloc hbF1 (.cells #[.int .i64 k] 3)
            have hq2 := bl_alloc hq1 (.cells #[.slice (some ⟨wr.heap.size + 1, 0, none⟩) 1 1] 33)
            have hbG := bl_then hb hq2
            have hsG := hid (hss.out.below hq2)
            have hr2 : Hid (Owns elInt (((wr.alloc (.cells #[.int .i64 f.a, .int .i64 f.b, .int .i64 f.len, .int .i64 f.risk] 62)).alloc (.cells #[.int .i64 k] 3)).alloc (.cells #[.slice (some ⟨wr.heap.size + 1, 0, none⟩) 1 1] 33)) wr.heap.size 3 (slV ⟨some ⟨wr.heap.size + 1, 0, none⟩, 1, 1⟩) [(k : Int)]) :=
              (show Owns elInt ((wr.alloc (.cells #[.int .i64 f.a, .int .i64 f.b, .int .i64 f.len, .int .i64 f.risk] 62)).alloc (.cells #[.int .i64 k] 3)) wr.heap.size 3 (.slice (some ⟨wr.heap.size + 1, 0, none⟩) 1 1) [(k : Int)] from Owns.of_blk (n := 1) (cap := 1) (cur := #[.int .i64 k]) (by have := Blk.new (wr.alloc (.cells #[.int .i64 f.a, .int .i64 f.b, .int .i64 f.len, .int .i64 f.risk] 62)) 3 #[.int .i64 k]; simpa using this) (Nat.le_succ _) rfl (Nat.le_refl _) rfl (by decide) (filled_int1 _)).below (bl_alloc (Below.refl _ _) _)
            have hsl : ss.length ≤ 9 + k := by have := hsG.out.2.1; have := rkTo_len fs 9; have := zrTo_len fs k; simp at *; omega
            clear hp hq1 hbF hbF1
            go_wp2_with (first
              | (at_builtin; refine wpList_append_own _ rfl _ _ 56 rfl (w.heap.size + 1) 33 j0 (.slice none 0 0) 1 24 Try.underlying56 hj hy0 hy1 hy2 rfl (by decide) _ ss.length (ss.flatMap elSl.cells) rfl hsG.out.1 ⟨_, 0, none⟩ 1 1 [.slice (some ⟨wr.heap.size + 1, 0, none⟩) 1 1] rfl rfl (one_new _ _ _ (by simp)) (fun u hu => by simp at hu; subst hu; rfl) (by unfold maxLen; omega) (by omega) (by simp; omega) ?_)
              | go_in)
            intro v' w1 hown' hgrow _
            have HP : Hid (OwnsSS w1 (w.heap.size + 1) v' (ss ++ [⟨some ⟨wr.heap.size + 1, 0, none⟩, 1, 1⟩]) (rkTo fs 9 ++ zrTo fs (k + 1))) := by
              unfold Hid; rw [HN.out]; exact hss.out.push (s0 := ⟨some ⟨wr.heap.size + 1, 0, none⟩, 1, 1⟩) hq2 (by omega) hr2.out (Owns.appended (E := elSl) hown') hgrow
            have hbN := bl_grown hbG hgrow (fun g hg => by have := (hsG.out.1.lies g hg).1; omega)
            clear hown' hgrow hsG hbG hr2 hq2 hss
            go_wp2
            refine ⟨?_, by simp [intOf]; omega⟩
            first | exact ⟨k + 1, _, by omega, by go_num, HP, hbN⟩ | ((repeat apply Exists.intro); exact ⟨⟨k + 1, _, by omega, by go_num, HP, hbN⟩, rfl⟩)
        · have hkm : k = m := by omega
          rw [hkm] at hss
          have HG : Hid (groupsL fs = rkTo fs 9 ++ zrTo fs m) := by unfold Hid groupsL; rw [hlf]
          obtain ⟨Ao, co, rfl, _, _, _⟩ := hss.out.1.form
          clear hlt
          go_wp2
          go_ret
          exact ⟨⟨Ao, _, co⟩, ss, rfl, by rw [HG.out]; exact hss.out.base_ (by omega), hb0.trans (hb.mono (by omega))⟩
end Go.Proofs.Ytfepilpllfiegaa
/- spec.l2Groups: the reference's risk groups, walked. Conditions: none. -/
namespace Go.Proofs.Ytfepilpllfiegaa
open Go.RowKit
variable {n c m d : Nat} {A A' : Option Addr} {xs : List ByteArray} {fs : List Fib}
theorem groupL_row {t k : Nat} (h : (riskF fs k == ((t : Int) + 1)) = true) : groupL fs k = rkRow fs t := by
  have e : riskF fs k = (t : Int) + 1 := by simpa using h
  unfold groupL rkRow
  rw [e, if_neg (by simp; omega)]
theorem idsTo_ne {p : Nat → Bool} {k m : Nat} (hk : k < m) (h : p k = true) : idsTo p m ≠ [] := by
  intro e
  unfold idsTo at e
  have : (List.range m).filter p = [] := List.map_eq_nil_iff.1 e
  have h2 := List.filter_eq_nil_iff.1 this k (by simpa using hk)
  exact h2 h
set_option maxHeartbeats 2000000 in
set_option maxRecDepth 100000 in
theorem l2Groups_any (w : World) (h : NetIs w A n c A' m d xs fs) :
    Calls Try.prog 88 #[.agg #[.slice A n c, .slice A' m d]] w fun e w' => ∃ s ss, e = .returned (slV s) ∧ OwnsSS w' w.heap.size (slV s) ss (groupsL fs) ∧ Below w.heap.size w w' := by
  obtain ⟨j0, hj, hy0, hy1, hy2⟩ := info_parts sl_info
  have hb0 := bl_alloc (Below.refl w.heap.size w) (.cells #[.slice A n c, .slice A' m d] 27)
  have hx0 : Blk (w.alloc (.cells #[.slice A n c, .slice A' m d] 27)) w.heap.size 27 #[.slice A n c, .slice A' m d] := Blk.new _ _ _
  have h0 := h.grow hb0
  have hlf := h.flen
  have hm := h.mle
  have hsz0 : (w.alloc (.cells #[.slice A n c, .slice A' m d] 27)).heap.size = w.heap.size + 1 := by simp
  have hbe : Below (w.alloc (.cells #[.slice A n c, .slice A' m d] 27)).heap.size (w.alloc (.cells #[.slice A n c, .slice A' m d] 27)) ((w.alloc (.cells #[.slice A n c, .slice A' m d] 27)).alloc (.cells #[] 33)) := bl_alloc (Below.refl _ _) _
  have hoe : Hid (OwnsSS ((w.alloc (.cells #[.slice A n c, .slice A' m d] 27)).alloc (.cells #[] 33)) (w.heap.size + 1) (.slice (some ⟨w.heap.size + 1, 0, none⟩) 0 0) [] (rkTo fs 0)) :=
    ⟨Owns.of_blk (E := elSl) (n := 0) (cap := 0) (cur := #[]) (by have := Blk.new (w.alloc (.cells #[.slice A n c, .slice A' m d] 27)) 33 #[]; simpa using this) (Nat.le_refl _) rfl (Nat.le_refl _) rfl (by decide) (Filled.zero _ _ _), rfl, fun i s r h1 => by simp at h1, fun i j s t g _ h1 => by simp at h1⟩
  go_enter Try.func88, Try.ntmps88
  go_wp2_with fail
  generalize hw0 : w.alloc (.cells #[.slice A n c, .slice A' m d] 27) = w0 at *
  go_loopw [3, 4] (fun v i wr => ∃ (t : Nat) (ss : List Sl), t ≤ 9 ∧ i = .int .i64 ((t : Int) + 1) ∧ Hid (OwnsSS wr (w.heap.size + 1) v ss (rkTo fs t)) ∧ Below w0.heap.size w0 wr) (fun _ i _ => 10 - (intOf i).toNat)
  case atStart => exact ⟨0, [], Nat.zero_le _, rfl, hoe, hbe⟩
  case round =>
    clear hbe hoe
    obtain ⟨t, ss, ht, rfl, hss, hb⟩ := hrel
    have hwz := hb.size
    by_cases htl : t < 9
    · obtain ⟨wo, hwo⟩ : ∃ wo, wo = wr := ⟨_, rfl⟩
      subst hwo
      have e9 : decide ((t : Int) + 1 ≤ 9) = true := decide_eq_true (by omega)
      have hsl : ss.length ≤ 9 := by have := hss.out.2.1; have := rkTo_len fs t; omega
      go_wp2_with fail
      go_loopw [3, 5] (fun v i wr => ∃ k : Nat, k ≤ m ∧ i = .int .i64 k ∧ v = u3 ∧ Hid (idsTo (fun j => riskF fs j == ((t : Int) + 1)) k = []) ∧ wr = wo) (fun _ i _ => m - (intOf i).toNat)
      case atStart => exact ⟨0, Nat.zero_le _, rfl, rfl, idsTo_zero _, rfl⟩
      case round =>
        obtain ⟨k, hk, rfl, rfl, hno, rfl⟩ := hrel
        have q1 := (hx0.below hb hx0.lt).cell 1
        have q0 := (hx0.below hb hx0.lt).cell 0
        simp at q0 q1
        by_cases hlt : k < m
        · obtain ⟨b, o, rfl, _, hc⟩ := h0.fibs.at_ hlt
          obtain ⟨f, hfk⟩ := get_of (k := k) hlf hlt
          have f3 := bl_cell hb (hc k f hfk 3 _ rfl)
          simp only [elFib] at f3
          have hp : Hid ((riskF fs k == ((t : Int) + 1)) = (f.risk == ((t : Int) + 1))) := by unfold Hid; rw [riskF_of hfk]
          clear hc hfk
          cases g3 : (f.risk == ((t : Int) + 1))
          · have HN : Hid (idsTo (fun j => riskF fs j == ((t : Int) + 1)) (k + 1) = []) := by unfold Hid; rw [idsTo_no (hp.out.trans g3)]; exact hno.out
            clear hp hno
            go_wp2
            refine ⟨?_, by simp [intOf]; omega⟩
            first | exact ⟨k + 1, by omega, by go_num, rfl, HN, trivial⟩ | exact ⟨k + 1, by omega, by go_num, HN, rfl⟩ | exact ⟨k + 1, by omega, by go_num, rfl, HN, rfl⟩ | ((repeat apply Exists.intro); exact ⟨⟨k + 1, by omega, by go_num, rfl, HN, rfl⟩, rfl⟩)
          · have HR : Hid (groupL fs k = rkRow fs t) := groupL_row (hp.out.trans g3)
            have HT : Hid (rkTo fs (t + 1) = rkTo fs t ++ [rkRow fs t]) := rkTo_yes (by unfold rkRow; rw [hlf]; exact idsTo_ne hlt (hp.out.trans g3))
            have HC := hid (l2Group_any k wr (h0.grow hb) hlt)
            clear hp hno
            go_wp2_with fail
            refine HC.out.mono ?_
            rintro e w2 ⟨s2, rfl, ho2, hb2⟩
            have ho2 := hid ho2
            obtain ⟨Ag, Lg, cg⟩ := s2
            have hbG := bl_alloc (bl_then hb hb2) (.cells #[.slice Ag Lg cg] 33)
            have hq2 := bl_alloc hb2 (.cells #[.slice Ag Lg cg] 33)
            have hsG := hid (hss.out.below hq2)
            have hr2 : Hid (Owns elInt _ _ _ (slV ⟨Ag, Lg, cg⟩) _) := ho2.out.below (bl_alloc (Below.refl _ _) (.cells #[.slice Ag Lg cg] 33))
            have z2 := hb2.size
            unfold slV
            clear HC ho2 hb2 q0 q1 f3
            go_wp2_with (first
              | (at_builtin; refine wpList_append_own _ rfl _ _ 56 rfl (w.heap.size + 1) 33 j0 (.slice none 0 0) 1 24 Try.underlying56 hj hy0 hy1 hy2 rfl (by decide) _ ss.length (ss.flatMap elSl.cells) rfl hsG.out.1 ⟨_, 0, none⟩ 1 1 [.slice Ag Lg cg] rfl rfl (one_new _ _ _ (by simp)) (fun u hu => by simp at hu; subst hu; rfl) (by unfold maxLen; omega) (by omega) (by simp; omega) ?_)
              | go_in)
            intro v' w1 hown' hgrow _
            have HP : Hid (OwnsSS w1 (w.heap.size + 1) v' (ss ++ [⟨Ag, Lg, cg⟩]) (rkTo fs (t + 1))) := by
              unfold Hid; rw [HT.out]; exact hss.out.push (s0 := ⟨Ag, Lg, cg⟩) hq2 (by omega) (by have := hr2.out; rw [HR.out] at this; exact this) (Owns.appended (E := elSl) hown') hgrow
            have hbN := bl_grown hbG hgrow (fun g hg => by have := (hsG.out.1.lies g hg).1; omega)
            clear hown' hgrow hsG hbG hr2 hq2 hss
            go_wp2
            refine ⟨?_, by simp [intOf]; omega⟩
            first | exact ⟨t + 1, _, by omega, by go_num, HP, hbN⟩ | ((repeat apply Exists.intro); exact ⟨⟨t + 1, _, by omega, by go_num, HP, hbN⟩, rfl⟩)
        · have hkm : k = m := by omega
          have HT : Hid (rkTo fs (t + 1) = rkTo fs t) := rkTo_no (by unfold rkRow; rw [hlf, ← hkm]; exact hno.out)
          have HS := hss
          rw [← HT.out] at HS
          clear hno hlt hss
          go_wp2
          refine ⟨?_, by simp [intOf]; omega⟩
          first | exact ⟨t + 1, ss, by omega, by go_num, HS, hb⟩ | ((repeat apply Exists.intro); exact ⟨⟨t + 1, ss, by omega, by go_num, HS, hb⟩, rfl⟩)
    · have ht9 : t = 9 := by omega
      subst ht9
      have hs0 := hss
      rw [show rkTo fs 9 = rkTo fs 9 ++ zrTo fs 0 from by rw [zrTo_zero, List.append_nil]] at hs0
      clear hss
      go_wp2_with fail
      have hbs := hb
      obtain ⟨wo, hwo⟩ : ∃ wo, wo = wr := ⟨_, rfl⟩
      subst hwo
      go_loopw [3, 6] (fun v i wr => ∃ (k : Nat) (ss : List Sl), k ≤ m ∧ i = .int .i64 k ∧ Hid (OwnsSS wr (w.heap.size + 1) v ss (rkTo fs 9 ++ zrTo fs k)) ∧ Below w0.heap.size w0 wr) (fun _ i _ => m - (intOf i).toNat)
      case atStart => exact ⟨0, ss, Nat.zero_le _, rfl, hs0, hbs⟩
      case round =>
        clear hs0 hbs hb hwz
        obtain ⟨k, ss, hk, rfl, hss, hb⟩ := hrel
        have hwz := hb.size
        have q1 := (hx0.below hb hx0.lt).cell 1
        simp at q1
        by_cases hlt : k < m
        · obtain ⟨b, o, rfl, _, hc⟩ := h0.fibs.at_ hlt
          obtain ⟨f, hfk⟩ := get_of (k := k) hlf hlt
          have f3 := bl_cell hb (hc k f hfk 3 _ rfl)
          simp only [elFib] at f3
          have hp : Hid ((riskF fs k == 0) = (f.risk == 0)) := by unfold Hid; rw [riskF_of hfk]
          clear hc hfk
          cases g3 : (f.risk == 0)
          · have HN : Hid (zrTo fs (k + 1) = zrTo fs k) := zrTo_no (hp.out.trans g3)
            have HO := hss
            rw [← HN.out] at HO
            clear hp hss
            go_wp2
            refine ⟨?_, by simp [intOf]; omega⟩
            first | exact ⟨k + 1, ss, by omega, by go_num, HO, hb⟩ | ((repeat apply Exists.intro); exact ⟨⟨k + 1, ss, by omega, by go_num, HO, hb⟩, rfl⟩)
          · have HN : Hid (rkTo fs 9 ++ zrTo fs (k + 1) = (rkTo fs 9 ++ zrTo fs k) ++ [[(k : Int)]]) := by unfold Hid; rw [zrTo_yes (hp.out.trans g3), List.append_assoc]
            have hq1 := bl_alloc (Below.refl wr.heap.size wr) (.cells #[.int .i64 k] 3)
            have hq2 := bl_alloc hq1 (.cells #[.slice (some ⟨wr.heap.size, 0, none⟩) 1 1] 33)
            have hbG := bl_then hb hq2
            have hsG := hid (hss.out.below hq2)
            have hr2 : Hid (Owns elInt ((wr.alloc (.cells #[.int .i64 k] 3)).alloc (.cells #[.slice (some ⟨wr.heap.size, 0, none⟩) 1 1] 33)) wr.heap.size 3 (slV ⟨some ⟨wr.heap.size, 0, none⟩, 1, 1⟩) [(k : Int)]) :=
              (show Owns elInt (wr.alloc (.cells #[.int .i64 k] 3)) wr.heap.size 3 (.slice (some ⟨wr.heap.size, 0, none⟩) 1 1) [(k : Int)] from Owns.of_blk (n := 1) (cap := 1) (cur := #[.int .i64 k]) (Blk.new wr 3 #[.int .i64 k]) (Nat.le_refl _) rfl (Nat.le_refl _) rfl (by decide) (filled_int1 _)).below (bl_alloc (Below.refl _ _) _)
            have hsl : ss.length ≤ 9 + k := by have := hsG.out.2.1; have := rkTo_len fs 9; have := zrTo_len fs k; simp at *; omega
            clear hp hq1
            go_wp2_with (first
              | (at_builtin; refine wpList_append_own _ rfl _ _ 56 rfl (w.heap.size + 1) 33 j0 (.slice none 0 0) 1 24 Try.underlying56 hj hy0 hy1 hy2 rfl (by decide) _ ss.length (ss.flatMap elSl.cells) rfl hsG.out.1 ⟨_, 0, none⟩ 1 1 [.slice (some ⟨wr.heap.size, 0, none⟩) 1 1] rfl rfl (one_new _ _ _ (by simp)) (fun u hu => by simp at hu; subst hu; rfl) (by unfold maxLen; omega) (by omega) (by simp; omega) ?_)
              | go_in)
            intro v' w1 hown' hgrow _
            have HP : Hid (OwnsSS w1 (w.heap.size + 1) v' (ss ++ [⟨some ⟨wr.heap.size, 0, none⟩, 1, 1⟩]) (rkTo fs 9 ++ zrTo fs (k + 1))) := by
              unfold Hid; rw [HN.out]; exact hss.out.push (s0 := ⟨some ⟨wr.heap.size, 0, none⟩, 1, 1⟩) hq2 (by omega) hr2.out (Owns.appended (E := elSl) hown') hgrow
            have hbN := bl_grown hbG hgrow (fun g hg => by have := (hsG.out.1.lies g hg).1; omega)
            clear hown' hgrow hsG hbG hr2 hq2 hss
            go_wp2
            refine ⟨?_, by simp [intOf]; omega⟩
            first | exact ⟨k + 1, _, by omega, by go_num, HP, hbN⟩ | ((repeat apply Exists.intro); exact ⟨⟨k + 1, _, by omega, by go_num, HP, hbN⟩, rfl⟩)
        · have hkm : k = m := by omega
          rw [hkm] at hss
          have HG : Hid (groupsL fs = rkTo fs 9 ++ zrTo fs m) := by unfold Hid groupsL; rw [hlf]
          obtain ⟨Ao, co, rfl, _, _, _⟩ := hss.out.1.form
          clear hlt
          go_wp2
          go_ret
          exact ⟨⟨Ao, _, co⟩, ss, rfl, by rw [HG.out]; exact hss.out.base_ (by omega), hb0.trans (hb.mono (by omega))⟩
end Go.Proofs.Ytfepilpllfiegaa
/- RiskGroups of both sides and the reference's FailingWith, walked. Conditions: none. -/
namespace Go.Proofs.Ytfepilpllfiegaa
open Go.RowKit
variable {n c m d : Nat} {A A' : Option Addr} {xs : List ByteArray} {fs : List Fib}
def rgL (xs : List ByteArray) (fs : List Fib) : List (List Int) := if goodB xs fs then groupsL fs else []
def fwB (xs : List ByteArray) (fs : List Fib) (i : Int) : Bool := goodB xs fs && inB 0 ((fs.length : Int) - 1) i
def fwL (xs : List ByteArray) (fs : List Fib) (i : Int) : List Int := if fwB xs fs i then groupL fs i.toNat else []
set_option maxHeartbeats 1000000 in
set_option maxRecDepth 100000 in
theorem implRiskGroups (w : World) (h : NetIs w A n c A' m d xs fs) :
    Calls Try.prog 45 #[.agg #[.slice A n c, .slice A' m d]] w fun e w' => ∃ s ss, e = .returned (.tuple #[slV s, .bool (goodB xs fs)]) ∧ OwnsSS w' w.heap.size (slV s) ss (rgL xs fs) ∧ Below w.heap.size w w' := by
  have hb0 := bl_alloc (Below.refl w.heap.size w) (.cells #[.slice A n c, .slice A' m d] 27)
  have hx0 : Blk (w.alloc (.cells #[.slice A n c, .slice A' m d] 27)) w.heap.size 27 #[.slice A n c, .slice A' m d] := Blk.new _ _ _
  have h0 := h.grow hb0
  cases g : goodB xs fs
  · have H : Hid (rgL xs fs = []) := by unfold Hid rgL; rw [g]; rfl
    go_enter Try.func45, Try.ntmps45
    go_wp2_with fail
    refine (validN _ h0).mono ?_
    rintro e w2 ⟨rfl, hb2⟩
    rw [g]
    go_wp2_with fail
    go_ret2
    exact ⟨⟨none, 0, 0⟩, [], rfl, by rw [H.out]; exact OwnsSS.nil _ _, bl_then hb0 hb2⟩
  · have H : Hid (rgL xs fs = groupsL fs) := by unfold Hid rgL; rw [g]; rfl
    go_enter Try.func45, Try.ntmps45
    go_wp2_with fail
    refine (validN _ h0).mono ?_
    rintro e w2 ⟨rfl, hb2⟩
    rw [g]
    have q0 := (hx0.below hb2 hx0.lt).cell 0
    have q1 := (hx0.below hb2 hx0.lt).cell 1
    simp at q0 q1
    have hbw := bl_then hb0 hb2
    go_wp2_with fail
    refine (groups_any _ (h.grow hbw)).mono ?_
    rintro e w3 ⟨s, ss, rfl, hs, hb3⟩
    have HS := hid hs
    clear hs
    go_wp2_with fail
    go_ret2
    exact ⟨s, ss, rfl, by rw [H.out]; exact HS.out.base_ hbw.size, bl_then hbw hb3⟩
set_option maxHeartbeats 1000000 in
set_option maxRecDepth 100000 in
theorem specRiskGroups (w : World) (h : NetIs w A n c A' m d xs fs) :
    Calls Try.prog 33 #[.agg #[.slice A n c, .slice A' m d]] w fun e w' => ∃ s ss, e = .returned (.tuple #[slV s, .bool (goodB xs fs)]) ∧ OwnsSS w' w.heap.size (slV s) ss (rgL xs fs) ∧ Below w.heap.size w w' := by
  have hb0 := bl_alloc (Below.refl w.heap.size w) (.cells #[.slice A n c, .slice A' m d] 27)
  have hx0 : Blk (w.alloc (.cells #[.slice A n c, .slice A' m d] 27)) w.heap.size 27 #[.slice A n c, .slice A' m d] := Blk.new _ _ _
  have h0 := h.grow hb0
  cases g : goodB xs fs
  · have H : Hid (rgL xs fs = []) := by unfold Hid rgL; rw [g]; rfl
    go_enter Try.func33, Try.ntmps33
    go_wp2_with fail
    refine (goodN _ h0).mono ?_
    rintro e w2 ⟨rfl, hb2⟩
    rw [g]
    go_wp2_with fail
    go_ret2
    have hbw := bl_then hb0 hb2
    exact ⟨⟨some ⟨w2.heap.size, 0, none⟩, 0, 0⟩, [], rfl, by rw [H.out]; exact ⟨Owns.of_blk (E := elSl) (n := 0) (cap := 0) (cur := #[]) (Blk.new w2 33 #[]) hbw.size rfl (Nat.le_refl _) rfl (by decide) (Filled.zero _ _ _), rfl, fun i s r h1 => by simp at h1, fun i j s t g _ h1 => by simp at h1⟩, bl_alloc hbw _⟩
  · have H : Hid (rgL xs fs = groupsL fs) := by unfold Hid rgL; rw [g]; rfl
    go_enter Try.func33, Try.ntmps33
    go_wp2_with fail
    refine (goodN _ h0).mono ?_
    rintro e w2 ⟨rfl, hb2⟩
    rw [g]
    have q0 := (hx0.below hb2 hx0.lt).cell 0
    have q1 := (hx0.below hb2 hx0.lt).cell 1
    simp at q0 q1
    have hbw := bl_then hb0 hb2
    go_wp2_with fail
    refine (l2Groups_any _ (h.grow hbw)).mono ?_
    rintro e w3 ⟨s, ss, rfl, hs, hb3⟩
    have HS := hid hs
    clear hs
    go_wp2_with fail
    go_ret2
    exact ⟨s, ss, rfl, by rw [H.out]; exact HS.out.base_ hbw.size, bl_then hbw hb3⟩
end Go.Proofs.Ytfepilpllfiegaa
/- How many risk groups there are, and how great. Conditions: none. -/
namespace Go.Proofs.Ytfepilpllfiegaa
open Go.RowKit
theorem offS_bd {k : Int} {rows : List (List Int)} {L : Nat} (h : ∀ r ∈ rows, r.length ≤ L) : ∀ j, j ≤ rows.length → offS k rows j ≤ k + ((j * L : Nat) : Int) := by
  intro j
  induction j with
  | zero => intro _; rw [offS_zero]; omega
  | succ j ih =>
    intro hj
    obtain ⟨r, hr⟩ : ∃ r, rows[j]? = some r := ⟨rows[j]'(by omega), List.getElem?_eq_getElem _⟩
    have h1 := ih (by omega)
    have h2 := h r (List.mem_of_getElem? hr)
    rw [offS_succ hr, Nat.add_mul]
    omega
theorem groups_row {fs : List Fib} {r : List Int} (h : r ∈ groupsL fs) : r.length ≤ fs.length + 1 := by
  unfold groupsL rkTo zrTo at h
  rcases List.mem_append.1 h with h | h
  · have h1 := (List.mem_filter.1 h).1
    obtain ⟨t, _, rfl⟩ := List.mem_map.1 h1
    unfold rkRow
    exact Nat.le_trans (idsTo_len _ _) (Nat.le_succ _)
  · obtain ⟨x, _, rfl⟩ := List.mem_map.1 h
    simp
theorem groups_len (fs : List Fib) : (groupsL fs).length ≤ 9 + fs.length := by
  unfold groupsL
  rw [List.length_append]
  have := rkTo_len fs 9
  have := zrTo_len fs fs.length
  omega
theorem rgL_small (xs : List ByteArray) (fs : List Fib) : (rgL xs fs).length ≤ 23 ∧ ∀ r ∈ rgL xs fs, r.length ≤ 15 := by
  unfold rgL
  cases g : goodB xs fs
  · exact ⟨by simp, fun r h => by simp at h⟩
  · have hb := goodB_bd g
    have := groups_len fs
    exact ⟨by simp; omega, fun r h => by simp at h; have := groups_row h; omega⟩
theorem rgL_off (xs : List ByteArray) (fs : List Fib) : offS 1 (rgL xs fs) (rgL xs fs).length ≤ 1000 := by
  obtain ⟨h1, h2⟩ := rgL_small xs fs
  have := offS_bd (k := 1) h2 (rgL xs fs).length (Nat.le_refl _)
  have h3 : (rgL xs fs).length * 15 ≤ 23 * 15 := Nat.mul_le_mul_right _ h1
  omega
end Go.Proofs.Ytfepilpllfiegaa
/- The group that contains a fiber, in plain Lean. Conditions: the network is valid. -/
namespace Go.Proofs.Ytfepilpllfiegaa
theorem mem_idsTo {p : Nat → Bool} {k : Nat} {x : Int} : x ∈ idsTo p k ↔ ∃ j : Nat, j < k ∧ p j = true ∧ x = (j : Int) := by
  unfold idsTo
  rw [List.mem_map]
  constructor
  · rintro ⟨j, hj, rfl⟩
    rw [List.mem_filter] at hj
    exact ⟨j, by simpa using hj.1, hj.2, rfl⟩
  · rintro ⟨j, hj, hp, rfl⟩
    exact ⟨j, List.mem_filter.2 ⟨by simpa using hj, hp⟩, rfl⟩
theorem idsTo_mem {p : Nat → Bool} {k j : Nat} : (j : Int) ∈ idsTo p k ↔ j < k ∧ p j = true := by
  rw [mem_idsTo]
  constructor
  · rintro ⟨i, hi, hp, e⟩
    have : j = i := by omega
    subst this; exact ⟨hi, hp⟩
  · rintro ⟨h1, h2⟩; exact ⟨j, h1, h2, rfl⟩
/-- Where there is one that passes, and all that pass are R, the first one that passes is R. -/
theorem findP_only {α : Type} {p : α → Bool} {l : List α} {R : α} (h1 : R ∈ l) (hp : p R = true) (h2 : ∀ r ∈ l, p r = true → r = R) : ∃ k : Nat, findP p l = k ∧ l[k]? = some R := by
  suffices h : ∀ (l : List α) (k0 : Nat), R ∈ l → (∀ r ∈ l, p r = true → r = R) → ∃ k : Nat, findPF p l k0 = ((k0 + k : Nat) : Int) ∧ l[k]? = some R by
    obtain ⟨k, h3, h4⟩ := h l 0 h1 h2
    exact ⟨k, by unfold findP; rw [h3]; simp, h4⟩
  intro l
  induction l with
  | nil => intro k0 h; cases h
  | cons y l ih =>
    intro k0 h1 h2
    unfold findPF
    by_cases hy : p y = true
    · rw [if_pos hy]
      exact ⟨0, by simp, by simp [h2 y (by simp) hy]⟩
    · rw [if_neg hy]
      have hne : y ≠ R := fun e => hy (e ▸ hp)
      rcases List.mem_cons.1 h1 with e | h3
      · exact absurd e.symm hne
      obtain ⟨k, h4, h5⟩ := ih (k0 + 1) h3 (fun r hr => h2 r (by simp [hr]))
      exact ⟨k + 1, by rw [h4]; congr 1; omega, by simpa using h5⟩
theorem rkTo_mem {fs : List Fib} {t : Nat} {r : List Int} : r ∈ rkTo fs t ↔ (∃ j, j < t ∧ r = rkRow fs j) ∧ r ≠ [] := by
  unfold rkTo
  rw [List.mem_filter, List.mem_map]
  constructor
  · rintro ⟨⟨j, hj, rfl⟩, h⟩
    exact ⟨⟨j, by simpa using hj, rfl⟩, by cases hh : rkRow fs j <;> simp_all⟩
  · rintro ⟨⟨j, hj, rfl⟩, h⟩
    exact ⟨⟨j, by simpa using hj, rfl⟩, by cases hh : rkRow fs j <;> simp_all⟩
theorem zrTo_mem {fs : List Fib} {k : Nat} {r : List Int} : r ∈ zrTo fs k ↔ ∃ j : Nat, j < k ∧ riskF fs j = 0 ∧ r = [(j : Int)] := by
  unfold zrTo
  rw [List.mem_map]
  constructor
  · rintro ⟨x, hx, rfl⟩
    obtain ⟨j, h1, h2, rfl⟩ := mem_idsTo.1 hx
    exact ⟨j, h1, by simpa using h2, rfl⟩
  · rintro ⟨j, h1, h2, rfl⟩
    exact ⟨j, mem_idsTo.2 ⟨j, h1, by simpa using h2, rfl⟩, rfl⟩
section
variable {xs : List ByteArray} {fs : List Fib}
theorem riskF_bd (hg : goodB xs fs = true) {j : Nat} (hj : j < fs.length) : 0 ≤ riskF fs j ∧ riskF fs j ≤ 9 := by
  have h := goodB_fibB hg (List.getElem_mem hj)
  rw [riskF_of (List.getElem?_eq_getElem hj)]
  unfold fibB at h; simp at h; omega
theorem groupL_self {i : Nat} (hi : i < fs.length) : (i : Int) ∈ groupL fs i := by
  unfold groupL
  by_cases h : (riskF fs i == 0) = true
  · rw [if_pos h]; simp
  · rw [if_neg h]; exact idsTo_mem.2 ⟨hi, by simp⟩
theorem groupL_mem {i j : Nat} (hi : i < fs.length) : (j : Int) ∈ groupL fs i ↔ j < fs.length ∧ (i = j ∨ (riskF fs i ≠ 0 ∧ riskF fs j = riskF fs i)) := by
  unfold groupL
  by_cases h : (riskF fs i == 0) = true
  · rw [if_pos h]
    have h0 : riskF fs i = 0 := by simpa using h
    simp
    constructor
    · intro e; have : j = i := by omega
      subst this; exact ⟨hi, .inl rfl⟩
    · rintro ⟨_, e | e⟩
      · omega
      · exact absurd h0 e.1
  · rw [if_neg h, idsTo_mem]
    have h0 : riskF fs i ≠ 0 := by simpa using h
    simp
    intro hj
    constructor
    · intro e; exact .inr ⟨h0, e⟩
    · rintro (rfl | e)
      · rfl
      · exact e.2
/-- The group of fiber i is a group. -/
theorem groupL_in (hg : goodB xs fs = true) {i : Nat} (hi : i < fs.length) : groupL fs i ∈ groupsL fs := by
  unfold groupsL
  rw [List.mem_append]
  by_cases h : (riskF fs i == 0) = true
  · exact .inr (zrTo_mem.2 ⟨i, hi, by simpa using h, by unfold groupL; rw [if_pos h]⟩)
  · have hb := riskF_bd hg hi
    have h0 : riskF fs i ≠ 0 := by simpa using h
    obtain ⟨t, ht⟩ : ∃ t : Nat, riskF fs i = (t : Int) + 1 := ⟨(riskF fs i - 1).toNat, by omega⟩
    have e : groupL fs i = rkRow fs t := groupL_row (by rw [ht]; simp)
    exact .inl (rkTo_mem.2 ⟨⟨t, by omega, e⟩, List.ne_nil_of_mem (groupL_self hi)⟩)
/-- The group that contains fiber i is its group. -/
theorem groupL_only {i : Nat} {r : List Int} (hr : r ∈ groupsL fs) (h : (i : Int) ∈ r) : i < fs.length ∧ r = groupL fs i := by
  unfold groupsL at hr
  rcases List.mem_append.1 hr with hr | hr
  · obtain ⟨⟨t, ht, rfl⟩, _⟩ := rkTo_mem.1 hr
    have h' := h
    unfold rkRow at h'
    obtain ⟨h1, h2⟩ := idsTo_mem.1 h'
    exact ⟨h1, (groupL_row h2).symm⟩
  · obtain ⟨j, hj, h0, rfl⟩ := zrTo_mem.1 hr
    have : i = j := by simp at h; omega
    subst this
    exact ⟨hj, by unfold groupL; rw [if_pos (by simpa using h0)]⟩
/-- The index of the group of a fiber. -/
def grpI (fs : List Fib) (i : Int) : Int := findP (fun r => hasB r i) (groupsL fs)
theorem grp_at (hg : goodB xs fs = true) {i : Nat} (hi : i < fs.length) : ∃ k : Nat, grpI fs i = k ∧ (groupsL fs)[k]? = some (groupL fs i) :=
  findP_only (groupL_in hg hi) (hasB_iff.2 (groupL_self hi)) (fun _ hr hp => (groupL_only hr (hasB_iff.1 hp)).2)
end
end Go.Proofs.Ytfepilpllfiegaa
/- Sides that no fiber joins, in plain Lean: labels never lead from one to the other. Conditions: as each states. -/
namespace Go.Proofs.Ytfepilpllfiegaa
open Go.RowKit
section
variable {q : Nat → Bool} {fs : List Fib} {n : Nat} {P : Nat → Bool}
theorem passTo_side {L : List Int} (hL : L.length = n) (he : endsB n fs) (hq : ∀ i, i < fs.length → q i = false → P (fibD fs i).a.toNat = P (fibD fs i).b.toNat)
    (h : ∀ v, v < n → (0 ≤ valL L v ∧ valL L v < n) ∧ P (valL L v).toNat = P v) : ∀ i, i ≤ fs.length → ∀ v, v < n → (0 ≤ valL (passTo q fs L i) v ∧ valL (passTo q fs L i) v < n) ∧ P (valL (passTo q fs L i) v).toNat = P v := by
  intro i
  induction i with
  | zero => intro _; exact h
  | succ i ih =>
    intro hi v hv
    have ih := ih (by omega)
    rw [passTo_succ]
    cases hqi : q i
    · simp only [Bool.false_eq_true, if_false]
      obtain ⟨h0, h1, h2⟩ := he i (by omega)
      rw [joinF_val (n := n) (by rw [passTo_len, hL]) h0 h1 h2]
      have e := hq i (by omega) hqi
      obtain ⟨a1, a2⟩ := ih (fibD fs i).a.toNat (by omega)
      obtain ⟨b1, b2⟩ := ih (fibD fs i).b.toNat (by omega)
      by_cases hc : v = (fibD fs i).a.toNat ∨ v = (fibD fs i).b.toNat
      · rw [if_pos hc]
        have hPv : P v = P (fibD fs i).a.toNat := by
          rcases hc with e2 | e2
          · rw [e2]
          · rw [e2]; exact e.symm
        rcases Int.le_total (valL (passTo q fs L i) (fibD fs i).a.toNat) (valL (passTo q fs L i) (fibD fs i).b.toNat) with hle | hle
        · rw [Int.min_eq_left hle]; exact ⟨a1, a2.trans hPv.symm⟩
        · rw [Int.min_eq_right hle]; exact ⟨b1, by rw [b2, ← e, hPv]⟩
      · rw [if_neg hc]; exact ih v hv
    · simp only [if_true]; exact ih v hv
theorem comp_side (he : endsB n fs) (hq : ∀ i, i < fs.length → q i = false → P (fibD fs i).a.toNat = P (fibD fs i).b.toNat) {v : Nat} (hv : v < n) : (0 ≤ valL (compL q fs n) v ∧ valL (compL q fs n) v < n) ∧ P (valL (compL q fs n) v).toNat = P v := by
  have key : ∀ k, ∀ v, v < n → (0 ≤ valL (rndL q fs n k) v ∧ valL (rndL q fs n k) v < n) ∧ P (valL (rndL q fs n k) v).toNat = P v := by
    intro k
    induction k with
    | zero =>
      intro v hv
      have e : valL (rndL q fs n 0) v = (v : Int) := by
        show valL (marks 0 n) v = _
        unfold valL
        rw [List.getD_eq_getElem?_getD, marks_get hv]; simp
      rw [e]
      exact ⟨by omega, by rw [Int.toNat_natCast]⟩
    | succ k ih => exact passTo_side (rndL_len k) he hq ih _ (Nat.le_refl _)
  exact key n v hv
/-- Nodes of two sides have two labels. -/
theorem comp_apart (he : endsB n fs) (hq : ∀ i, i < fs.length → q i = false → P (fibD fs i).a.toNat = P (fibD fs i).b.toNat) {a b : Nat} (ha : a < n) (hb : b < n) (h : P a ≠ P b) : valL (compL q fs n) a ≠ valL (compL q fs n) b := by
  intro e
  have h1 := (comp_side he hq ha).2
  have h2 := (comp_side he hq hb).2
  rw [e, h2] at h1
  exact h h1.symm
/-- Without more fibers what was apart stays apart. -/
theorem comp_mono {q' : Nat → Bool} (he : endsB n fs) (hqq : ∀ i, i < fs.length → q i = true → q' i = true) {a b : Nat} (ha : a < n) (hb : b < n) (h : valL (compL q fs n) a ≠ valL (compL q fs n) b) : valL (compL q' fs n) a ≠ valL (compL q' fs n) b := by
  refine comp_apart (P := fun v => decide (valL (compL q fs n) v = valL (compL q fs n) a)) he (fun i hi hq => ?_) ha hb ?_
  · have hqi : q i = false := by
      cases g : q i
      · rfl
      · rw [hqq i hi g] at hq; cases hq
    have e := compL_edge (n := n) he hi hqi
    show decide _ = decide _
    rw [e]
  · intro e
    have e2 : decide (valL (compL q fs n) a = valL (compL q fs n) a) = decide (valL (compL q fs n) b = valL (compL q fs n) a) := e
    rw [decide_eq_true rfl] at e2
    exact h (of_decide_eq_true e2.symm).symm
end
section
variable {xs : List ByteArray} {fs : List Fib} {l : List Int}
theorem goneF_ids {p : Nat → Bool} {i : Nat} (hi : i < fs.length) : goneF (idsTo p fs.length) i = p i := by
  unfold goneF
  rw [Bool.eq_iff_iff, hasB_iff, idsTo_mem]
  exact ⟨fun h => h.2, fun h => ⟨hi, h⟩⟩
theorem between_apart (hg : goodB xs fs = true) (h : fbB xs fs l = true) {a b : Nat} (ha : a < xs.length) (hb : b < xs.length) (h1 : hasB l (a : Int) = true) (h2 : hasB l (b : Int) = false) :
    valL (compL (goneF (fbI xs fs l)) fs xs.length) a ≠ valL (compL (goneF (fbI xs fs l)) fs xs.length) b := by
  refine comp_apart (P := fun v => hasB l (v : Int)) (goodB_ends hg) (fun i hi hq => ?_) ha hb (by show hasB l (a : Int) ≠ hasB l (b : Int); rw [h1, h2]; decide)
  have e : fbI xs fs l = idsTo (crossF fs l) fs.length := by unfold fbI; rw [if_pos h]
  rw [e, goneF_ids hi] at hq
  obtain ⟨h0, h3, h4⟩ := goodB_ends hg i hi
  unfold crossF at hq
  rw [Bool.not_eq_false', beq_iff_eq] at hq
  have e1 : (((fibD fs i).a.toNat : Nat) : Int) = (fibD fs i).a := by omega
  have e2 : (((fibD fs i).b.toNat : Nat) : Int) = (fibD fs i).b := by omega
  show hasB l (((fibD fs i).a.toNat : Nat) : Int) = hasB l (((fibD fs i).b.toNat : Nat) : Int)
  rw [e1, e2]
  exact hq
/-- A node without its fibers has a label of its own. -/
theorem at_apart (hg : goodB xs fs = true) {v u : Nat} (hv : v < xs.length) (hu : u < xs.length) (hne : u ≠ v) :
    valL (compL (goneF (idsTo (touchesF fs (v : Int)) fs.length)) fs xs.length) u ≠ (v : Int) ∧ valL (compL (goneF (idsTo (touchesF fs (v : Int)) fs.length)) fs xs.length) v = (v : Int) := by
  have key := fun (w : Nat) (hw : w < xs.length) => comp_side (q := goneF (idsTo (touchesF fs (v : Int)) fs.length)) (P := fun w => decide (w = v)) (goodB_ends hg) (fun i hi hq => by
    rw [goneF_ids hi] at hq
    obtain ⟨h0, h3, h4⟩ := goodB_ends hg i hi
    have e : touchesF fs (v : Int) i = ((fibD fs i).a == (v : Int) || (fibD fs i).b == (v : Int)) := rfl
    rw [e, Bool.or_eq_false_iff, beq_eq_false_iff_ne, beq_eq_false_iff_ne] at hq
    show decide _ = decide _
    rw [decide_eq_false (by omega), decide_eq_false (by omega)]) hw
  obtain ⟨⟨a1, a2⟩, a3⟩ := key v hv
  obtain ⟨⟨b1, b2⟩, b3⟩ := key u hu
  rw [decide_eq_true rfl, decide_eq_true_eq] at a3
  rw [decide_eq_false hne, decide_eq_false_iff_not] at b3
  constructor
  · intro e; rw [e] at b3; exact b3 (Int.toNat_natCast _)
  · omega
theorem asc_ris {m : Nat} {xs : List Int} (h : xs.Pairwise (· < ·)) (hb : ∀ x ∈ xs, 0 ≤ x ∧ x < m) : risB 0 ((m : Int) - 1) xs = true := by
  unfold risB
  refine allB_iff.2 fun k hk => ?_
  have hm := hb _ (List.getElem_mem hk)
  have e : xs.getD k 0 = xs[k] := getD_of (List.getElem?_eq_getElem hk)
  unfold riseAt
  rw [e, Bool.and_eq_true]
  refine ⟨by unfold inB; simp; omega, ?_⟩
  rw [Bool.not_eq_true', Bool.and_eq_false_iff, decide_eq_false_iff_not, decide_eq_false_iff_not]
  rcases Nat.eq_zero_or_pos k with h0 | h0
  · left; omega
  · right
    have h1 := (List.pairwise_iff_getElem.1 h) (k - 1) k (by omega) hk (by omega)
    have e2 : xs.getD (k - 1) 0 = xs[k - 1] := getD_of (List.getElem?_eq_getElem (by omega))
    rw [e2]; omega
theorem ids_asc (p : Nat → Bool) (m : Nat) : (idsTo p m).Pairwise (· < ·) := by
  unfold idsTo
  rw [List.pairwise_map]
  exact (List.pairwise_lt_range.filter _).imp fun h => by omega
theorem riseAt_ids {p : Nat → Bool} {m : Nat} : risB 0 ((m : Int) - 1) (idsTo p m) = true :=
  asc_ris (ids_asc p m) fun x hx => by obtain ⟨j, hj, _, rfl⟩ := mem_idsTo.1 hx; omega
theorem at_cut (hg : goodB xs fs = true) {v : Nat} (hv : v < xs.length) : coB xs fs (faI xs fs (v : Int)) = true ∧ icB xs fs (faI xs fs (v : Int)) = false := by
  have hf : faB xs fs (v : Int) = true := by unfold faB inB; rw [hg]; simp; omega
  have e : faI xs fs (v : Int) = idsTo (touchesF fs (v : Int)) fs.length := by unfold faI; rw [if_pos hf]
  have hc : coB xs fs (idsTo (touchesF fs (v : Int)) fs.length) = true := by unfold coB; rw [hg, riseAt_ids]; rfl
  rw [e]
  refine ⟨hc, ?_⟩
  have hn := (goodB_bd hg).1
  unfold icB coL
  rw [hc, if_pos rfl, Bool.true_and, List.all_eq_false]
  have hlen : (compL (goneF (idsTo (touchesF fs (v : Int)) fs.length)) fs xs.length).length = xs.length := compL_len
  have get := fun (u : Nat) (hu : u < xs.length) => List.mem_of_getElem? (valL_get (L := compL (goneF (idsTo (touchesF fs (v : Int)) fs.length)) fs xs.length) (v := u) (by omega))
  by_cases h0 : v = 0
  · have h1 := (at_apart hg hv (u := 1) (by omega) (by omega)).1
    refine ⟨_, get 1 (by omega), ?_⟩
    rw [h0] at h1 ⊢
    simpa using h1
  · have h1 := (at_apart hg hv (u := 0) (by omega) (by omega)).2
    refine ⟨_, get v hv, ?_⟩
    rw [h1]
    simp; omega
end
end Go.Proofs.Ytfepilpllfiegaa
/- Choices of so many numbers, in plain Lean: the first list for which something holds, in two spellings. Conditions: none. -/
namespace Go.Proofs.Ytfepilpllfiegaa
/-- The first of f k, f (k + 1), .. (r of them) that is there. -/
def firstO {α : Type} (f : Nat → Option α) (k : Nat) : Nat → Option α
  | 0 => none
  | r + 1 => match f k with
    | some x => some x
    | none => firstO f (k + 1) r
section
variable {α : Type} {f g : Nat → Option α} {k r : Nat}
theorem firstO_zero : firstO f k 0 = none := rfl
theorem firstO_some {x : α} (h : f k = some x) : firstO f k (r + 1) = some x := by unfold firstO; rw [h]
theorem firstO_none (h : f k = none) : firstO f k (r + 1) = firstO f (k + 1) r := by
  show (match f k with | some x => some x | none => firstO f (k + 1) r) = _
  rw [h]
theorem firstO_congr (h : ∀ i, k ≤ i → i < k + r → f i = g i) : firstO f k r = firstO g k r := by
  induction r generalizing k with
  | zero => rfl
  | succ r ih =>
    have h0 := h k (Nat.le_refl _) (by omega)
    have h1 := ih (k := k + 1) (fun i h1 h2 => h i (by omega) (by omega))
    cases hf : f k with
    | some x => rw [firstO_some hf, firstO_some (h0 ▸ hf)]
    | none => rw [firstO_none hf, firstO_none (h0 ▸ hf), h1]
theorem firstO_all (h : ∀ i, k ≤ i → i < k + r → f i = none) : firstO f k r = none := by
  induction r generalizing k with
  | zero => rfl
  | succ r ih => rw [firstO_none (h k (Nat.le_refl _) (by omega))]; exact ih fun i h1 h2 => h i (by omega) (by omega)
/-- Behind the first q there is none. -/
theorem firstO_short {q : Nat} (h : ∀ i, k + q ≤ i → i < k + r → f i = none) (hq : q ≤ r) : firstO f k r = firstO f k q := by
  induction r generalizing k q with
  | zero => rw [show q = 0 by omega]
  | succ r ih =>
    cases q with
    | zero => rw [firstO_all (fun i h1 h2 => h i (by omega) (by omega))]; rfl
    | succ q =>
      cases hf : f k with
      | some x => rw [firstO_some hf, firstO_some hf]
      | none => rw [firstO_none hf, firstO_none hf]; exact ih (fun i h1 h2 => h i (by omega) (by omega)) (by omega)
theorem firstO_map {β : Type} {u : α → β} : firstO (fun i => (f i).map u) k r = (firstO f k r).map u := by
  induction r generalizing k with
  | zero => rfl
  | succ r ih =>
    cases hf : f k with
    | some x => rw [firstO_some hf, firstO_some (x := u x) (by rw [hf]; rfl)]; rfl
    | none => rw [firstO_none hf, firstO_none (by rw [hf]; rfl), ih]
/-- The last one, if there is none before. -/
theorem firstO_last : firstO f k (r + 1) = match firstO f k r with | some x => some x | none => f (k + r) := by
  induction r generalizing k with
  | zero =>
    cases hf : f k with
    | some x => rw [firstO_some hf]; rfl
    | none => rw [firstO_none hf]; rfl
  | succ r ih =>
    cases hf : f k with
    | some x => rw [firstO_some hf, firstO_some hf]
    | none => rw [firstO_none hf, firstO_none hf, ih, show k + 1 + r = k + (r + 1) by omega]
end
/-- The program's: the list so far stands ahead. -/
def chooseL (p : List Int → Bool) (n : Nat) : Nat → Nat → List Int → Option (List Int)
  | 0, _, L => if p L then some L else none
  | c + 1, s, L => firstO (fun k => chooseL p n c (k + 1) (L ++ [(k : Int)])) s (n - s)
/-- The reference's: the rest of the list alone; a set is a number. -/
def chooseS (q : Nat → Bool) (S : Nat → Nat) (n : Nat) : Nat → Nat → Nat → Option (List Int)
  | 0, _, M => if q M then some [] else none
  | c + 1, s, M => firstO (fun i => (chooseS q S n c (i + 1) (M ||| S i)).map fun R => (i : Int) :: R) s (n - c - s)
/-- The sets of a list. -/
def unionS (S : Nat → Nat) (L : List Int) : Nat := L.foldl (fun M x => M ||| S x.toNat) 0
theorem unionS_nil (S : Nat → Nat) : unionS S [] = 0 := rfl
theorem unionS_add (S : Nat → Nat) (L : List Int) (k : Nat) : unionS S (L ++ [(k : Int)]) = unionS S L ||| S k := by simp [unionS]
section
variable {p : List Int → Bool} {q : Nat → Bool} {S : Nat → Nat} {n : Nat}
theorem chooseL_few : ∀ (c s : Nat) (L : List Int), n - s < c → chooseL p n c s L = none := by
  intro c
  induction c with
  | zero => intro s L h; omega
  | succ c ih =>
    intro s L h
    exact firstO_all fun i h1 h2 => ih _ _ (by omega)
/-- Numbers below n. -/
def lowL (n : Nat) (L : List Int) : Prop := ∀ x ∈ L, 0 ≤ x ∧ x < n
theorem lowL_add {L : List Int} {k : Nat} (h : lowL n L) (hk : k < n) : lowL n (L ++ [(k : Int)]) := by
  intro x hx
  rcases List.mem_append.1 hx with h1 | h1
  · exact h x h1
  · rw [List.mem_singleton] at h1; omega
theorem chooseL_eq (hp : ∀ L, lowL n L → p L = q (unionS S L)) : ∀ (c s : Nat) (L : List Int), lowL n L → chooseL p n c s L = (chooseS q S n c s (unionS S L)).map fun R => L ++ R := by
  intro c
  induction c with
  | zero =>
    intro s L hL
    show (if p L then some L else none) = (if q (unionS S L) then some [] else none).map _
    rw [hp L hL]
    cases q (unionS S L) <;> simp
  | succ c ih =>
    intro s L hL
    show firstO (fun k => chooseL p n c (k + 1) (L ++ [(k : Int)])) s (n - s) = (firstO _ s (n - c - s)).map _
    rw [firstO_short (q := n - c - s) (fun i h1 h2 => chooseL_few _ _ _ (by omega)) (by omega), ← firstO_map]
    refine firstO_congr fun i h1 h2 => ?_
    rw [ih _ _ (lowL_add hL (by omega)), unionS_add, Option.map_map]
    congr 1
    funext R
    simp
/-- All from s on. -/
def fromL (n s : Nat) : List Int := (List.range' s (n - s)).map fun (j : Nat) => (j : Int)
theorem fromL_cons {s : Nat} (h : s < n) : fromL n s = (s : Int) :: fromL n (s + 1) := by
  unfold fromL
  rw [show n - s = (n - (s + 1)) + 1 by omega, List.range'_succ]; rfl
theorem chooseL_whole : ∀ (c s : Nat) (L : List Int), s + c = n → p (L ++ fromL n s) = true → chooseL p n c s L = some (L ++ fromL n s) := by
  intro c
  induction c with
  | zero =>
    intro s L hs h
    have e : fromL n s = [] := by unfold fromL; rw [show n - s = 0 by omega]; rfl
    rw [e, List.append_nil] at h ⊢
    show (if p L then some L else none) = _
    rw [h]; rfl
  | succ c ih =>
    intro s L hs h
    rw [fromL_cons (by omega), List.append_cons] at h ⊢
    have h1 := ih (s + 1) (L ++ [(s : Int)]) (by omega) h
    show firstO _ s (n - s) = _
    rw [show n - s = (n - s - 1) + 1 by omega]
    exact firstO_some h1
/-- The program's first list of the fewest. -/
def fewL (p : List Int → Bool) (n : Nat) : Option (List Int) := firstO (fun c => chooseL p n c 0 []) 0 (n + 1)
/-- The reference's. -/
def cutS (q : Nat → Bool) (S : Nat → Nat) (n : Nat) : List Int := (firstO (fun c => chooseS q S n c 0 0) 0 n).getD (fromL n 0)
theorem fewL_eq (hp : ∀ L, lowL n L → p L = q (unionS S L)) (hall : p (fromL n 0) = true) : fewL p n = some (cutS q S n) := by
  have h0 : lowL n ([] : List Int) := fun x hx => by cases hx
  have hc : ∀ c, chooseL p n c 0 [] = chooseS q S n c 0 0 := fun c => by
    rw [chooseL_eq hp c 0 [] h0, unionS_nil]
    cases chooseS q S n c 0 0 <;> simp
  unfold fewL cutS
  rw [firstO_last]
  rw [firstO_congr (f := fun c => chooseL p n c 0 []) (g := fun c => chooseS q S n c 0 0) (fun i _ _ => hc i)]
  cases firstO (fun c => chooseS q S n c 0 0) 0 n with
  | some x => rfl
  | none =>
    show chooseL p n (0 + n) 0 [] = some (fromL n 0)
    rw [Nat.zero_add, chooseL_whole n 0 [] (by omega) (by simpa using hall)]; simp
/-- What is found is a list of numbers below n. -/
theorem chooseL_low : ∀ (c s : Nat) (L R : List Int), lowL n L → chooseL p n c s L = some R → lowL n R ∧ R.length = L.length + c ∧ p R = true := by
  intro c
  induction c with
  | zero =>
    intro s L R hL h
    have h : (if p L then some L else none) = some R := h
    split at h
    · rename_i hpL
      injection h with h; subst h; exact ⟨hL, rfl, hpL⟩
    · cases h
  | succ c ih =>
    intro s L R hL h
    have h : firstO (fun k => chooseL p n c (k + 1) (L ++ [(k : Int)])) s (n - s) = some R := h
    have key : ∀ r k, k + r ≤ n → firstO (fun k => chooseL p n c (k + 1) (L ++ [(k : Int)])) k r = some R → lowL n R ∧ R.length = L.length + (c + 1) ∧ p R = true := by
      intro r
      induction r with
      | zero => intro k _ h; cases h
      | succ r ihr =>
        intro k hk h
        cases hf : chooseL p n c (k + 1) (L ++ [(k : Int)]) with
        | some x =>
          rw [firstO_some hf] at h
          injection h with h; subst h
          have := ih _ _ _ (lowL_add hL (by omega)) hf
          simp at this
          exact ⟨this.1, by omega, this.2.2⟩
        | none => rw [firstO_none hf] at h; exact ihr (k + 1) (by omega) h
    rcases Nat.lt_or_ge n s with h1 | h1
    · rw [show n - s = 0 by omega] at h; cases h
    · exact key _ _ (by omega) h
theorem fewL_low {R : List Int} (h : fewL p n = some R) : lowL n R ∧ R.length ≤ n ∧ p R = true := by
  have h0 : lowL n ([] : List Int) := fun x hx => by cases hx
  unfold fewL at h
  have key : ∀ r k, k + r ≤ n + 1 → firstO (fun c => chooseL p n c 0 []) k r = some R → lowL n R ∧ R.length ≤ n ∧ p R = true := by
    intro r
    induction r with
    | zero => intro k _ h; cases h
    | succ r ihr =>
      intro k hk h
      cases hf : chooseL p n k 0 [] with
      | some x =>
        rw [firstO_some hf] at h
        injection h with h; subst h
        have := chooseL_low _ _ _ _ h0 hf
        simp at this
        exact ⟨this.1, by omega, this.2.2⟩
      | none => rw [firstO_none hf] at h; exact ihr (k + 1) (by omega) h
  exact key _ _ (by omega) h
end
end Go.Proofs.Ytfepilpllfiegaa
