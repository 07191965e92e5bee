/- Lemmas and walks that the claim rests on, laid together. Conditions: none. -/
import Derived.Test.YtfepilpllfiegaaRows
import Derived.Test.YtfepilpllfiegaaZc731a5b1582e
import Derived.Test.YtfepilpllfiegaaZ76d3d4a5ee99
import Derived.Test.YtfepilpllfiegaaZ9c180253184b
import Derived.Test.YtfepilpllfiegaaZf3c2460d17f0
import Derived.Deep.RegionHeld3
/- slices.IndexFunc and ContainsFunc over numbers, walked, at a closure that answers p. Conditions: none. -/
namespace Go.Proofs.Ytfepilpllfiegaa
open Go.RowKit
/-- None of the first k passes p. -/
def noneP {α : Type} (p : α → Bool) (l : List α) (k : Nat) : Prop := ∀ j x, j < k → l[j]? = some x → p x = false
theorem noneP_zero {α : Type} (p : α → Bool) (l : List α) : noneP p l 0 := fun j _ hj => by omega
theorem noneP_succ {α : Type} {p : α → Bool} {l : List α} {k : Nat} {x : α} (h : noneP p l k) (hx : l[k]? = some x) (hp : p x = false) : noneP p l (k + 1) := by
  intro j y hj hy
  rcases Nat.lt_succ_iff_lt_or_eq.1 hj with hlt | rfl
  · exact h j y hlt hy
  · rw [hx] at hy; injection hy with hy; subst hy; exact hp
/-- The index of the first element that passes p, or -1. -/
def findPF {α : Type} (p : α → Bool) : List α → Nat → Int
  | [], _ => -1
  | y :: l, k => if p y then (k : Int) else findPF p l (k + 1)
def findP {α : Type} (p : α → Bool) (l : List α) : Int := findPF p l 0
theorem findPF_at {α : Type} {p : α → Bool} : ∀ {l : List α} {k0 k : Nat} {x : α}, l[k]? = some x → p x = true → noneP p l k → findPF p l k0 = ((k0 + k : Nat) : Int) := by
  intro l
  induction l with
  | nil => intro k0 k x h; simp at h
  | cons y l ih =>
    intro k0 k x h hp hn
    unfold findPF
    cases k with
    | zero => simp at h; rw [h, if_pos hp]; rfl
    | succ k =>
      rw [if_neg (by rw [hn 0 y (Nat.succ_pos _) (by simp)]; decide)]
      rw [ih (k := k) (by simpa using h) hp (fun j z hj hz => hn (j + 1) z (by omega) (by simpa using hz))]
      congr 1; omega
theorem findP_at {α : Type} {p : α → Bool} {l : List α} {k : Nat} {x : α} (h : noneP p l k) (hx : l[k]? = some x) (hp : p x = true) : findP p l = k := by
  have := findPF_at (k0 := 0) hx hp h
  simpa [findP] using this
theorem findPF_neg {α : Type} {p : α → Bool} : ∀ {l : List α} {k0 : Nat}, (0 ≤ findPF p l k0 ↔ l.any p = true) ∧ -1 ≤ findPF p l k0 := by
  intro l
  induction l with
  | nil => intro k0; simp [findPF]
  | cons y l ih =>
    intro k0
    unfold findPF
    by_cases h : p y = true
    · rw [if_pos h]; simp [h]
    · rw [if_neg h]; simp only [List.any_cons]; rw [show p y = false by simpa using h]; simpa using ih
theorem findP_ge {α : Type} {p : α → Bool} {l : List α} : 0 ≤ findP p l ↔ l.any p = true := findPF_neg.1
theorem findP_none {α : Type} {p : α → Bool} {l : List α} {n : Nat} (hl : l.length = n) (h : noneP p l n) : findP p l = -1 := by
  have h1 := findPF_neg (p := p) (l := l) (k0 := 0)
  have h2 : ¬ (l.any p = true) := by
    intro ha
    obtain ⟨x, hx, hp⟩ := List.any_eq_true.1 ha
    obtain ⟨i, hi, e⟩ := List.mem_iff_getElem.1 hx
    have := h i x (by omega) (by rw [List.getElem?_eq_getElem hi, e])
    rw [this] at hp; cases hp
  unfold findP
  have := h1.2
  have h3 : ¬ (0 ≤ findPF p l 0) := fun h => h2 (h1.1.1 h)
  omega
section
variable {B n c : Nat} {A : Option Addr} {xs : List Int} {F : FuncId} {cap : Array Value}
set_option maxRecDepth 100000 in
theorem indexFuncI_any (p : Int → Bool) (w : World) (hA : Sees elInt w B A n xs) (hn : n ≤ 1048576)
    (hcall : ∀ args wr, (callFunc F args).run Try.prog wr = .ok (.enter F args) wr)
    (hF : ∀ x w', x ∈ xs → Cls w w' → Calls Try.prog F (#[.int .i64 x] ++ cap) w' fun e w2 => e = .returned (.bool (p x)) ∧ Below w'.heap.size w' w2) :
    Calls Try.prog 153 #[.slice A n c, .func (.func F) #[] cap] w fun e w' => e = .returned (.int .i64 (findP p xs)) ∧ Below w.heap.size w w' := by
  have HF := hid hF
  clear hF
  go_enter Try.func153, Try.ntmps153
  go_wp2
  go_loopw [8] (fun i wr => ∃ k : Nat, k ≤ n ∧ i = .int .i64 k ∧ Hid (noneP p xs k) ∧ Below w.heap.size w wr) (fun i _ => n - (intOf i).toNat)
  case atStart => exact ⟨0, Nat.zero_le _, rfl, noneP_zero _ _, Below.refl _ _⟩
  case round =>
    obtain ⟨k, hk, rfl, hno, hb⟩ := hrel
    by_cases hlt : k < n
    · obtain ⟨b, o, rfl, _, hc⟩ := hA.at_ hlt
      obtain ⟨x, hxk⟩ : ∃ x, xs[k]? = some x := ⟨xs[k]'(by rw [hA.len]; exact hlt), List.getElem?_eq_getElem _⟩
      have hcx := bl_cell hb (hc k x hxk 0 _ rfl)
      simp only [elInt, Nat.mul_one, Nat.add_zero] at hcx
      have HC := hid (HF.out x wr (List.mem_of_getElem? hxk) hb)
      clear hc
      go_wp2_with fail
      refine HC.out.mono ?_
      rintro e w' ⟨rfl, hb2⟩
      have hbb : Below w.heap.size w w' := bl_then hb hb2
      clear HC hcx hb hb2
      by_cases hp : p x = true
      · have HR := hid (findP_at hno.out hxk hp)
        clear hno hxk
        rw [hp]
        go_wp2_with fail
        go_ret
        exact ⟨by rw [HR.out]; rfl, hbb⟩
      · have hp' : p x = false := by simpa using hp
        have HR := hid (noneP_succ hno.out hxk hp')
        clear hno hxk
        rw [hp']
        go_wp2_with fail
        exact ⟨⟨k + 1, by omega, by go_num, HR, hbb⟩, by simp [intOf]; omega⟩
    · have HN := hid (findP_none (p := p) hA.len (by obtain rfl : k = n := (by omega); exact hno.out))
      clear hno
      go_wp2
      go_ret
      exact ⟨by rw [HN.out]; rfl, hb⟩
set_option maxRecDepth 100000 in
theorem containsFuncI_any (p : Int → Bool) (w : World) (hA : Sees elInt w B A n xs) (hn : n ≤ 1048576)
    (hcall : ∀ args wr, (callFunc F args).run Try.prog wr = .ok (.enter F args) wr)
    (hF : ∀ x w', x ∈ xs → Cls w w' → Calls Try.prog F (#[.int .i64 x] ++ cap) w' fun e w2 => e = .returned (.bool (p x)) ∧ Below w'.heap.size w' w2) :
    Calls Try.prog 120 #[.slice A n c, .func (.func F) #[] cap] w fun e w' => e = .returned (.bool (xs.any p)) ∧ Below w.heap.size w w' := by
  have HC := hid (indexFuncI_any (c := c) p w hA hn hcall hF)
  have H : Hid (decide (0 ≤ findP p xs) = xs.any p) := by
    unfold Hid
    cases g : xs.any p
    · exact decide_eq_false (fun h => by have := findP_ge.1 h; rw [g] at this; cases this)
    · exact decide_eq_true (findP_ge.2 g)
  clear hcall hF hA
  go_enter Try.func120, Try.ntmps120
  go_wp2_with fail
  refine HC.out.mono ?_
  rintro e w' ⟨rfl, hb⟩
  go_wp2_with fail
  go_ret
  exact ⟨by rw [← H.out]; rfl, hb⟩
end
end Go.Proofs.Ytfepilpllfiegaa
/- impl.isNode walked, at any world. Conditions: none. -/
namespace Go.Proofs.Ytfepilpllfiegaa
open Go.RowKit
variable {n c m d : Nat} {A A' : Option Addr} {xs : List ByteArray} {fs : List Fib}
set_option maxRecDepth 100000 in
theorem isNodeC (x : Int) (w : World) (g : Nat) (a a' : Value) (hn : a = .slice A n c) (hg : Blk w g 27 #[a, a']) (hle : n ≤ 1048576) :
    Calls Try.prog 121 #[.int .i64 x, .pointer (some ⟨g, 0, none⟩)] w fun e w' => e = .returned (.bool (!inB 0 ((n : Int) - 1) x)) ∧ Below w.heap.size w w' := by
  subst hn
  have q0 := hg.cell 0
  simp at q0
  go_enter Try.func121, Try.ntmps121
  go_wp2_with fail
  refine (within_any _ _ _ _).mono ?_
  rintro e w2 ⟨rfl, rfl⟩
  go_wp2_with fail
  go_ret
  exact ⟨rfl, Below.refl _ _⟩
/-- Every number of the list is a node's. -/
def nodesB (n : Nat) (vs : List Int) : Bool := !(vs.any fun x => !inB 0 ((n : Int) - 1) x)
set_option maxRecDepth 100000 in
theorem isNode_any {B k c' : Nat} {V : Option Addr} {vs : List Int} (w : World) (h : NetIs w A n c A' m d xs fs) (hv : Sees elInt w B V k vs) (hk : k ≤ 1048576) :
    Calls Try.prog 56 #[.agg #[.slice A n c, .slice A' m d], .slice V k c'] w fun e w' => e = .returned (.bool (goodB xs fs && nodesB n vs)) ∧ Below w.heap.size w w' := by
  have hb0 := bl_alloc (Below.refl w.heap.size w) (.cells #[.slice A n c, .slice A' m d] 27)
  have hx0 : Blk (w.alloc (.cells #[.slice A n c, .slice A' m d] 27)) w.heap.size 27 #[.slice A n c, .slice A' m d] := Blk.new _ _ _
  have h0 := h.grow hb0
  have hle := h.nle
  have hv0 := hv.grow hb0
  cases g : goodB xs fs
  · clear hv0
    go_enter Try.func56, Try.ntmps56
    go_wp2_with fail
    refine (validN _ h0).mono ?_
    rintro e w2 ⟨rfl, hb2⟩
    rw [g]
    go_wp2_with fail
    go_ret
    exact ⟨rfl, bl_then hb0 hb2⟩
  · go_enter Try.func56, Try.ntmps56
    go_wp2_with fail
    refine (validN _ h0).mono ?_
    rintro e w2 ⟨rfl, hb2⟩
    rw [g]
    have hx2 := hx0.below hb2 hx0.lt
    have hv2 := hv0.grow hb2
    clear hx0 hv0 hv
    go_wp2_with fail
    refine (containsFuncI_any (cap := #[.pointer (some ⟨w.heap.size, 0, none⟩)]) (fun x => !inB 0 ((n : Int) - 1) x) _ hv2 hk (fun _ _ => by rfl) (fun x w' _ hw' => isNodeC x w' w.heap.size _ _ rfl (hx2.below hw' hx2.lt) hle)).mono ?_
    rintro e w3 ⟨rfl, hb3⟩
    go_wp2_with fail
    go_ret
    exact ⟨rfl, bl_then (bl_then hb0 hb2) hb3⟩
end Go.Proofs.Ytfepilpllfiegaa
/- impl.FibersAt and spec.FibersAt walked. Conditions: none. -/
namespace Go.Proofs.Ytfepilpllfiegaa
open Go.RowKit
variable {n c m d : Nat} {A A' : Option Addr} {xs : List ByteArray} {fs : List Fib}
/-- What the reference asks of fiber j. -/
def endsF (fs : List Fib) (v : Int) (j : Nat) : Bool := decide (0 ≤ otherF (fs.getD j ⟨0, 0, 0, 0⟩) v)
theorem ends_eq {v : Int} (hg : goodB xs fs = true) {j : Nat} (hj : j < fs.length) : endsF fs v j = touchesF fs v j := by
  obtain ⟨f, hf⟩ := get_of (k := j) rfl hj
  have hb := goodB_fibB hg (List.mem_of_getElem? hf)
  unfold endsF touchesF
  rw [getD_of hf]
  unfold fibB at hb
  simp at hb
  unfold otherF
  by_cases h1 : v = f.a
  · rw [if_pos h1]; simp [h1]; omega
  · rw [if_neg h1]
    by_cases h2 : v = f.b
    · rw [if_pos h2]; simp [h2]; omega
    · rw [if_neg h2]
      have e1 : (f.a == v) = false := by simp; omega
      have e2 : (f.b == v) = false := by simp; omega
      rw [e1, e2]; rfl
def faB (xs : List ByteArray) (fs : List Fib) (v : Int) : Bool := goodB xs fs && inB 0 ((xs.length : Int) - 1) v
def faI (xs : List ByteArray) (fs : List Fib) (v : Int) : List Int := if faB xs fs v then idsTo (touchesF fs v) fs.length else []
theorem faI_ends {v : Int} (hg : goodB xs fs = true) (h : faB xs fs v = true) : faI xs fs v = idsTo (endsF fs v) fs.length := by
  unfold faI; rw [if_pos h]; exact idsTo_congr (fun j hj => (ends_eq hg hj).symm)
theorem faI_len (v : Int) : (faI xs fs v).length ≤ fs.length := by unfold faI; split; exact idsTo_len _ _; exact Nat.zero_le _
theorem nodesB_one (x : Int) : nodesB n [x] = inB 0 ((n : Int) - 1) x := by simp [nodesB]
theorem sees_one (w : World) (x : Int) (t : TypeId) : Sees elInt (w.alloc (.cells #[.int .i64 x] t)) (w.heap.size + 1) (some ⟨w.heap.size, 0, none⟩) 1 [x] := by
  refine ⟨rfl, .inr ⟨_, _, rfl, Nat.lt_succ_self _, fun k y hy j u hu => ?_⟩⟩
  match k, hy with
  | 0, hy =>
    simp at hy; subst hy
    match j, hu with
    | 0, hu => simp [elInt] at hu; subst hu; simp [elInt]
set_option maxHeartbeats 1000000 in
set_option maxRecDepth 100000 in
theorem specFibersAt (x : Int) (w : World) (h : NetIs w A n c A' m d xs fs) :
    Calls Try.prog 26 #[.agg #[.slice A n c, .slice A' m d], .int .i64 x] w fun e w' => ∃ v, e = .returned (.tuple #[v, .bool (faB xs fs x)]) ∧ Owns elInt w' w.heap.size 3 v (faI xs fs x) ∧ Below w.heap.size w w' := by
  obtain ⟨i0, hi, hz0, hz1, hz2⟩ := info_parts int_info
  have hb0 := bl_alloc (Below.refl w.heap.size w) (.cells #[.slice A n c, .slice A' m d] 27)
  have hx0 : Blk (w.alloc (.cells #[.slice A n c, .slice A' m d] 27)) w.heap.size 27 #[.slice A n c, .slice A' m d] := Blk.new _ _ _
  have h0 := h.grow hb0
  have hlx := h.xlen
  have hlf := h.flen
  have hm := h.mle
  have hn := h.nle
  have hbe : Below (w.alloc (.cells #[.slice A n c, .slice A' m d] 27)).heap.size (w.alloc (.cells #[.slice A n c, .slice A' m d] 27)) ((w.alloc (.cells #[.slice A n c, .slice A' m d] 27)).alloc (.cells #[] 3)) := bl_alloc (Below.refl _ _) _
  have hoe : Hid (Owns elInt ((w.alloc (.cells #[.slice A n c, .slice A' m d] 27)).alloc (.cells #[] 3)) (w.heap.size + 1) 3 (.slice (some ⟨w.heap.size + 1, 0, none⟩) 0 0) []) :=
    Owns.of_blk (n := 0) (cap := 0) (cur := #[]) (by have := Blk.new (w.alloc (.cells #[.slice A n c, .slice A' m d] 27)) 3 #[]; simpa using this) (Nat.le_refl _) rfl (Nat.le_refl _) rfl (by decide) (Filled.zero _ _ _)
  have hsz0 : (w.alloc (.cells #[.slice A n c, .slice A' m d] 27)).heap.size = w.heap.size + 1 := by simp
  have h1 := h0.grow hbe
  cases g : goodB xs fs
  · have H : Hid (faB xs fs x = false ∧ faI xs fs x = []) := by unfold Hid faI faB; rw [g]; exact ⟨rfl, rfl⟩
    clear hlx hlf
    go_enter Try.func26, Try.ntmps26
    go_wp2_with fail
    refine (goodN _ h1).mono ?_
    rintro e w2 ⟨rfl, hb2⟩
    rw [g]
    have hoe2 := hid (hoe.out.below hb2)
    clear hoe
    go_wp2_with fail
    go_ret2
    exact ⟨_, by rw [H.out.1]; rfl, by rw [H.out.2]; exact hoe2.out.base (by omega), bl_then (bl_alloc hb0 _) hb2⟩
  · cases g2 : inB 0 ((n : Int) - 1) x
    · have H : Hid (faB xs fs x = false ∧ faI xs fs x = []) := by unfold Hid faI faB; rw [g, hlx, g2]; exact ⟨rfl, rfl⟩
      clear hlx hlf
      go_enter Try.func26, Try.ntmps26
      go_wp2_with fail
      refine (goodN _ h1).mono ?_
      rintro e w2 ⟨rfl, hb2⟩
      rw [g]
      have hoe2 := hid (hoe.out.below hb2)
      have q0 := ((hx0.below hbe hx0.lt).below hb2 (by simp; omega)).cell 0
      simp at q0
      clear hoe
      go_wp2_with fail
      refine (l1In_any _ _ _ _).mono ?_
      rintro e w3 ⟨rfl, rfl⟩
      rw [g2]
      go_wp2_with fail
      go_ret2
      exact ⟨_, by rw [H.out.1]; rfl, by rw [H.out.2]; exact hoe2.out.base (by omega), bl_then (bl_alloc hb0 _) hb2⟩
    · have H : Hid (faB xs fs x = true ∧ faI xs fs x = idsTo (endsF fs x) m) := by
        have hh : faB xs fs x = true := by unfold faB; rw [g, hlx, g2]; rfl
        exact ⟨hh, by rw [faI_ends g hh, hlf]⟩
      clear hlx
      go_enter Try.func26, Try.ntmps26
      go_wp2_with fail
      refine (goodN _ h1).mono ?_
      rintro e w2 ⟨rfl, hb2⟩
      rw [g]
      have hoe2 : Hid (Owns elInt w2 (w.heap.size + 1) 3 (.slice (some ⟨w.heap.size + 1, 0, none⟩) 0 0) (idsTo (endsF fs x) 0)) := hid (hoe.out.below hb2)
      have q0 := ((hx0.below hbe hx0.lt).below hb2 (by simp; omega)).cell 0
      simp at q0
      clear hoe
      go_wp2_with fail
      refine (l1In_any _ _ _ _).mono ?_
      rintro e w3 ⟨rfl, rfl⟩
      rw [g2]
      have hbw := hbe.trans (hb2.mono (by simp))
      clear hbe hb2 q0 h1
      go_wp2_with fail
      generalize hw0 : w.alloc (.cells #[.slice A n c, .slice A' m d] 27) = w0 at *
      go_loopw [6, 7] (fun v i wr => ∃ k : Nat, k ≤ m ∧ i = .int .i64 k ∧ Hid (Owns elInt wr (w.heap.size + 1) 3 v (idsTo (endsF fs x) k)) ∧ Below w0.heap.size w0 wr) (fun _ i _ => m - (intOf i).toNat)
      case atStart => exact ⟨0, Nat.zero_le _, rfl, hoe2, hbw⟩
      case round =>
        clear hbw hoe2
        obtain ⟨k, hk, rfl, hown, hb⟩ := hrel
        have q0 := (hx0.below hb hx0.lt).cell 0
        have q1 := (hx0.below hb hx0.lt).cell 1
        simp at q0 q1
        by_cases hlt : k < m
        · obtain ⟨f, hfk⟩ := get_of (k := k) hlf hlt
          have hp : Hid (endsF fs x k = decide (0 ≤ otherF f x)) := by unfold Hid endsF; rw [getD_of hfk]
          have hwz := hb.size
          have HC := hid (l2Other_any (k : Int) x wr (h0.grow hb) (f := f) (by omega) (by omega) (by simpa using hfk))
          have hll := idsTo_len (endsF fs x) k
          clear hfk
          go_wp2_with fail
          refine HC.out.mono ?_
          rintro e w3 ⟨rfl, hb3⟩
          clear HC
          have hb4 := bl_then hb hb3
          have hoF : Hid (Owns elInt _ _ _ _ _) := hown.out.below hb3
          clear hown q0 q1
          have hx3 := hb4.size
          cases g1 : decide (0 ≤ otherF f x)
          · have HN : Hid (idsTo (endsF fs x) (k + 1) = idsTo (endsF fs x) k) := idsTo_no (hp.out.trans g1)
            have HO := hoF
            rw [← HN.out] at HO
            clear hp hoF
            go_wp2
            exact ⟨⟨k + 1, by omega, by go_num, HO, hb4⟩, by simp [intOf]; omega⟩
          · have HN : Hid (idsTo (endsF fs x) (k + 1) = idsTo (endsF fs x) k ++ [(k : Int)]) := idsTo_yes (hp.out.trans g1)
            have hbG := bl_alloc hb4 (.cells #[.int .i64 k] 3)
            have hoG : Hid (Owns elInt _ _ _ _ _) := hoF.out.below (bl_alloc (Below.refl _ _) (.cells #[.int .i64 k] 3))
            clear hp hoF
            go_wp2_with (first
            | (at_builtin; refine wpList_append_own _ rfl _ _ 33 rfl (w.heap.size + 1) 3 i0 (.int .i64 0) 1 8 Try.underlying33 hi hz0 hz1 hz2 rfl (by decide) _ (idsTo (endsF fs x) k).length ((idsTo (endsF fs x) k).flatMap elInt.cells) rfl hoG.out ⟨_, 0, none⟩ 1 1 [.int .i64 k] rfl rfl (one_new _ _ _ (by simp)) (fun u hu => by simp at hu; subst hu; rfl) (by unfold maxLen; omega) (by omega) (by simp; omega) ?_)
            | go_in)
            intro v' w1 hown' hgrow _
            have HO : Hid (Owns elInt w1 (w.heap.size + 1) 3 v' (idsTo (endsF fs x) (k + 1))) := by unfold Hid; rw [HN.out]; exact Owns.appended hown'
            have hbN := bl_grown hbG hgrow (fun g hg => by have := (hoG.out.lies g hg).1; omega)
            clear hown' hgrow hoG hbG
            go_wp2
            go_roundw
            case rel => exact ⟨k + 1, by omega, by go_num, HO, hbN⟩
            case measure => simp [intOf]; omega
        · have hkm : k = m := by omega
          rw [hkm] at hown
          clear hlt
          go_wp2
          go_ret2
          exact ⟨_, by rw [H.out.1]; rfl, by rw [H.out.2]; exact hown.out.base (by omega), hb0.trans (hb.mono (by omega))⟩
end Go.Proofs.Ytfepilpllfiegaa
/- Bridges, cut nodes, critical groups, in plain Lean. Conditions: none. -/
namespace Go.Proofs.Ytfepilpllfiegaa
open Go.RowKit
theorem Owns.splitg {α : Type} {E : El α} {w : World} {base n : Nat} {e : TypeId} {v : Value} {xs : List α} (h : Owns E w base e v xs) (hl : xs.length = n) (hn : 0 < n) : ∃ g c, v = .slice (some ⟨g, 0, none⟩) n c := by
  subst hl
  rcases Owns.cases h with ⟨_, h0⟩ | ⟨g, c, cur, hv, _⟩
  · rw [h0] at hn; simp at hn
  · exact ⟨g, c, hv⟩
section
variable {n : Nat} {xs : List ByteArray} {fs : List Fib} {l : List Int} {X Y : List Int} {s : Int}
/-- Fiber i is a bridge. -/
def brF (fs : List Fib) (n i : Nat) : Bool := !(valL (compL (goneF [(i : Int)]) fs n) (fibD fs i).a.toNat == valL (compL (goneF [(i : Int)]) fs n) (fibD fs i).b.toNat)
def brL (xs : List ByteArray) (fs : List Fib) : List Int := if goodB xs fs then idsTo (brF fs xs.length) fs.length else []
theorem brL_len : (brL xs fs).length ≤ 14 := by
  unfold brL
  cases g : goodB xs fs
  · simp
  · have h := goodB_bd g
    have h2 := idsTo_len (brF fs xs.length) fs.length
    simp; omega
theorem bit_one (i : Nat) : compL (fun j => (2 ^ i).testBit j) fs n = compL (goneF [(i : Int)]) fs n := compL_congr fun j _ => by
  rw [Nat.testBit_two_pow]
  unfold goneF
  rw [Bool.eq_iff_iff, hasB_iff, decide_eq_true_eq, List.mem_singleton]
  omega
/-- Two nodes that are told apart by Y and not by X, none of them s. -/
def sepP (X Y : List Int) (s : Int) (a b : Nat) : Bool := (!((a : Int) == s) && !((b : Int) == s)) && ((valL X a == valL X b) && !(valL Y a == valL Y b))
theorem sepP_symm {a b : Nat} : sepP X Y s a b = sepP X Y s b a := by
  unfold sepP
  rw [Bool.and_comm (!((a : Int) == s)), show (valL X a == valL X b) = (valL X b == valL X a) from Bool.beq_comm, show (valL Y a == valL Y b) = (valL Y b == valL Y a) from Bool.beq_comm]
def sepB (n : Nat) (X Y : List Int) (s : Int) : Bool := !(allB (fun a => allB (fun b => !sepP X Y s a b) a) n)
def splB (n : Nat) (X Y : List Int) (s : Int) : Bool := !(allB (fun a => allB (fun i => !sepP X Y s a (a + 1 + i)) (n - (a + 1))) n)
theorem splB_eq : splB n X Y s = sepB n X Y s := by
  unfold splB sepB
  congr 1
  rw [Bool.eq_iff_iff, allB_iff, allB_iff]
  constructor
  · intro h a ha
    rw [allB_iff]
    intro b hb
    have h1 : (!sepP X Y s b (b + 1 + (a - (b + 1)))) = true := allB_iff.1 (h b (by omega)) (a - (b + 1)) (by omega)
    rw [show b + 1 + (a - (b + 1)) = a by omega] at h1
    show (!sepP X Y s a b) = true
    rw [sepP_symm]; exact h1
  · intro h a ha
    rw [allB_iff]
    intro i hi
    have h1 : (!sepP X Y s (a + 1 + i) a) = true := allB_iff.1 (h (a + 1 + i) (by omega)) a (by omega)
    show (!sepP X Y s a (a + 1 + i)) = true
    rw [sepP_symm]; exact h1
theorem sepB_yes {a b : Nat} (ha : a < n) (hb : b < a) (h : sepP X Y s a b = true) : sepB n X Y s = true := by
  have h1 : allB (fun b => !sepP X Y s a b) a = false := allB_no hb (by show (!sepP X Y s a b) = false; rw [h]; rfl)
  unfold sepB
  rw [allB_no (p := fun a => allB (fun b => !sepP X Y s a b) a) ha h1]; rfl
theorem splB_yes {a b : Nat} (hb : b < n) (ha : a < b) (h : sepP X Y s a b = true) : splB n X Y s = true := by
  rw [splB_eq]; exact sepB_yes hb ha (by rw [sepP_symm]; exact h)
/-- A node whose loss parts others. -/
def cnF (fs : List Fib) (n v : Nat) : Bool := sepB n (compL (goneF []) fs n) (compL (goneF (idsTo (touchesF fs v) fs.length)) fs n) v
def cnL (xs : List ByteArray) (fs : List Fib) : List Int := if goodB xs fs then idsTo (cnF fs xs.length) xs.length else []
theorem cnL_len : (cnL xs fs).length ≤ 8 := by
  unfold cnL
  cases g : goodB xs fs
  · simp
  · have h := goodB_bd g
    have h2 := idsTo_len (cnF fs xs.length) xs.length
    simp; omega
/-- A group whose loss parts others. -/
def cgF (fs : List Fib) (n i : Nat) : Bool := sepB n (compL (goneF []) fs n) (compL (goneF ((groupsL fs).getD i [])) fs n) (-1)
def cgL (xs : List ByteArray) (fs : List Fib) : List Int := if goodB xs fs then idsTo (cgF fs xs.length) (groupsL fs).length else []
end
end Go.Proofs.Ytfepilpllfiegaa
/- separates, l6Splits: whether two nodes are parted, walked. Conditions: the fibers' ends are nodes; 2 nodes at least; at most 20 fibers. -/
namespace Go.Proofs.Ytfepilpllfiegaa
open Go.RowKit
theorem sepP_eq {X Y : List Int} {s : Int} {a b : Nat} : sepP X Y s a b = ((!((a : Int) == s) && !((b : Int) == s)) && ((valL X a == valL X b) && !(valL Y a == valL Y b))) := rfl
section
variable {n c m d k c' : Nat} {A A' G : Option Addr} {xs : List ByteArray} {fs : List Fib} {l : List Int} {s : Int}
set_option maxHeartbeats 4000000 in
set_option maxRecDepth 100000 in
theorem separates_any (s : Int) (w : World) (h : NetIs w A n c A' m d xs fs) (hv : Sees elInt w w.heap.size G k l) (hkb : k ≤ 1048576) (he : endsB n fs) (hn0 : 0 < n) :
    Calls Try.prog 71 #[.agg #[.slice A n c, .slice A' m d], .slice G k c', .int .i64 s] w fun e w' => e = .returned (.bool (sepB n (compL (goneF []) fs n) (compL (goneF l) fs n) s)) ∧ Below w.heap.size w w' := by
  have hS := (Led.nil w).blk_ w.heap.size rfl 27 #[.slice A n c, .slice A' m d]
  obtain ⟨r, hr⟩ : ∃ r, sepB n (compL (goneF []) fs n) (compL (goneF l) fs n) s = r := ⟨_, rfl⟩
  rw [hr]
  have HRR := hid hr
  clear hr
  have HN := hid h
  have HV := hid hv
  have HE := hid he
  have hn := h.nle
  clear h he hv
  go_enter Try.func71, Try.ntmps71
  go_wp2_with fail
  generalize w.alloc (.cells #[.slice A n c, .slice A' m d] 27) = W0 at *
  have C0 : ∀ w', Cls W0 w' → w'.cell? ⟨w.heap.size, 0, none⟩ = some (.slice A n c) := fun _ h => h.cell (hS.cell 0 0 rfl rfl)
  have C1 : ∀ w', Cls W0 w' → w'.cell? ⟨w.heap.size, 1, none⟩ = some (.slice A' m d) := fun _ h => h.cell (hS.cell 0 1 rfl rfl)
  have HL := hid (fun w' (h : Cls W0 w') => hS.step h)
  go_region_held3 (fun w' => Cls W0 w') (first | exact Cls.drew _ | exact Cls.next (by assumption) (by assumption))
    (first
      | (go_at_call_of 77 (Value.slice none 0 0); refine (components_any (l := []) _ (HN.out.grow (HL.out _ (by assumption)).bl) (Sees.nil elInt _ 0 _) (by decide) HE.out hn0).mono ?_; rintro e w' ⟨v1, rfl, ho1, hb1⟩; obtain ⟨g1, c1, rfl⟩ := ho1.splitg compL_len hn0; have hL1 := (HL.out _ (by assumption)).owns hb1 ho1)
      | (go_at_call_of 77 (Value.slice G k c'); refine (components_any _ (HN.out.grow hL1.bl) (HV.out.grow hL1.bl) hkb HE.out hn0).mono ?_; rintro e w' ⟨v2, rfl, ho2, hb2⟩; obtain ⟨g2, c2, rfl⟩ := ho2.splitg compL_len hn0))
  have hL2 := hL1.owns hb2 ho2
  generalize w' = W2 at *
  have hX : Hid ((compL (goneF []) fs n).length = n) := compL_len
  have hY : Hid ((compL (goneF l) fs n).length = n) := compL_len
  generalize compL (goneF []) fs n = X at *
  generalize (compL (goneF l) fs n) = Y at *
  have HS := hid hL2
  clear HL C0 C1 hL1 hL2 hb1 hb2 ho1 ho2 hS
  have q0 := HS.out.cell 2 0 rfl rfl
  go_wp2_with fail
  clear q0
  obtain ⟨L, hL⟩ : ∃ L, Led w W2 L ∧ L[0]? = some (tOwns elInt _ 3 (.slice (some ⟨g2, 0, none⟩) n c2) Y) ∧ L[1]? = some (tOwns elInt _ 3 (.slice (some ⟨g1, 0, none⟩) n c1) X) := ⟨_, HS.out, rfl, rfl⟩
  have HS1 := hid hL.1
  have j0 := hid hL.2.1
  have j1 := hid hL.2.2
  clear hL HS
  go_loopw [19] (fun i wr => ∃ a : Nat, a ≤ n ∧ i = .int .i64 a ∧ Hid (allTo (fun a => allB (fun b => !sepP X Y s a b) a) a) ∧ Hid (Led w wr L)) (fun i _ => n - (intOf i).toNat)
  case atStart => exact ⟨0, Nat.zero_le _, rfl, allTo_zero _, HS1⟩
  case round =>
    clear HS1
    obtain ⟨a, ha, rfl, hall, HS⟩ := hrel
    by_cases hlt : a < n
    · go_wp2_with fail
      go_loopw [23] (fun i wr => ∃ b : Nat, b ≤ a ∧ i = .int .i64 b ∧ Hid (allTo (fun b => !sepP X Y s a b) b) ∧ Hid (Led w wr L)) (fun i _ => a - (intOf i).toNat)
      case atStart => exact ⟨0, Nat.zero_le _, rfl, allTo_zero _, HS⟩
      case round =>
        clear HS
        obtain ⟨b, hb, rfl, hin, HS⟩ := hrel
        by_cases hlt2 : b < a
        · have hbn : b < n := by omega
          have ia : (a : Int) < (n : Int) := by omega
          have ib : (b : Int) < (n : Int) := by omega
          have x0 : ∀ w', Cls wr w' → w'.cell? ⟨g1, a, none⟩ = some (.int .i64 (valL X a)) := fun _ h => h.cell (HS.out.int_at 1 j1.out (j := a) (by rw [hX.out]; omega))
          have x1 : ∀ w', Cls wr w' → w'.cell? ⟨g1, b, none⟩ = some (.int .i64 (valL X b)) := fun _ h => h.cell (HS.out.int_at 1 j1.out (j := b) (by rw [hX.out]; omega))
          have y0 : ∀ w', Cls wr w' → w'.cell? ⟨g2, a, none⟩ = some (.int .i64 (valL Y a)) := fun _ h => h.cell (HS.out.int_at 0 j0.out (j := a) (by rw [hY.out]; omega))
          have y1 : ∀ w', Cls wr w' → w'.cell? ⟨g2, b, none⟩ = some (.int .i64 (valL Y b)) := fun _ h => h.cell (HS.out.int_at 0 j0.out (j := b) (by rw [hY.out]; omega))
          cases ga : ((a : Int) == s)
          · have na : ((a : Int) != s) = true := by rw [bne, ga]; rfl
            cases gb : ((b : Int) == s)
            · have nb : ((b : Int) != s) = true := by rw [bne, gb]; rfl
              cases gx : (valL X a == valL X b)
              · have HP : Hid (sepP X Y s a b = false) := by unfold Hid; rw [sepP_eq, gx]; simp
                go_wp2_with fail
                refine region_cls (by kernel_rfl) (by kernel_rfl) ?_
                repeat (first
                  | ((with_reducible refine quiet_pos ?_ (fun K hK => ?_))
                     · rfl
                     apply Exists.intro
                     refine ⟨fun w' hw' => ?_, ?_⟩
                     · go_simp
                       with_reducible rfl
                     simp only [Act.put, List.setIfInBounds_toArray, List.set_cons_zero, List.set_cons_succ]
                     refine hK _ ?_; clear hK K)
                  | ((with_reducible refine quiet_neg ?_ (fun K hK => ?_))
                     · rfl
                     simp only [Act.put, List.setIfInBounds_toArray, List.set_cons_zero, List.set_cons_succ]
                     refine hK _ ?_; clear hK K))
                with_reducible refine wpQuiet_nil ?_
                intro wz hwz'
                have HS2 := hid (HS.out.step hwz')
                clear HS x0 x1 y0 y1 hwz'
                have HA : Hid (allTo (fun b => !sepP X Y s a b) (b + 1)) := allTo_succ hin.out (by rw [HP.out]; rfl)
                clear HP hin
                go_wp2
                exact ⟨⟨b + 1, by omega, by go_num, HA, HS2⟩, by simp [intOf]; omega⟩
              · cases gy : (valL Y a == valL Y b)
                · have ny : (valL Y a != valL Y b) = true := by rw [bne, gy]; rfl
                  have HP : Hid (sepP X Y s a b = true) := by unfold Hid; rw [sepP_eq, ga, gb, gx, gy]; rfl
                  go_wp2_with fail
                  refine region_cls (by kernel_rfl) (by kernel_rfl) ?_
                  repeat (first
                    | ((with_reducible refine quiet_pos ?_ (fun K hK => ?_))
                       · rfl
                       apply Exists.intro
                       refine ⟨fun w' hw' => ?_, ?_⟩
                       · go_simp
                         with_reducible rfl
                       simp only [Act.put, List.setIfInBounds_toArray, List.set_cons_zero, List.set_cons_succ]
                       refine hK _ ?_; clear hK K)
                    | ((with_reducible refine quiet_neg ?_ (fun K hK => ?_))
                       · rfl
                       simp only [Act.put, List.setIfInBounds_toArray, List.set_cons_zero, List.set_cons_succ]
                       refine hK _ ?_; clear hK K))
                  with_reducible refine wpQuiet_nil ?_
                  intro wz hwz'
                  have HS2 := hid (HS.out.step hwz')
                  clear HS x0 x1 y0 y1 hwz'
                  have HR : Hid (sepB n X Y s = true) := sepB_yes hlt hlt2 HP.out
                  go_wp2
                  go_ret
                  exact ⟨by rw [← HRR.out, HR.out]; rfl, HS2.out.bl⟩
                · have ny : (valL Y a != valL Y b) = false := by rw [bne, gy]; rfl
                  have HP : Hid (sepP X Y s a b = false) := by unfold Hid; rw [sepP_eq, gy]; simp
                  go_wp2_with fail
                  refine region_cls (by kernel_rfl) (by kernel_rfl) ?_
                  repeat (first
                    | ((with_reducible refine quiet_pos ?_ (fun K hK => ?_))
                       · rfl
                       apply Exists.intro
                       refine ⟨fun w' hw' => ?_, ?_⟩
                       · go_simp
                         with_reducible rfl
                       simp only [Act.put, List.setIfInBounds_toArray, List.set_cons_zero, List.set_cons_succ]
                       refine hK _ ?_; clear hK K)
                    | ((with_reducible refine quiet_neg ?_ (fun K hK => ?_))
                       · rfl
                       simp only [Act.put, List.setIfInBounds_toArray, List.set_cons_zero, List.set_cons_succ]
                       refine hK _ ?_; clear hK K))
                  with_reducible refine wpQuiet_nil ?_
                  intro wz hwz'
                  have HS2 := hid (HS.out.step hwz')
                  clear HS x0 x1 y0 y1 hwz'
                  have HA : Hid (allTo (fun b => !sepP X Y s a b) (b + 1)) := allTo_succ hin.out (by rw [HP.out]; rfl)
                  clear HP hin
                  go_wp2
                  exact ⟨⟨b + 1, by omega, by go_num, HA, HS2⟩, by simp [intOf]; omega⟩
            · have nb : ((b : Int) != s) = false := by rw [bne, gb]; rfl
              have HP : Hid (sepP X Y s a b = false) := by unfold Hid; rw [sepP_eq, gb]; simp
              go_wp2_with fail
              refine region_cls (by kernel_rfl) (by kernel_rfl) ?_
              repeat (first
                | ((with_reducible refine quiet_pos ?_ (fun K hK => ?_))
                   · rfl
                   apply Exists.intro
                   refine ⟨fun w' hw' => ?_, ?_⟩
                   · go_simp
                     with_reducible rfl
                   simp only [Act.put, List.setIfInBounds_toArray, List.set_cons_zero, List.set_cons_succ]
                   refine hK _ ?_; clear hK K)
                | ((with_reducible refine quiet_neg ?_ (fun K hK => ?_))
                   · rfl
                   simp only [Act.put, List.setIfInBounds_toArray, List.set_cons_zero, List.set_cons_succ]
                   refine hK _ ?_; clear hK K))
              with_reducible refine wpQuiet_nil ?_
              intro wz hwz'
              have HS2 := hid (HS.out.step hwz')
              clear HS x0 x1 y0 y1 hwz'
              have HA : Hid (allTo (fun b => !sepP X Y s a b) (b + 1)) := allTo_succ hin.out (by rw [HP.out]; rfl)
              clear HP hin
              go_wp2
              exact ⟨⟨b + 1, by omega, by go_num, HA, HS2⟩, by simp [intOf]; omega⟩
          · have na : ((a : Int) != s) = false := by rw [bne, ga]; rfl
            have HP : Hid (sepP X Y s a b = false) := by unfold Hid; rw [sepP_eq, ga]; simp
            go_wp2_with fail
            refine region_cls (by kernel_rfl) (by kernel_rfl) ?_
            repeat (first
              | ((with_reducible refine quiet_pos ?_ (fun K hK => ?_))
                 · rfl
                 apply Exists.intro
                 refine ⟨fun w' hw' => ?_, ?_⟩
                 · go_simp
                   with_reducible rfl
                 simp only [Act.put, List.setIfInBounds_toArray, List.set_cons_zero, List.set_cons_succ]
                 refine hK _ ?_; clear hK K)
              | ((with_reducible refine quiet_neg ?_ (fun K hK => ?_))
                 · rfl
                 simp only [Act.put, List.setIfInBounds_toArray, List.set_cons_zero, List.set_cons_succ]
                 refine hK _ ?_; clear hK K))
            with_reducible refine wpQuiet_nil ?_
            intro wz hwz'
            have HS2 := hid (HS.out.step hwz')
            clear HS x0 x1 y0 y1 hwz'
            have HA : Hid (allTo (fun b => !sepP X Y s a b) (b + 1)) := allTo_succ hin.out (by rw [HP.out]; rfl)
            clear HP hin
            go_wp2
            exact ⟨⟨b + 1, by omega, by go_num, HA, HS2⟩, by simp [intOf]; omega⟩
        · have hba : b = a := by omega
          have HA : Hid (allTo (fun a => allB (fun b => !sepP X Y s a b) a) (a + 1)) := allTo_succ hall.out (allB_yes hin.out hba)
          clear hba hin hall
          go_wp2
          refine ⟨?_, by simp [intOf]; omega⟩
          first
            | exact ⟨a + 1, by omega, by go_num, HA, HS⟩
            | ((repeat apply Exists.intro); exact ⟨⟨a + 1, by omega, by go_num, HA, HS⟩, rfl⟩)
    · have han : a = n := by omega
      have HR : Hid (sepB n X Y s = false) := by unfold Hid sepB; rw [allB_yes hall.out han]; rfl
      clear han hall
      go_wp2
      go_ret
      exact ⟨by rw [← HRR.out, HR.out]; rfl, HS.out.bl⟩
set_option maxHeartbeats 4000000 in
set_option maxRecDepth 100000 in
theorem l6Splits_any (M : Nat) (s : Int) (w : World) (h : NetIs w A n c A' m d xs fs) (hM : M < 2 ^ 20) (he : endsB n fs) (hn0 : 0 < n) (hm20 : m ≤ 20) :
    Calls Try.prog 73 #[.agg #[.slice A n c, .slice A' m d], .int .i64 (M : Int), .int .i64 s] w fun e w' => e = .returned (.bool (sepB n (compL (goneF []) fs n) (compL (fun i => M.testBit i) fs n) s)) ∧ Below w.heap.size w w' := by
  have hS := (Led.nil w).blk_ w.heap.size rfl 27 #[.slice A n c, .slice A' m d]
  obtain ⟨r, hr⟩ : ∃ r, sepB n (compL (goneF []) fs n) (compL (fun i => M.testBit i) fs n) s = r := ⟨_, rfl⟩
  rw [hr]
  have HRR := hid hr
  clear hr
  have HN := hid h
  have HE := hid he
  have hn := h.nle
  have HM := hid hM
  have HZ0 : Hid (compL (fun i => (0 : Nat).testBit i) fs n = compL (goneF []) fs n) := compL_congr fun j _ => by rw [Nat.zero_testBit]; exact (Bool.eq_false_iff.2 (fun h => by have h1 := hasB_iff.1 h; cases h1)).symm
  clear hM
  clear h he
  go_enter Try.func73, Try.ntmps73
  go_wp2_with fail
  generalize w.alloc (.cells #[.slice A n c, .slice A' m d] 27) = W0 at *
  have C0 : ∀ w', Cls W0 w' → w'.cell? ⟨w.heap.size, 0, none⟩ = some (.slice A n c) := fun _ h => h.cell (hS.cell 0 0 rfl rfl)
  have C1 : ∀ w', Cls W0 w' → w'.cell? ⟨w.heap.size, 1, none⟩ = some (.slice A' m d) := fun _ h => h.cell (hS.cell 0 1 rfl rfl)
  have HL := hid (fun w' (h : Cls W0 w') => hS.step h)
  go_region_held3 (fun w' => Cls W0 w') (first | exact Cls.drew _ | exact Cls.next (by assumption) (by assumption))
    (first
      | (go_at_call_of 134 (Value.int .i64 0); refine (labels_any 0 _ (HN.out.grow (HL.out _ (by assumption)).bl) (by decide) HE.out hn0 hm20).mono ?_; rintro e w' ⟨v1, rfl, ho1, hb1⟩; rw [HZ0.out] at ho1; obtain ⟨g1, c1, rfl⟩ := ho1.splitg compL_len hn0; have hL1 := (HL.out _ (by assumption)).owns hb1 ho1)
      | (go_at_call_of 134 (Value.int .i64 (M : Int)); refine (labels_any M _ (HN.out.grow hL1.bl) HM.out HE.out hn0 hm20).mono ?_; rintro e w' ⟨v2, rfl, ho2, hb2⟩; obtain ⟨g2, c2, rfl⟩ := ho2.splitg compL_len hn0))
  have hL2 := hL1.owns hb2 ho2
  generalize w' = W2 at *
  have hX : Hid ((compL (goneF []) fs n).length = n) := compL_len
  have hY : Hid ((compL (fun i => M.testBit i) fs n).length = n) := compL_len
  generalize compL (goneF []) fs n = X at *
  generalize (compL (fun i => M.testBit i) fs n) = Y at *
  have HS := hid hL2
  clear HL C0 C1 hL1 hL2 hb1 hb2 ho1 ho2 hS
  go_wp2_with fail
  obtain ⟨L, hL⟩ : ∃ L, Led w W2 L ∧ L[0]? = some (tOwns elInt _ 3 (.slice (some ⟨g2, 0, none⟩) n c2) Y) ∧ L[1]? = some (tOwns elInt _ 3 (.slice (some ⟨g1, 0, none⟩) n c1) X) := ⟨_, HS.out, rfl, rfl⟩
  have HS1 := hid hL.1
  have j0 := hid hL.2.1
  have j1 := hid hL.2.2
  clear hL HS
  go_loopw [9] (fun i wr => ∃ a : Nat, a ≤ n ∧ i = .int .i64 a ∧ Hid (allTo (fun a => allB (fun i => !sepP X Y s a (a + 1 + i)) (n - (a + 1))) a) ∧ Hid (Led w wr L)) (fun i _ => n - (intOf i).toNat)
  case atStart => exact ⟨0, Nat.zero_le _, rfl, allTo_zero _, HS1⟩
  case round =>
    clear HS1
    obtain ⟨a, ha, rfl, hall, HS⟩ := hrel
    by_cases hlt : a < n
    · go_wp2_with fail
      go_loopw [10] (fun i wr => ∃ j : Nat, j ≤ n - (a + 1) ∧ i = .int .i64 ((a + 1 + j : Nat) : Int) ∧ Hid (allTo (fun i => !sepP X Y s a (a + 1 + i)) j) ∧ Hid (Led w wr L)) (fun i _ => n - (intOf i).toNat)
      case atStart => exact ⟨0, Nat.zero_le _, by go_num, allTo_zero _, HS⟩
      case round =>
        clear HS
        obtain ⟨j, hj, rfl, hin, HS⟩ := hrel
        by_cases hlt2 : j < n - (a + 1)
        · obtain ⟨b, hbe⟩ : ∃ b, b = a + 1 + j := ⟨_, rfl⟩
          rw [← hbe]
          have HBE := hid hbe
          have hbn : b < n := by omega
          have hab : a < b := by omega
          clear hbe
          have ia : (a : Int) < (n : Int) := by omega
          have ib : (b : Int) < (n : Int) := by omega
          have x0 : ∀ w', Cls wr w' → w'.cell? ⟨g1, a, none⟩ = some (.int .i64 (valL X a)) := fun _ h => h.cell (HS.out.int_at 1 j1.out (j := a) (by rw [hX.out]; omega))
          have x1 : ∀ w', Cls wr w' → w'.cell? ⟨g1, b, none⟩ = some (.int .i64 (valL X b)) := fun _ h => h.cell (HS.out.int_at 1 j1.out (j := b) (by rw [hX.out]; omega))
          have y0 : ∀ w', Cls wr w' → w'.cell? ⟨g2, a, none⟩ = some (.int .i64 (valL Y a)) := fun _ h => h.cell (HS.out.int_at 0 j0.out (j := a) (by rw [hY.out]; omega))
          have y1 : ∀ w', Cls wr w' → w'.cell? ⟨g2, b, none⟩ = some (.int .i64 (valL Y b)) := fun _ h => h.cell (HS.out.int_at 0 j0.out (j := b) (by rw [hY.out]; omega))
          cases ga : ((a : Int) == s)
          · have na : ((a : Int) != s) = true := by rw [bne, ga]; rfl
            cases gb : ((b : Int) == s)
            · have nb : ((b : Int) != s) = true := by rw [bne, gb]; rfl
              cases gx : (valL X a == valL X b)
              · have HP : Hid (sepP X Y s a b = false) := by unfold Hid; rw [sepP_eq, gx]; simp
                go_wp2_with fail
                refine region_cls (by kernel_rfl) (by kernel_rfl) ?_
                repeat (first
                  | ((with_reducible refine quiet_pos ?_ (fun K hK => ?_))
                     · rfl
                     apply Exists.intro
                     refine ⟨fun w' hw' => ?_, ?_⟩
                     · go_simp
                       with_reducible rfl
                     simp only [Act.put, List.setIfInBounds_toArray, List.set_cons_zero, List.set_cons_succ]
                     refine hK _ ?_; clear hK K)
                  | ((with_reducible refine quiet_neg ?_ (fun K hK => ?_))
                     · rfl
                     simp only [Act.put, List.setIfInBounds_toArray, List.set_cons_zero, List.set_cons_succ]
                     refine hK _ ?_; clear hK K))
                with_reducible refine wpQuiet_nil ?_
                intro wz hwz'
                have HS2 := hid (HS.out.step hwz')
                clear HS x0 x1 y0 y1 hwz'
                have HA : Hid (allTo (fun i => !sepP X Y s a (a + 1 + i)) (j + 1)) := allTo_succ hin.out (by rw [← HBE.out, HP.out]; rfl)
                clear HP hin
                go_wp2
                have HB := HBE.out
                exact ⟨⟨j + 1, by omega, by go_num, HA, HS2⟩, by simp [intOf]; omega⟩
              · cases gy : (valL Y a == valL Y b)
                · have ny : (valL Y a != valL Y b) = true := by rw [bne, gy]; rfl
                  have HP : Hid (sepP X Y s a b = true) := by unfold Hid; rw [sepP_eq, ga, gb, gx, gy]; rfl
                  go_wp2_with fail
                  refine region_cls (by kernel_rfl) (by kernel_rfl) ?_
                  repeat (first
                    | ((with_reducible refine quiet_pos ?_ (fun K hK => ?_))
                       · rfl
                       apply Exists.intro
                       refine ⟨fun w' hw' => ?_, ?_⟩
                       · go_simp
                         with_reducible rfl
                       simp only [Act.put, List.setIfInBounds_toArray, List.set_cons_zero, List.set_cons_succ]
                       refine hK _ ?_; clear hK K)
                    | ((with_reducible refine quiet_neg ?_ (fun K hK => ?_))
                       · rfl
                       simp only [Act.put, List.setIfInBounds_toArray, List.set_cons_zero, List.set_cons_succ]
                       refine hK _ ?_; clear hK K))
                  with_reducible refine wpQuiet_nil ?_
                  intro wz hwz'
                  have HS2 := hid (HS.out.step hwz')
                  clear HS x0 x1 y0 y1 hwz'
                  have HR : Hid (sepB n X Y s = true) := by unfold Hid; rw [← splB_eq]; exact splB_yes hbn hab HP.out
                  go_wp2
                  go_ret
                  exact ⟨by rw [← HRR.out, HR.out]; rfl, HS2.out.bl⟩
                · have ny : (valL Y a != valL Y b) = false := by rw [bne, gy]; rfl
                  have HP : Hid (sepP X Y s a b = false) := by unfold Hid; rw [sepP_eq, gy]; simp
                  go_wp2_with fail
                  refine region_cls (by kernel_rfl) (by kernel_rfl) ?_
                  repeat (first
                    | ((with_reducible refine quiet_pos ?_ (fun K hK => ?_))
                       · rfl
                       apply Exists.intro
                       refine ⟨fun w' hw' => ?_, ?_⟩
                       · go_simp
                         with_reducible rfl
                       simp only [Act.put, List.setIfInBounds_toArray, List.set_cons_zero, List.set_cons_succ]
                       refine hK _ ?_; clear hK K)
                    | ((with_reducible refine quiet_neg ?_ (fun K hK => ?_))
                       · rfl
                       simp only [Act.put, List.setIfInBounds_toArray, List.set_cons_zero, List.set_cons_succ]
                       refine hK _ ?_; clear hK K))
                  with_reducible refine wpQuiet_nil ?_
                  intro wz hwz'
                  have HS2 := hid (HS.out.step hwz')
                  clear HS x0 x1 y0 y1 hwz'
                  have HA : Hid (allTo (fun i => !sepP X Y s a (a + 1 + i)) (j + 1)) := allTo_succ hin.out (by rw [← HBE.out, HP.out]; rfl)
                  clear HP hin
                  go_wp2
                  have HB := HBE.out
                  exact ⟨⟨j + 1, by omega, by go_num, HA, HS2⟩, by simp [intOf]; omega⟩
            · have nb : ((b : Int) != s) = false := by rw [bne, gb]; rfl
              have HP : Hid (sepP X Y s a b = false) := by unfold Hid; rw [sepP_eq, gb]; simp
              go_wp2_with fail
              refine region_cls (by kernel_rfl) (by kernel_rfl) ?_
              repeat (first
                | ((with_reducible refine quiet_pos ?_ (fun K hK => ?_))
                   · rfl
                   apply Exists.intro
                   refine ⟨fun w' hw' => ?_, ?_⟩
                   · go_simp
                     with_reducible rfl
                   simp only [Act.put, List.setIfInBounds_toArray, List.set_cons_zero, List.set_cons_succ]
                   refine hK _ ?_; clear hK K)
                | ((with_reducible refine quiet_neg ?_ (fun K hK => ?_))
                   · rfl
                   simp only [Act.put, List.setIfInBounds_toArray, List.set_cons_zero, List.set_cons_succ]
                   refine hK _ ?_; clear hK K))
              with_reducible refine wpQuiet_nil ?_
              intro wz hwz'
              have HS2 := hid (HS.out.step hwz')
              clear HS x0 x1 y0 y1 hwz'
              have HA : Hid (allTo (fun i => !sepP X Y s a (a + 1 + i)) (j + 1)) := allTo_succ hin.out (by rw [← HBE.out, HP.out]; rfl)
              clear HP hin
              go_wp2
              have HB := HBE.out
              exact ⟨⟨j + 1, by omega, by go_num, HA, HS2⟩, by simp [intOf]; omega⟩
          · have na : ((a : Int) != s) = false := by rw [bne, ga]; rfl
            have HP : Hid (sepP X Y s a b = false) := by unfold Hid; rw [sepP_eq, ga]; simp
            go_wp2_with fail
            refine region_cls (by kernel_rfl) (by kernel_rfl) ?_
            repeat (first
              | ((with_reducible refine quiet_pos ?_ (fun K hK => ?_))
                 · rfl
                 apply Exists.intro
                 refine ⟨fun w' hw' => ?_, ?_⟩
                 · go_simp
                   with_reducible rfl
                 simp only [Act.put, List.setIfInBounds_toArray, List.set_cons_zero, List.set_cons_succ]
                 refine hK _ ?_; clear hK K)
              | ((with_reducible refine quiet_neg ?_ (fun K hK => ?_))
                 · rfl
                 simp only [Act.put, List.setIfInBounds_toArray, List.set_cons_zero, List.set_cons_succ]
                 refine hK _ ?_; clear hK K))
            with_reducible refine wpQuiet_nil ?_
            intro wz hwz'
            have HS2 := hid (HS.out.step hwz')
            clear HS x0 x1 y0 y1 hwz'
            have HA : Hid (allTo (fun i => !sepP X Y s a (a + 1 + i)) (j + 1)) := allTo_succ hin.out (by rw [← HBE.out, HP.out]; rfl)
            clear HP hin
            go_wp2
            have HB := HBE.out
            exact ⟨⟨j + 1, by omega, by go_num, HA, HS2⟩, by simp [intOf]; omega⟩
        · have hja : j = n - (a + 1) := by omega
          have HA : Hid (allTo (fun a => allB (fun i => !sepP X Y s a (a + 1 + i)) (n - (a + 1))) (a + 1)) := allTo_succ hall.out (allB_yes hin.out hja)
          have inb : ¬ (((a + 1 + j : Nat) : Int) < (n : Int)) := by omega
          clear hin hall
          go_wp2
          refine ⟨?_, by simp [intOf]; omega⟩
          first
            | exact ⟨a + 1, by omega, by go_num, HA, HS⟩
            | ((repeat apply Exists.intro); exact ⟨⟨a + 1, by omega, by go_num, HA, HS⟩, rfl⟩)
    · have han : a = n := by omega
      have HR : Hid (sepB n X Y s = false) := by unfold Hid; rw [← splB_eq]; unfold splB; rw [allB_yes hall.out han]; rfl
      clear han hall
      go_wp2
      go_ret
      exact ⟨by rw [← HRR.out, HR.out]; rfl, HS.out.bl⟩
end
end Go.Proofs.Ytfepilpllfiegaa
