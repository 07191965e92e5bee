/- Lemmas and walks that the claim rests on, laid together. Conditions: none. -/
import Derived.Test.YtndmffmbkcagmaaZExactCommonRisks2
import Derived.Test.YtndmffmbkcagmaaZExactCommonRisks1
import Derived.Test.YtndmffmbkcagmaaRows
import Derived.Test.YtndmffmbkcagmaaZExactCommonRisks0
import Derived.Lib.SlicesCompact
/- toNetwork, walked: a network in new memory. Conditions: at most 1048576 names and fibers. -/
namespace Go.Proofs.Ytndmffmbkcagmaa
open Go.RowKit
set_option maxHeartbeats 1000000 in
set_option maxRecDepth 100000 in
theorem toNetwork_any {B n c m d : Nat} {A A' : Option Addr} {xs : List ByteArray} {fs : List Fib} (w : World) (hA : Sees elStr w B A n xs) (hF : Sees elFib w B A' m fs) (hB : B ≤ w.heap.size) (hn : n ≤ 1048576) (hm : m ≤ 1048576) :
    Calls Try.prog 13 #[.agg #[.slice A n c, .slice A' m d]] w fun e w' => ∃ v v', e = .returned (.agg #[v, v']) ∧ Owns elStr w' w.heap.size 9 v xs ∧ Owns elFib w' w.heap.size 94 v' fs ∧ Below w.heap.size w w' := by
  go_enter Try.func13, Try.ntmps13
  go_wp2_with fail
  have hb0 : Below w.heap.size w (((w.alloc (.cells #[.slice A n c, .slice A' m d] 25)).alloc (.cells #[.slice none 0 0, .slice none 0 0] 36)).alloc (.cells #[.slice none 0 0, .slice none 0 0] 36)) := bl_alloc (bl_alloc (bl_alloc (Below.refl _ _) _) _) _
  have b1 : Blk (((w.alloc (.cells #[.slice A n c, .slice A' m d] 25)).alloc (.cells #[.slice none 0 0, .slice none 0 0] 36)).alloc (.cells #[.slice none 0 0, .slice none 0 0] 36)) w.heap.size 25 #[.slice A n c, .slice A' m d] := ((Blk.new _ _ _).alloc _).alloc _
  have b2 : Blk (((w.alloc (.cells #[.slice A n c, .slice A' m d] 25)).alloc (.cells #[.slice none 0 0, .slice none 0 0] 36)).alloc (.cells #[.slice none 0 0, .slice none 0 0] 36)) (w.heap.size + 1) 36 #[.slice none 0 0, .slice none 0 0] := by
    have := (Blk.new (w.alloc (.cells #[.slice A n c, .slice A' m d] 25)) 36 #[.slice none 0 0, .slice none 0 0]).alloc (.cells #[.slice none 0 0, .slice none 0 0] 36)
    simpa using this
  have b3 : Blk (((w.alloc (.cells #[.slice A n c, .slice A' m d] 25)).alloc (.cells #[.slice none 0 0, .slice none 0 0] 36)).alloc (.cells #[.slice none 0 0, .slice none 0 0] 36)) (w.heap.size + 1 + 1) 36 #[.slice none 0 0, .slice none 0 0] := by
    have := Blk.new ((w.alloc (.cells #[.slice A n c, .slice A' m d] 25)).alloc (.cells #[.slice none 0 0, .slice none 0 0] 36)) 36 #[.slice none 0 0, .slice none 0 0]
    simpa using this
  have hA0 := hA.below (hb0.mono hB)
  have hF0 := hF.below (hb0.mono hB)
  generalize ((w.alloc (.cells #[.slice A n c, .slice A' m d] 25)).alloc (.cells #[.slice none 0 0, .slice none 0 0] 36)).alloc (.cells #[.slice none 0 0, .slice none 0 0] 36) = w0 at *
  refine (toStringS_any (xs := xs) w0 hA0 hn).mono ?_
  rintro e w1 ⟨v, he, hown, hb1⟩
  obtain ⟨A1, c1, hv, _⟩ := hown.form
  rw [hA.len] at hv
  subst hv; subst he
  have b1' := bl_at hb1 b1.lt b1
  have b2' := bl_at hb1 b2.lt b2
  have b3' := bl_at hb1 b3.lt b3
  have hF1 := hF0.below (hb1.mono (Nat.le_trans hB hb0.size))
  have hbw1 := bl_then hb0 hb1
  have hown1 := hown.base hb0.size
  have q0 := b3'.cell 0
  have q1 := b1'.cell 1
  have z0 := b3'.frozen 0
  simp at q0 q1
  have b4 := b3'.set 0 (.slice A1 n c1)
  have b1s := b1'.far (p := ⟨w.heap.size + 1 + 1, 0, none⟩) (by show w.heap.size ≠ w.heap.size + 1 + 1; omega) (.slice A1 n c1)
  have b2s := b2'.far (p := ⟨w.heap.size + 1 + 1, 0, none⟩) (by show w.heap.size + 1 ≠ w.heap.size + 1 + 1; omega) (.slice A1 n c1)
  have hbs := bl_set hbw1 (p := ⟨w.heap.size + 1 + 1, 0, none⟩) (.slice A1 n c1) (by show w.heap.size ≤ w.heap.size + 1 + 1; omega)
  have hF2 : Sees elFib (w1.setCell ⟨w.heap.size + 1 + 1, 0, none⟩ (.slice A1 n c1)) B A' m fs := hF1.keep fun p hp => World.cell?_setCell_other w1 _ p _ (fun e => by subst e; simp only at hp; omega)
  have hos := hown.far (p := ⟨w.heap.size + 1 + 1, 0, none⟩) (b3.lt) (.slice A1 n c1)
  go_wp2_with fail
  have hw0 := hb0.size
  have l3 := b3.lt
  clear q0 q1 z0 b1' b2' b3' hF1 hown hown1 hb1 b1 b2 b3 hA0 hF0 hb0 hbw1
  generalize w1.setCell ⟨w.heap.size + 1 + 1, 0, none⟩ (.slice A1 n c1) = w3 at *
  refine (toFiberS_any (xs := fs) w3 hF2 hm).mono ?_
  rintro e w4 ⟨v', he, hown', hb4⟩
  obtain ⟨A2, c2, hv, _⟩ := hown'.form
  rw [hF.len] at hv
  subst hv; subst he
  have b2' := bl_at hb4 b2s.lt b2s
  have b3' := bl_at hb4 b4.lt b4
  have hb5 := bl_then hbs hb4
  have l4 := b4.lt
  have l5 := hbs.size
  have ho1 := (((((hos.below hb4).far (p := ⟨w.heap.size + 1 + 1, 1, none⟩) l3 (.slice A2 m c2)).far (p := ⟨w.heap.size + 1, 0, none⟩) (by show w.heap.size + 1 < _; omega) (.slice A1 n c1)).far (p := ⟨w.heap.size + 1, 1, none⟩) (by show w.heap.size + 1 < _; omega) (.slice A2 m c2))).base (base' := w.heap.size) hw0
  have ho2 := ((((hown'.far (p := ⟨w.heap.size + 1 + 1, 1, none⟩) l4 (.slice A2 m c2)).far (p := ⟨w.heap.size + 1, 0, none⟩) (by show w.heap.size + 1 < _; omega) (.slice A1 n c1)).far (p := ⟨w.heap.size + 1, 1, none⟩) (by show w.heap.size + 1 < _; omega) (.slice A2 m c2))).base (base' := w.heap.size) l5
  have hb6 := bl_set (bl_set (bl_set hb5 (p := ⟨w.heap.size + 1 + 1, 1, none⟩) (.slice A2 m c2) (by show w.heap.size ≤ w.heap.size + 1 + 1; omega)) (p := ⟨w.heap.size + 1, 0, none⟩) (.slice A1 n c1) (by show w.heap.size ≤ w.heap.size + 1; omega)) (p := ⟨w.heap.size + 1, 1, none⟩) (.slice A2 m c2) (by show w.heap.size ≤ w.heap.size + 1; omega)
  clear b2s b4 hos hown' hF2 hbs hb4 b1s
  have q0 := b3'.cell 0
  have q1 := b3'.cell 1
  have q2 := b2'.cell 0
  have q3 := b2'.cell 1
  have z1 := b3'.frozen 1
  have z2 := b2'.frozen 0
  have z3 := b2'.frozen 1
  simp at q0 q1 q2 q3
  go_wp2_with fail
  exact bodyPost_ret (v := .agg #[.slice A1 n c1, .slice A2 m c2]) (by simp [results, Try.results13, go_sem, q2, q3]) rfl ⟨_, _, rfl, ho1, ho2, hb6⟩
/-- A network of the call's own. -/
def NetOwn (w : World) (base : Nat) (A : Option Addr) (n c : Nat) (A' : Option Addr) (m d : Nat) (xs : List ByteArray) (fs : List Fib) : Prop :=
  n ≤ c ∧ c ≤ maxLen ∧ m ≤ d ∧ d ≤ maxLen ∧ xs.length = n ∧ fs.length = m ∧ Owns elStr w base 9 (.slice A n c) xs ∧ Owns elFib w base 94 (.slice A' m d) fs
section
variable {w w' : World} {base n c m d : Nat} {A A' : Option Addr} {xs : List ByteArray} {fs : List Fib}
theorem NetOwn.below (h : NetOwn w base A n c A' m d xs fs) (hb : Below w.heap.size w w') : NetOwn w' base A n c A' m d xs fs :=
  let ⟨a, b, c, d, e, f, g, i⟩ := h; ⟨a, b, c, d, e, f, g.below hb, i.below hb⟩
theorem NetOwn.from_ {base' : Nat} (h : NetOwn w base A n c A' m d xs fs) (hb : base' ≤ base) : NetOwn w base' A n c A' m d xs fs :=
  let ⟨a, b, c, d, e, f, g, i⟩ := h; ⟨a, b, c, d, e, f, g.base hb, i.base hb⟩
theorem NetOwn.strs (h : NetOwn w base A n c A' m d xs fs) : Sees elStr w w.heap.size A n xs := by
  obtain ⟨_, _, _, _, e, _, g, _⟩ := h
  obtain ⟨A1, c1, hv, _, _, hs⟩ := g.form
  injection hv with h1 h2 h3; subst h1; rw [e] at hs; exact hs
theorem NetOwn.fibs (h : NetOwn w base A n c A' m d xs fs) : Sees elFib w w.heap.size A' m fs := by
  obtain ⟨_, _, _, _, _, f, _, i⟩ := h
  obtain ⟨A1, c1, hv, _, _, hs⟩ := i.form
  injection hv with h1 h2 h3; subst h1; rw [f] at hs; exact hs
end
theorem toNetwork_own {B n c m d : Nat} {A A' : Option Addr} {xs : List ByteArray} {fs : List Fib} (w : World) (hA : Sees elStr w B A n xs) (hF : Sees elFib w B A' m fs) (hB : B ≤ w.heap.size) (hn : n ≤ 1048576) (hm : m ≤ 1048576) :
    Calls Try.prog 13 #[.agg #[.slice A n c, .slice A' m d]] w fun e w' => ∃ A1 c1 A2 c2, e = .returned (.agg #[.slice A1 n c1, .slice A2 m c2]) ∧ NetOwn w' w.heap.size A1 n c1 A2 m c2 xs fs ∧ Below w.heap.size w w' := by
  refine (toNetwork_any w hA hF hB hn hm).mono ?_
  rintro e w' ⟨v, v', he, h1, h2, hb⟩
  obtain ⟨A1, c1, hv, a1, a2, _⟩ := h1.form
  obtain ⟨A2, c2, hv', b1, b2, _⟩ := h2.form
  rw [hA.len] at hv a1
  rw [hF.len] at hv' b1
  subst hv hv'
  exact ⟨A1, c1, A2, c2, he, ⟨a1, a2, b1, b2, hA.len, hF.len, h1, h2⟩, hb⟩
end Go.Proofs.Ytndmffmbkcagmaa
/- A network in memory, under one word; its two looks under that word. Conditions: none. -/
namespace Go.Proofs.Ytndmffmbkcagmaa
open Go.RowKit
/-- The value is a network that shows the names xs and the fibers fs. -/
def NetIs (w : World) (A : Option Addr) (n c : Nat) (A' : Option Addr) (m d : Nat) (xs : List ByteArray) (fs : List Fib) : Prop :=
  (n ≤ c ∧ n ≤ 1048576) ∧ (m ≤ d ∧ m ≤ 1048576) ∧ Sees elStr w w.heap.size A n xs ∧ Sees elFib w w.heap.size A' m fs ∧ ∀ x ∈ xs, x.size ≤ maxLen
section
variable {w w' : World} {n c m d : Nat} {A A' : Option Addr} {xs : List ByteArray} {fs : List Fib}
theorem NetIs.grow (h : NetIs w A n c A' m d xs fs) (hb : Below w.heap.size w w') : NetIs w' A n c A' m d xs fs :=
  ⟨h.1, h.2.1, (h.2.2.1.grow hb).more hb.size, (h.2.2.2.1.grow hb).more hb.size, h.2.2.2.2⟩
theorem NetIs.strs (h : NetIs w A n c A' m d xs fs) : Sees elStr w w.heap.size A n xs := h.2.2.1
theorem NetIs.fibs (h : NetIs w A n c A' m d xs fs) : Sees elFib w w.heap.size A' m fs := h.2.2.2.1
theorem NetIs.nle (h : NetIs w A n c A' m d xs fs) : n ≤ 1048576 := h.1.2
theorem NetIs.mle (h : NetIs w A n c A' m d xs fs) : m ≤ 1048576 := h.2.1.2
theorem NetIs.xlen (h : NetIs w A n c A' m d xs fs) : xs.length = n := h.2.2.1.len
theorem NetIs.flen (h : NetIs w A n c A' m d xs fs) : fs.length = m := h.2.2.2.1.len
theorem NetOwn.is {base : Nat} (h : NetOwn w base A n c A' m d xs fs) (hn : n ≤ 1048576) (hm : m ≤ 1048576) (hx : ∀ x ∈ xs, x.size ≤ maxLen) : NetIs w A n c A' m d xs fs :=
  ⟨⟨h.1, hn⟩, ⟨h.2.2.1, hm⟩, h.strs, h.fibs, hx⟩
end
theorem validN {n c m d : Nat} {A A' : Option Addr} {xs : List ByteArray} {fs : List Fib} (w : World) (h : NetIs w A n c A' m d xs fs) :
    Calls Try.prog 78 #[.agg #[.slice A n c, .slice A' m d]] w fun e w' => e = .returned (.bool (goodB xs fs)) ∧ Below w.heap.size w w' :=
  isValid_any w h.strs h.fibs (Nat.le_refl _) h.nle h.mle h.1.1 h.2.1.1 h.2.2.2.2
theorem goodN {n c m d : Nat} {A A' : Option Addr} {xs : List ByteArray} {fs : List Fib} (w : World) (h : NetIs w A n c A' m d xs fs) :
    Calls Try.prog 80 #[.agg #[.slice A n c, .slice A' m d]] w fun e w' => e = .returned (.bool (goodB xs fs)) ∧ Below w.heap.size w w' :=
  l2Good_any w h.strs h.fibs (Nat.le_refl _) h.nle h.mle h.2.2.2.2
theorem goodB_bd {xs : List ByteArray} {fs : List Fib} (h : goodB xs fs = true) : 2 ≤ xs.length ∧ xs.length ≤ 8 ∧ fs.length ≤ 14 := by
  unfold goodB at h; simp at h; omega
theorem goodB_fibB {xs : List ByteArray} {fs : List Fib} (h : goodB xs fs = true) {f : Fib} (hf : f ∈ fs) : fibB xs.length f = true := by
  obtain ⟨k, hk, e⟩ := List.mem_iff_getElem.1 hf
  unfold goodB at h
  rw [Bool.and_eq_true] at h
  have := allB_iff.1 h.2 k hk
  unfold fibAt at this
  rw [Bool.and_eq_true, getD_of (x := f) (by rw [List.getElem?_eq_getElem hk, e])] at this
  exact this.1
end Go.Proofs.Ytndmffmbkcagmaa
/- The risk group of a fiber: the reference's, walked. Conditions: none. -/
namespace Go.Proofs.Ytndmffmbkcagmaa
open Go.RowKit
variable {n c m d : Nat} {A A' : Option Addr} {xs : List ByteArray} {fs : List Fib}
def riskF (fs : List Fib) (j : Nat) : Int := (fs.getD j ⟨0, 0, 0, 0⟩).risk
/-- The fibers that fail together with fiber i. -/
def groupL (fs : List Fib) (i : Nat) : List Int := if riskF fs i == 0 then [(i : Int)] else idsTo (fun j => riskF fs j == riskF fs i) fs.length
theorem riskF_of {j : Nat} {f : Fib} (h : fs[j]? = some f) : riskF fs j = f.risk := by unfold riskF; rw [getD_of h]
theorem filled_int1 (s : Int) : Filled elInt #[.int .i64 s] [s] 1 := by
  intro j x hj hx i u hu
  obtain rfl : j = 0 := by omega
  simp at hx; subst hx
  match i, hu with
  | 0, hu => simp [elInt] at hu; subst hu; rfl
set_option maxHeartbeats 1000000 in
set_option maxRecDepth 100000 in
theorem l2Group_any (i : Nat) (w : World) (h : NetIs w A n c A' m d xs fs) (hi' : i < m) :
    Calls Try.prog 89 #[.agg #[.slice A n c, .slice A' m d], .int .i64 i] w fun e w' => ∃ s : Sl, e = .returned (slV s) ∧ Owns elInt w' w.heap.size 3 (slV s) (groupL fs i) ∧ Below w.heap.size w w' := by
  obtain ⟨i0, hi, hz0, hz1, hz2⟩ := info_parts int_info
  have hb0 := bl_alloc (Below.refl w.heap.size w) (.cells #[.slice A n c, .slice A' m d] 36)
  have hx0 : Blk (w.alloc (.cells #[.slice A n c, .slice A' m d] 36)) w.heap.size 36 #[.slice A n c, .slice A' m d] := Blk.new _ _ _
  have h0 := h.grow hb0
  have hlf := h.flen
  have hm := h.mle
  have hsz0 : (w.alloc (.cells #[.slice A n c, .slice A' m d] 36)).heap.size = w.heap.size + 1 := by simp
  have q1 := hx0.cell 1
  simp at q1
  obtain ⟨fi, hfi⟩ := get_of (k := i) hlf hi'
  obtain ⟨b, o, rfl, _, hc⟩ := h0.fibs.at_ hi'
  have fr := hc i fi hfi 3 _ rfl
  simp only [elFib] at fr
  cases g : (fi.risk == 0)
  · have H : Hid (groupL fs i = idsTo (fun j => riskF fs j == fi.risk) m) := by unfold Hid groupL; rw [riskF_of hfi, g, hlf]; rfl
    have hoe : Hid (Owns elInt ((w.alloc (.cells #[.slice A n c, .slice (some ⟨b, o, none⟩) m d] 36)).alloc (.cells #[] 3)) (w.heap.size + 1) 3 (.slice (some ⟨w.heap.size + 1, 0, none⟩) 0 0) (idsTo (fun j => riskF fs j == fi.risk) 0)) :=
      Owns.of_blk (n := 0) (cap := 0) (cur := #[]) (by have := Blk.new (w.alloc (.cells #[.slice A n c, .slice (some ⟨b, o, none⟩) m d] 36)) 3 #[]; simpa using this) (Nat.le_refl _) rfl (Nat.le_refl _) rfl (by decide) (Filled.zero _ _ _)
    have hbe : Below (w.alloc (.cells #[.slice A n c, .slice (some ⟨b, o, none⟩) m d] 36)).heap.size (w.alloc (.cells #[.slice A n c, .slice (some ⟨b, o, none⟩) m d] 36)) ((w.alloc (.cells #[.slice A n c, .slice (some ⟨b, o, none⟩) m d] 36)).alloc (.cells #[] 3)) := bl_alloc (Below.refl _ _) _
    have HC := hid hc
    clear hfi hc
    go_enter Try.func89, Try.ntmps89
    go_wp2_with fail
    generalize hw0 : w.alloc (.cells #[.slice A n c, .slice (some ⟨b, o, none⟩) m d] 36) = w0 at *
    go_loopw [5, 6] (fun v i wr => ∃ k : Nat, k ≤ m ∧ i = .int .i64 k ∧ Hid (Owns elInt wr (w.heap.size + 1) 3 v (idsTo (fun j => riskF fs j == fi.risk) k)) ∧ Below w0.heap.size w0 wr) (fun _ i _ => m - (intOf i).toNat)
    case atStart => exact ⟨0, Nat.zero_le _, rfl, hoe, hbe⟩
    case round =>
      clear hbe hoe q1
      obtain ⟨k, hk, rfl, hown, hb⟩ := hrel
      have q1 := (hx0.below hb hx0.lt).cell 1
      simp at q1
      by_cases hlt : k < m
      · obtain ⟨f, hfk⟩ := get_of (k := k) hlf hlt
        have f3 := bl_cell hb (HC.out k f hfk 3 _ rfl)
        have fr' := bl_cell hb fr
        simp only [elFib] at f3
        have T0 : ∀ w', Cls wr w' → w'.cell? ⟨b, o + k * 4 + 3, none⟩ = some (.int .i64 f.risk) := fun _ h => h.cell f3
        have T1 : ∀ w', Cls wr w' → w'.cell? ⟨b, o + i * 4 + 3, none⟩ = some (.int .i64 fi.risk) := fun _ h => h.cell fr'
        have Q1 : ∀ w', Cls wr w' → w'.cell? ⟨w.heap.size, 1, none⟩ = some (.slice (some ⟨b, o, none⟩) m d) := fun _ h => h.cell q1
        have iz : (k : Int) < (m : Int) := by omega
        have iz2 : (i : Int) < (m : Int) := by omega
        have hp : Hid ((riskF fs k == fi.risk) = (f.risk == fi.risk)) := by unfold Hid; rw [riskF_of hfk]
        have hwz := hb.size
        have hll := idsTo_len (fun j => riskF fs j == fi.risk) k
        clear hfk f3 fr'
        go_wp2
        refine region_cls (by kernel_rfl) (by kernel_rfl) ?_
        repeat (first
          | ((with_reducible refine quiet_pos ?_ (fun K hK => ?_))
             · rfl
             apply Exists.intro
             refine ⟨fun w' hw' => ?_, ?_⟩
             · go_simp
               with_reducible rfl
             simp only [Act.put, List.setIfInBounds_toArray, List.set_cons_zero, List.set_cons_succ]
             refine hK _ ?_; clear hK K)
          | ((with_reducible refine quiet_neg ?_ (fun K hK => ?_))
             · rfl
             simp only [Act.put, List.setIfInBounds_toArray, List.set_cons_zero, List.set_cons_succ]
             refine hK _ ?_; clear hK K))
        with_reducible refine wpQuiet_nil ?_
        intro wz hwz'
        have hbZ := bl_then hb hwz'
        have hoZ : Hid (Owns elInt _ _ _ _ _) := hown.out.below hwz'
        have hzz := hwz'.size
        clear hown T0 T1 Q1 q1 hb
        cases g3 : (f.risk == fi.risk)
        · have HN : Hid (idsTo (fun j => riskF fs j == fi.risk) (k + 1) = idsTo (fun j => riskF fs j == fi.risk) k) := idsTo_no (hp.out.trans g3)
          have HO := hoZ
          rw [← HN.out] at HO
          clear hp hoZ
          go_wp2
          exact ⟨⟨k + 1, by omega, by go_num, HO, hbZ⟩, by simp [intOf]; omega⟩
        · have HN : Hid (idsTo (fun j => riskF fs j == fi.risk) (k + 1) = idsTo (fun j => riskF fs j == fi.risk) k ++ [(k : Int)]) := idsTo_yes (hp.out.trans g3)
          have hbG := bl_alloc hbZ (.cells #[.int .i64 k] 3)
          have hoG : Hid (Owns elInt _ _ _ _ _) := hoZ.out.below (bl_alloc (Below.refl _ _) (.cells #[.int .i64 k] 3))
          clear hp hoZ
          go_wp2_with (first
            | (at_builtin; refine wpList_append_own _ rfl _ _ 26 rfl (w.heap.size + 1) 3 i0 (.int .i64 0) 1 8 Try.underlying26 hi hz0 hz1 hz2 rfl (by decide) _ (idsTo (fun j => riskF fs j == fi.risk) k).length ((idsTo (fun j => riskF fs j == fi.risk) k).flatMap elInt.cells) rfl hoG.out ⟨_, 0, none⟩ 1 1 [.int .i64 k] rfl rfl (one_new _ _ _ (by simp)) (fun u hu => by simp at hu; subst hu; rfl) (by unfold maxLen; omega) (by omega) (by simp; omega) ?_)
            | go_in)
          intro v' w1 hown' hgrow _
          have HO : Hid (Owns elInt w1 (w.heap.size + 1) 3 v' (idsTo (fun j => riskF fs j == fi.risk) (k + 1))) := by unfold Hid; rw [HN.out]; exact Owns.appended hown'
          have hbN := bl_grown hbG hgrow (fun g hg => by have := (hoG.out.lies g hg).1; omega)
          clear hown' hgrow hoG hbG
          go_wp2
          go_roundw
          case rel => exact ⟨k + 1, by omega, by go_num, HO, hbN⟩
          case measure => simp [intOf]; omega
      · have hkm : k = m := by omega
        rw [hkm] at hown
        obtain ⟨Ao, co, rfl, _, _, _⟩ := hown.out.form
        clear hlt
        go_wp2
        go_ret
        exact ⟨⟨Ao, _, co⟩, rfl, by rw [H.out]; exact hown.out.base (by omega), hb0.trans (hb.mono (by omega))⟩
  · have H : Hid (groupL fs i = [(i : Int)]) := by unfold Hid groupL; rw [riskF_of hfi, g]; rfl
    clear hfi hc
    go_enter Try.func89, Try.ntmps89
    go_wp2_with fail
    go_ret
    exact ⟨⟨some ⟨w.heap.size + 1, 0, none⟩, 1, 1⟩, rfl, by rw [H.out]; exact Owns.of_blk (n := 1) (cap := 1) (cur := #[.int .i64 i]) (by have := Blk.new (w.alloc (.cells #[.slice A n c, .slice (some ⟨b, o, none⟩) m d] 36)) 3 #[.int .i64 i]; simpa using this) (Nat.le_succ _) rfl (Nat.le_refl _) rfl (by decide) (filled_int1 _), bl_alloc hb0 _⟩
end Go.Proofs.Ytndmffmbkcagmaa
/- impl.groups: the risk groups of a network, walked. Conditions: none. -/
namespace Go.Proofs.Ytndmffmbkcagmaa
open Go.RowKit
variable {n c m d : Nat} {A A' : Option Addr} {xs : List ByteArray} {fs : List Fib}
/-- The rows of the risks 1 .. t that some fiber bears. -/
def rkRow (fs : List Fib) (t : Nat) : List Int := idsTo (fun j => riskF fs j == ((t : Int) + 1)) fs.length
def rkTo (fs : List Fib) (t : Nat) : List (List Int) := ((List.range t).map (rkRow fs)).filter fun l => !l.isEmpty
theorem rkTo_zero (fs : List Fib) : rkTo fs 0 = [] := rfl
theorem rkTo_no {t : Nat} (h : rkRow fs t = []) : rkTo fs (t + 1) = rkTo fs t := by simp [rkTo, List.range_succ, List.filter_append, h]
theorem rkTo_yes {t : Nat} (h : rkRow fs t ≠ []) : rkTo fs (t + 1) = rkTo fs t ++ [rkRow fs t] := by simp [rkTo, List.range_succ, List.filter_append, h]
theorem rkTo_len (fs : List Fib) (t : Nat) : (rkTo fs t).length ≤ t := by
  unfold rkTo
  exact Nat.le_trans (List.length_filter_le _ _) (by simp)
/-- The rows of the fibers without a risk. -/
def zrTo (fs : List Fib) (k : Nat) : List (List Int) := (idsTo (fun j => riskF fs j == 0) k).map fun x => [x]
theorem zrTo_zero (fs : List Fib) : zrTo fs 0 = [] := rfl
theorem zrTo_no {k : Nat} (h : (riskF fs k == 0) = false) : zrTo fs (k + 1) = zrTo fs k := by unfold zrTo; rw [idsTo_no h]
theorem zrTo_yes {k : Nat} (h : (riskF fs k == 0) = true) : zrTo fs (k + 1) = zrTo fs k ++ [[(k : Int)]] := by unfold zrTo; rw [idsTo_yes h]; simp
theorem zrTo_len (fs : List Fib) (k : Nat) : (zrTo fs k).length ≤ k := by unfold zrTo; rw [List.length_map]; exact idsTo_len _ _
/-- All risk groups. -/
def groupsL (fs : List Fib) : List (List Int) := rkTo fs 9 ++ zrTo fs fs.length
set_option maxHeartbeats 2000000 in
set_option maxRecDepth 100000 in
theorem groups_any (w : World) (h : NetIs w A n c A' m d xs fs) :
    Calls Try.prog 111 #[.agg #[.slice A n c, .slice A' m d]] w fun e w' => ∃ s ss, e = .returned (slV s) ∧ OwnsSS w' w.heap.size (slV s) ss (groupsL fs) ∧ Below w.heap.size w w' := by
  obtain ⟨i0, hi, hz0, hz1, hz2⟩ := info_parts int_info
  obtain ⟨j0, hj, hy0, hy1, hy2⟩ := info_parts sl_info
  have hb0 := bl_alloc (Below.refl w.heap.size w) (.cells #[.slice A n c, .slice A' m d] 36)
  have hx0 : Blk (w.alloc (.cells #[.slice A n c, .slice A' m d] 36)) w.heap.size 36 #[.slice A n c, .slice A' m d] := Blk.new _ _ _
  have h0 := h.grow hb0
  have hlf := h.flen
  have hm := h.mle
  have hsz0 : (w.alloc (.cells #[.slice A n c, .slice A' m d] 36)).heap.size = w.heap.size + 1 := by simp
  have hbe : Below (w.alloc (.cells #[.slice A n c, .slice A' m d] 36)).heap.size (w.alloc (.cells #[.slice A n c, .slice A' m d] 36)) ((w.alloc (.cells #[.slice A n c, .slice A' m d] 36)).alloc (.cells #[] 26)) := bl_alloc (Below.refl _ _) _
  have hoe : Hid (OwnsSS ((w.alloc (.cells #[.slice A n c, .slice A' m d] 36)).alloc (.cells #[] 26)) (w.heap.size + 1) (.slice (some ⟨w.heap.size + 1, 0, none⟩) 0 0) [] (rkTo fs 0)) :=
    ⟨Owns.of_blk (E := elSl) (n := 0) (cap := 0) (cur := #[]) (by have := Blk.new (w.alloc (.cells #[.slice A n c, .slice A' m d] 36)) 26 #[]; simpa using this) (Nat.le_refl _) rfl (Nat.le_refl _) rfl (by decide) (Filled.zero _ _ _), rfl, fun i s r h1 => by simp at h1, fun i j s t g _ h1 => by simp at h1⟩
  go_enter Try.func111, Try.ntmps111
  go_wp2_with fail
  generalize hw0 : w.alloc (.cells #[.slice A n c, .slice A' m d] 36) = w0 at *
  go_loopw [3, 4] (fun v i wr => ∃ (t : Nat) (ss : List Sl), t ≤ 9 ∧ i = .int .i64 ((t : Int) + 1) ∧ Hid (OwnsSS wr (w.heap.size + 1) v ss (rkTo fs t)) ∧ Below w0.heap.size w0 wr) (fun _ i _ => 10 - (intOf i).toNat)
  case atStart => exact ⟨0, [], Nat.zero_le _, rfl, hoe, hbe⟩
  case round =>
    clear hbe hoe
    obtain ⟨t, ss, ht, rfl, hss, hb⟩ := hrel
    have q1 := (hx0.below hb hx0.lt).cell 1
    simp at q1
    have hwz := hb.size
    by_cases htl : t < 9
    · obtain ⟨wo, hwo⟩ : ∃ wo, wo = wr := ⟨_, rfl⟩
      subst hwo
      have hbi : Below wo.heap.size wo (wo.alloc (.cells #[] 3)) := bl_alloc (Below.refl _ _) _
      have hoi : Hid (Owns elInt (wo.alloc (.cells #[] 3)) wo.heap.size 3 (.slice (some ⟨wo.heap.size, 0, none⟩) 0 0) (idsTo (fun j => riskF fs j == ((t : Int) + 1)) 0)) :=
        Owns.of_blk (n := 0) (cap := 0) (cur := #[]) (Blk.new wo 3 #[]) (Nat.le_refl _) rfl (Nat.le_refl _) rfl (by decide) (Filled.zero _ _ _)
      have e9 : decide ((t : Int) + 1 ≤ 9) = true := decide_eq_true (by omega)
      have q2 := ((hx0.below hb hx0.lt).alloc (.cells #[] 3)).cell 1
      simp at q2
      go_wp2_with fail
      clear q1 q2
      go_loopw [5, 19] (fun v i wq => ∃ k : Nat, k ≤ m ∧ i = .int .i64 k ∧ Hid (Owns elInt wq wo.heap.size 3 v (idsTo (fun j => riskF fs j == ((t : Int) + 1)) k)) ∧ Below wo.heap.size wo wq) (fun _ i _ => m - (intOf i).toNat)
      case atStart => exact ⟨0, Nat.zero_le _, rfl, hoi, hbi⟩
      case round =>
        clear hbi hoi
        obtain ⟨k, hk, rfl, hown, hq⟩ := hrel
        have hbq := bl_then hb hq
        have zq := hq.size
        by_cases hlt : k < m
        · obtain ⟨b, o, rfl, _, hc⟩ := h0.fibs.at_ hlt
          obtain ⟨f, hfk⟩ := get_of (k := k) hlf hlt
          have f0 := bl_cell hbq (hc k f hfk 0 _ rfl)
          have f1 := bl_cell hbq (hc k f hfk 1 _ rfl)
          have f2 := bl_cell hbq (hc k f hfk 2 _ rfl)
          have f3 := bl_cell hbq (hc k f hfk 3 _ rfl)
          simp only [elFib, Nat.add_zero] at f0 f1 f2 f3
          have hp : Hid ((riskF fs k == ((t : Int) + 1)) = (f.risk == ((t : Int) + 1))) := by unfold Hid; rw [riskF_of hfk]
          have hbF := bl_alloc hq (.cells #[.int .i64 f.a, .int .i64 f.b, .int .i64 f.len, .int .i64 f.risk] 94)
          have hbF1 := bl_alloc (Below.refl wr.heap.size wr) (.cells #[.int .i64 f.a, .int .i64 f.b, .int .i64 f.len, .int .i64 f.risk] 94)
          have hoF : Hid (Owns elInt _ _ _ _ _) := hown.out.below hbF1
          have hll := idsTo_len (fun j => riskF fs j == ((t : Int) + 1)) k
          clear hc hfk hown hbF1
          cases g3 : (f.risk == ((t : Int) + 1))
          · have HN : Hid (idsTo (fun j => riskF fs j == ((t : Int) + 1)) (k + 1) = idsTo (fun j => riskF fs j == ((t : Int) + 1)) k) := idsTo_no (hp.out.trans g3)
            have HO := hoF
            rw [← HN.out] at HO
            clear hp hoF
            go_wp2
            exact ⟨⟨k + 1, by omega, by go_num, HO, hbF⟩, by simp [intOf]; omega⟩
          · have HN : Hid (idsTo (fun j => riskF fs j == ((t : Int) + 1)) (k + 1) = idsTo (fun j => riskF fs j == ((t : Int) + 1)) k ++ [(k : Int)]) := idsTo_yes (hp.out.trans g3)
            have hbG := bl_alloc hbF (.cells #[.int .i64 k] 3)
            have hoG : Hid (Owns elInt _ _ _ _ _) := hoF.out.below (bl_alloc (Below.refl _ _) (.cells #[.int .i64 k] 3))
            clear hp hoF
            go_wp2_with (first
              | (at_builtin; refine wpList_append_own _ rfl _ _ 26 rfl wo.heap.size 3 i0 (.int .i64 0) 1 8 Try.underlying26 hi hz0 hz1 hz2 rfl (by decide) _ (idsTo (fun j => riskF fs j == ((t : Int) + 1)) k).length ((idsTo (fun j => riskF fs j == ((t : Int) + 1)) k).flatMap elInt.cells) rfl hoG.out ⟨_, 0, none⟩ 1 1 [.int .i64 k] rfl rfl (one_new _ _ _ (by simp)) (fun u hu => by simp at hu; subst hu; rfl) (by unfold maxLen; omega) (by omega) (by simp; omega) ?_)
              | go_in)
            intro v' w1 hown' hgrow _
            have HO : Hid (Owns elInt w1 wo.heap.size 3 v' (idsTo (fun j => riskF fs j == ((t : Int) + 1)) (k + 1))) := by unfold Hid; rw [HN.out]; exact Owns.appended hown'
            have hbN := bl_grown hbG hgrow (fun g hg => (hoG.out.lies g hg).1)
            clear hown' hgrow hoG hbG
            go_wp2
            go_roundw
            case rel => first | exact ⟨k + 1, by omega, by go_num, HO, hbN⟩ | ((repeat apply Exists.intro); exact ⟨⟨k + 1, by omega, by go_num, HO, hbN⟩, rfl⟩)
            case measure => simp [intOf]; omega
        · have hkm : k = m := by omega
          rw [hkm] at hown
          have HRW : Hid (idsTo (fun j => riskF fs j == ((t : Int) + 1)) m = rkRow fs t) := by unfold Hid rkRow; rw [hlf]
          rw [HRW.out] at hown
          obtain ⟨Ao, co, rfl, _, _, _⟩ := hown.out.form
          obtain ⟨L, hL⟩ : ∃ L, L = (rkRow fs t).length := ⟨_, rfl⟩
          have HLL := hid hL
          rw [← hL] at hown ⊢
          have hsq := hid (hss.out.below hq)
          clear hlt
          by_cases hL0 : L = 0
          · have e0 : decide (0 < L) = false := by simp [hL0]
            have HT : Hid (rkTo fs (t + 1) = rkTo fs t) := rkTo_no (List.eq_nil_of_length_eq_zero (by rw [← hL, hL0]))
            have HS := hsq
            rw [← HT.out] at HS
            clear hL hL0 hsq hown hss
            go_wp2
            exact ⟨⟨t + 1, ss, by omega, by go_num, HS, hbq⟩, by simp [intOf]; omega⟩
          · have e0 : decide (0 < L) = true := by simp; omega
            have HT : Hid (rkTo fs (t + 1) = rkTo fs t ++ [rkRow fs t]) := rkTo_yes (fun e => hL0 (by rw [hL, e]; rfl))
            have hbG := bl_alloc hbq (.cells #[.slice Ao L co] 26)
            have hq2 := bl_alloc hq (.cells #[.slice Ao L co] 26)
            have hsG := hid (hsq.out.below (bl_alloc (Below.refl _ _) (.cells #[.slice Ao L co] 26)))
            have hr2 : Hid (Owns elInt _ _ _ (slV ⟨Ao, L, co⟩) _) := hown.out.below (bl_alloc (Below.refl _ _) (.cells #[.slice Ao L co] 26))
            have hsl : ss.length ≤ 9 := by have := hsG.out.2.1; have := rkTo_len fs t; omega
            clear hL hL0 hsq hown
            go_wp2_with (first
              | (at_builtin; refine wpList_append_own _ rfl _ _ 77 rfl (w.heap.size + 1) 26 j0 (.slice none 0 0) 1 24 Try.underlying77 hj hy0 hy1 hy2 rfl (by decide) _ ss.length (ss.flatMap elSl.cells) rfl hsG.out.1 ⟨_, 0, none⟩ 1 1 [.slice Ao L co] rfl rfl (one_new _ _ _ (by simp)) (fun u hu => by simp at hu; subst hu; rfl) (by unfold maxLen; omega) (by omega) (by simp; omega) ?_)
              | go_in)
            intro v' w1 hown' hgrow _
            have HP : Hid (OwnsSS w1 (w.heap.size + 1) v' (ss ++ [⟨Ao, L, co⟩]) (rkTo fs (t + 1))) := by
              unfold Hid; rw [HT.out]; exact hss.out.push (s0 := ⟨Ao, L, co⟩) hq2 (by omega) hr2.out (Owns.appended (E := elSl) hown') hgrow
            have hbN := bl_grown hbG hgrow (fun g hg => by have := (hsG.out.1.lies g hg).1; omega)
            clear hown' hgrow hsG hbG hr2 hq2 hss
            go_wp2
            exact ⟨⟨t + 1, _, by omega, by go_num, HP, hbN⟩, by simp [intOf]; omega⟩
    · have ht9 : t = 9 := by omega
      subst ht9
      have hs0 := hss
      rw [show rkTo fs 9 = rkTo fs 9 ++ zrTo fs 0 from by rw [zrTo_zero, List.append_nil]] at hs0
      clear hss
      go_wp2_with fail
      clear q1
      have hbs := hb
      obtain ⟨wo, hwo⟩ : ∃ wo, wo = wr := ⟨_, rfl⟩
      subst hwo
      go_loopw [3, 43] (fun v i wr => ∃ (k : Nat) (ss : List Sl), k ≤ m ∧ i = .int .i64 k ∧ Hid (OwnsSS wr (w.heap.size + 1) v ss (rkTo fs 9 ++ zrTo fs k)) ∧ Below w0.heap.size w0 wr) (fun _ i _ => m - (intOf i).toNat)
      case atStart => exact ⟨0, ss, Nat.zero_le _, rfl, hs0, hbs⟩
      case round =>
        clear hs0 hbs hb hwz
        obtain ⟨k, ss, hk, rfl, hss, hb⟩ := hrel
        have hwz := hb.size
        by_cases hlt : k < m
        · obtain ⟨b, o, rfl, _, hc⟩ := h0.fibs.at_ hlt
          obtain ⟨f, hfk⟩ := get_of (k := k) hlf hlt
          have f0 := bl_cell hb (hc k f hfk 0 _ rfl)
          have f1 := bl_cell hb (hc k f hfk 1 _ rfl)
          have f2 := bl_cell hb (hc k f hfk 2 _ rfl)
          have f3 := bl_cell hb (hc k f hfk 3 _ rfl)
          simp only [elFib, Nat.add_zero] at f0 f1 f2 f3
          have hp : Hid ((riskF fs k == 0) = (f.risk == 0)) := by unfold Hid; rw [riskF_of hfk]
          have hbF := bl_alloc hb (.cells #[.int .i64 f.a, .int .i64 f.b, .int .i64 f.len, .int .i64 f.risk] 94)
          have hbF1 := bl_alloc (Below.refl wr.heap.size wr) (.cells #[.int .i64 f.a, .int .i64 f.b, .int .i64 f.len, .int .i64 f.risk] 94)
          clear hc hfk
          cases g3 : (f.risk == 0)
          · have HN : Hid (zrTo fs (k + 1) = zrTo fs k) := zrTo_no (hp.out.trans g3)
            have HO := hid (hss.out.below hbF1)
            rw [← HN.out] at HO
            clear hp hss
            go_wp2
            exact ⟨⟨k + 1, ss, by omega, by go_num, HO, hbF⟩, by simp [intOf]; omega⟩
          · have HN : Hid (rkTo fs 9 ++ zrTo fs (k + 1) = (rkTo fs 9 ++ zrTo fs k) ++ [[(k : Int)]]) := by unfold Hid; rw [zrTo_yes (hp.out.trans g3), List.append_assoc]
            have hq1 := bl_alloc hbF1 (.cells #[.int .i64 k] 3)
            have hq2 := bl_alloc hq1 (.cells #[.slice (some ⟨wr.heap.size + 1, 0, none⟩) 1 1] 26)
            have hbG := bl_then hb hq2
            have hsG := hid (hss.out.below hq2)
            have hr2 : Hid (Owns elInt (((wr.alloc (.cells #[.int .i64 f.a, .int .i64 f.b, .int .i64 f.len, .int .i64 f.risk] 94)).alloc (.cells #[.int .i64 k] 3)).alloc (.cells #[.slice (some ⟨wr.heap.size + 1, 0, none⟩) 1 1] 26)) wr.heap.size 3 (slV ⟨some ⟨wr.heap.size + 1, 0, none⟩, 1, 1⟩) [(k : Int)]) :=
              (show Owns elInt ((wr.alloc (.cells #[.int .i64 f.a, .int .i64 f.b, .int .i64 f.len, .int .i64 f.risk] 94)).alloc (.cells #[.int .i64 k] 3)) wr.heap.size 3 (.slice (some ⟨wr.heap.size + 1, 0, none⟩) 1 1) [(k : Int)] from Owns.of_blk (n := 1) (cap := 1) (cur := #[.int .i64 k]) (by have := Blk.new (wr.alloc (.cells #[.int .i64 f.a, .int .i64 f.b, .int .i64 f.len, .int .i64 f.risk] 94)) 3 #[.int .i64 k]; simpa using this) (Nat.le_succ _) rfl (Nat.le_refl _) rfl (by decide) (filled_int1 _)).below (bl_alloc (Below.refl _ _) _)
            have hsl : ss.length ≤ 9 + k := by have := hsG.out.2.1; have := rkTo_len fs 9; have := zrTo_len fs k; simp at *; omega
            clear hp hq1 hbF hbF1
            go_wp2_with (first
              | (at_builtin; refine wpList_append_own _ rfl _ _ 77 rfl (w.heap.size + 1) 26 j0 (.slice none 0 0) 1 24 Try.underlying77 hj hy0 hy1 hy2 rfl (by decide) _ ss.length (ss.flatMap elSl.cells) rfl hsG.out.1 ⟨_, 0, none⟩ 1 1 [.slice (some ⟨wr.heap.size + 1, 0, none⟩) 1 1] rfl rfl (one_new _ _ _ (by simp)) (fun u hu => by simp at hu; subst hu; rfl) (by unfold maxLen; omega) (by omega) (by simp; omega) ?_)
              | go_in)
            intro v' w1 hown' hgrow _
            have HP : Hid (OwnsSS w1 (w.heap.size + 1) v' (ss ++ [⟨some ⟨wr.heap.size + 1, 0, none⟩, 1, 1⟩]) (rkTo fs 9 ++ zrTo fs (k + 1))) := by
              unfold Hid; rw [HN.out]; exact hss.out.push (s0 := ⟨some ⟨wr.heap.size + 1, 0, none⟩, 1, 1⟩) hq2 (by omega) hr2.out (Owns.appended (E := elSl) hown') hgrow
            have hbN := bl_grown hbG hgrow (fun g hg => by have := (hsG.out.1.lies g hg).1; omega)
            clear hown' hgrow hsG hbG hr2 hq2 hss
            go_wp2
            refine ⟨?_, by simp [intOf]; omega⟩
            first | exact ⟨k + 1, _, by omega, by go_num, HP, hbN⟩ | ((repeat apply Exists.intro); exact ⟨⟨k + 1, _, by omega, by go_num, HP, hbN⟩, rfl⟩)
        · have hkm : k = m := by omega
          rw [hkm] at hss
          have HG : Hid (groupsL fs = rkTo fs 9 ++ zrTo fs m) := by unfold Hid groupsL; rw [hlf]
          obtain ⟨Ao, co, rfl, _, _, _⟩ := hss.out.1.form
          clear hlt
          go_wp2
          go_ret
          exact ⟨⟨Ao, _, co⟩, ss, rfl, by rw [HG.out]; exact hss.out.base_ (by omega), hb0.trans (hb.mono (by omega))⟩
end Go.Proofs.Ytndmffmbkcagmaa
/- spec.l2Groups: the reference's risk groups, walked. Conditions: none. -/
namespace Go.Proofs.Ytndmffmbkcagmaa
open Go.RowKit
variable {n c m d : Nat} {A A' : Option Addr} {xs : List ByteArray} {fs : List Fib}
theorem groupL_row {t k : Nat} (h : (riskF fs k == ((t : Int) + 1)) = true) : groupL fs k = rkRow fs t := by
  have e : riskF fs k = (t : Int) + 1 := by simpa using h
  unfold groupL rkRow
  rw [e, if_neg (by simp; omega)]
theorem idsTo_ne {p : Nat → Bool} {k m : Nat} (hk : k < m) (h : p k = true) : idsTo p m ≠ [] := by
  intro e
  unfold idsTo at e
  have : (List.range m).filter p = [] := List.map_eq_nil_iff.1 e
  have h2 := List.filter_eq_nil_iff.1 this k (by simpa using hk)
  exact h2 h
set_option maxHeartbeats 2000000 in
set_option maxRecDepth 100000 in
theorem l2Groups_any (w : World) (h : NetIs w A n c A' m d xs fs) :
    Calls Try.prog 62 #[.agg #[.slice A n c, .slice A' m d]] w fun e w' => ∃ s ss, e = .returned (slV s) ∧ OwnsSS w' w.heap.size (slV s) ss (groupsL fs) ∧ Below w.heap.size w w' := by
  obtain ⟨j0, hj, hy0, hy1, hy2⟩ := info_parts sl_info
  have hb0 := bl_alloc (Below.refl w.heap.size w) (.cells #[.slice A n c, .slice A' m d] 36)
  have hx0 : Blk (w.alloc (.cells #[.slice A n c, .slice A' m d] 36)) w.heap.size 36 #[.slice A n c, .slice A' m d] := Blk.new _ _ _
  have h0 := h.grow hb0
  have hlf := h.flen
  have hm := h.mle
  have hsz0 : (w.alloc (.cells #[.slice A n c, .slice A' m d] 36)).heap.size = w.heap.size + 1 := by simp
  have hbe : Below (w.alloc (.cells #[.slice A n c, .slice A' m d] 36)).heap.size (w.alloc (.cells #[.slice A n c, .slice A' m d] 36)) ((w.alloc (.cells #[.slice A n c, .slice A' m d] 36)).alloc (.cells #[] 26)) := bl_alloc (Below.refl _ _) _
  have hoe : Hid (OwnsSS ((w.alloc (.cells #[.slice A n c, .slice A' m d] 36)).alloc (.cells #[] 26)) (w.heap.size + 1) (.slice (some ⟨w.heap.size + 1, 0, none⟩) 0 0) [] (rkTo fs 0)) :=
    ⟨Owns.of_blk (E := elSl) (n := 0) (cap := 0) (cur := #[]) (by have := Blk.new (w.alloc (.cells #[.slice A n c, .slice A' m d] 36)) 26 #[]; simpa using this) (Nat.le_refl _) rfl (Nat.le_refl _) rfl (by decide) (Filled.zero _ _ _), rfl, fun i s r h1 => by simp at h1, fun i j s t g _ h1 => by simp at h1⟩
  go_enter Try.func62, Try.ntmps62
  go_wp2_with fail
  generalize hw0 : w.alloc (.cells #[.slice A n c, .slice A' m d] 36) = w0 at *
  go_loopw [3, 4] (fun v i wr => ∃ (t : Nat) (ss : List Sl), t ≤ 9 ∧ i = .int .i64 ((t : Int) + 1) ∧ Hid (OwnsSS wr (w.heap.size + 1) v ss (rkTo fs t)) ∧ Below w0.heap.size w0 wr) (fun _ i _ => 10 - (intOf i).toNat)
  case atStart => exact ⟨0, [], Nat.zero_le _, rfl, hoe, hbe⟩
  case round =>
    clear hbe hoe
    obtain ⟨t, ss, ht, rfl, hss, hb⟩ := hrel
    have hwz := hb.size
    by_cases htl : t < 9
    · obtain ⟨wo, hwo⟩ : ∃ wo, wo = wr := ⟨_, rfl⟩
      subst hwo
      have e9 : decide ((t : Int) + 1 ≤ 9) = true := decide_eq_true (by omega)
      have hsl : ss.length ≤ 9 := by have := hss.out.2.1; have := rkTo_len fs t; omega
      go_wp2_with fail
      go_loopw [3, 5] (fun v i wr => ∃ k : Nat, k ≤ m ∧ i = .int .i64 k ∧ v = u3 ∧ Hid (idsTo (fun j => riskF fs j == ((t : Int) + 1)) k = []) ∧ wr = wo) (fun _ i _ => m - (intOf i).toNat)
      case atStart => exact ⟨0, Nat.zero_le _, rfl, rfl, idsTo_zero _, rfl⟩
      case round =>
        obtain ⟨k, hk, rfl, rfl, hno, rfl⟩ := hrel
        have q1 := (hx0.below hb hx0.lt).cell 1
        have q0 := (hx0.below hb hx0.lt).cell 0
        simp at q0 q1
        by_cases hlt : k < m
        · obtain ⟨b, o, rfl, _, hc⟩ := h0.fibs.at_ hlt
          obtain ⟨f, hfk⟩ := get_of (k := k) hlf hlt
          have f3 := bl_cell hb (hc k f hfk 3 _ rfl)
          simp only [elFib] at f3
          have hp : Hid ((riskF fs k == ((t : Int) + 1)) = (f.risk == ((t : Int) + 1))) := by unfold Hid; rw [riskF_of hfk]
          clear hc hfk
          cases g3 : (f.risk == ((t : Int) + 1))
          · have HN : Hid (idsTo (fun j => riskF fs j == ((t : Int) + 1)) (k + 1) = []) := by unfold Hid; rw [idsTo_no (hp.out.trans g3)]; exact hno.out
            clear hp hno
            go_wp2
            refine ⟨?_, by simp [intOf]; omega⟩
            first | exact ⟨k + 1, by omega, by go_num, rfl, HN, trivial⟩ | exact ⟨k + 1, by omega, by go_num, HN, rfl⟩ | exact ⟨k + 1, by omega, by go_num, rfl, HN, rfl⟩ | ((repeat apply Exists.intro); exact ⟨⟨k + 1, by omega, by go_num, rfl, HN, rfl⟩, rfl⟩)
          · have HR : Hid (groupL fs k = rkRow fs t) := groupL_row (hp.out.trans g3)
            have HT : Hid (rkTo fs (t + 1) = rkTo fs t ++ [rkRow fs t]) := rkTo_yes (by unfold rkRow; rw [hlf]; exact idsTo_ne hlt (hp.out.trans g3))
            have HC := hid (l2Group_any k wr (h0.grow hb) hlt)
            clear hp hno
            go_wp2_with fail
            refine HC.out.mono ?_
            rintro e w2 ⟨s2, rfl, ho2, hb2⟩
            have ho2 := hid ho2
            obtain ⟨Ag, Lg, cg⟩ := s2
            have hbG := bl_alloc (bl_then hb hb2) (.cells #[.slice Ag Lg cg] 26)
            have hq2 := bl_alloc hb2 (.cells #[.slice Ag Lg cg] 26)
            have hsG := hid (hss.out.below hq2)
            have hr2 : Hid (Owns elInt _ _ _ (slV ⟨Ag, Lg, cg⟩) _) := ho2.out.below (bl_alloc (Below.refl _ _) (.cells #[.slice Ag Lg cg] 26))
            have z2 := hb2.size
            unfold slV
            clear HC ho2 hb2 q0 q1 f3
            go_wp2_with (first
              | (at_builtin; refine wpList_append_own _ rfl _ _ 77 rfl (w.heap.size + 1) 26 j0 (.slice none 0 0) 1 24 Try.underlying77 hj hy0 hy1 hy2 rfl (by decide) _ ss.length (ss.flatMap elSl.cells) rfl hsG.out.1 ⟨_, 0, none⟩ 1 1 [.slice Ag Lg cg] rfl rfl (one_new _ _ _ (by simp)) (fun u hu => by simp at hu; subst hu; rfl) (by unfold maxLen; omega) (by omega) (by simp; omega) ?_)
              | go_in)
            intro v' w1 hown' hgrow _
            have HP : Hid (OwnsSS w1 (w.heap.size + 1) v' (ss ++ [⟨Ag, Lg, cg⟩]) (rkTo fs (t + 1))) := by
              unfold Hid; rw [HT.out]; exact hss.out.push (s0 := ⟨Ag, Lg, cg⟩) hq2 (by omega) (by have := hr2.out; rw [HR.out] at this; exact this) (Owns.appended (E := elSl) hown') hgrow
            have hbN := bl_grown hbG hgrow (fun g hg => by have := (hsG.out.1.lies g hg).1; omega)
            clear hown' hgrow hsG hbG hr2 hq2 hss
            go_wp2
            refine ⟨?_, by simp [intOf]; omega⟩
            first | exact ⟨t + 1, _, by omega, by go_num, HP, hbN⟩ | ((repeat apply Exists.intro); exact ⟨⟨t + 1, _, by omega, by go_num, HP, hbN⟩, rfl⟩)
        · have hkm : k = m := by omega
          have HT : Hid (rkTo fs (t + 1) = rkTo fs t) := rkTo_no (by unfold rkRow; rw [hlf, ← hkm]; exact hno.out)
          have HS := hss
          rw [← HT.out] at HS
          clear hno hlt hss
          go_wp2
          refine ⟨?_, by simp [intOf]; omega⟩
          first | exact ⟨t + 1, ss, by omega, by go_num, HS, hb⟩ | ((repeat apply Exists.intro); exact ⟨⟨t + 1, ss, by omega, by go_num, HS, hb⟩, rfl⟩)
    · have ht9 : t = 9 := by omega
      subst ht9
      have hs0 := hss
      rw [show rkTo fs 9 = rkTo fs 9 ++ zrTo fs 0 from by rw [zrTo_zero, List.append_nil]] at hs0
      clear hss
      go_wp2_with fail
      have hbs := hb
      obtain ⟨wo, hwo⟩ : ∃ wo, wo = wr := ⟨_, rfl⟩
      subst hwo
      go_loopw [3, 6] (fun v i wr => ∃ (k : Nat) (ss : List Sl), k ≤ m ∧ i = .int .i64 k ∧ Hid (OwnsSS wr (w.heap.size + 1) v ss (rkTo fs 9 ++ zrTo fs k)) ∧ Below w0.heap.size w0 wr) (fun _ i _ => m - (intOf i).toNat)
      case atStart => exact ⟨0, ss, Nat.zero_le _, rfl, hs0, hbs⟩
      case round =>
        clear hs0 hbs hb hwz
        obtain ⟨k, ss, hk, rfl, hss, hb⟩ := hrel
        have hwz := hb.size
        have q1 := (hx0.below hb hx0.lt).cell 1
        simp at q1
        by_cases hlt : k < m
        · obtain ⟨b, o, rfl, _, hc⟩ := h0.fibs.at_ hlt
          obtain ⟨f, hfk⟩ := get_of (k := k) hlf hlt
          have f3 := bl_cell hb (hc k f hfk 3 _ rfl)
          simp only [elFib] at f3
          have hp : Hid ((riskF fs k == 0) = (f.risk == 0)) := by unfold Hid; rw [riskF_of hfk]
          clear hc hfk
          cases g3 : (f.risk == 0)
          · have HN : Hid (zrTo fs (k + 1) = zrTo fs k) := zrTo_no (hp.out.trans g3)
            have HO := hss
            rw [← HN.out] at HO
            clear hp hss
            go_wp2
            refine ⟨?_, by simp [intOf]; omega⟩
            first | exact ⟨k + 1, ss, by omega, by go_num, HO, hb⟩ | ((repeat apply Exists.intro); exact ⟨⟨k + 1, ss, by omega, by go_num, HO, hb⟩, rfl⟩)
          · have HN : Hid (rkTo fs 9 ++ zrTo fs (k + 1) = (rkTo fs 9 ++ zrTo fs k) ++ [[(k : Int)]]) := by unfold Hid; rw [zrTo_yes (hp.out.trans g3), List.append_assoc]
            have hq1 := bl_alloc (Below.refl wr.heap.size wr) (.cells #[.int .i64 k] 3)
            have hq2 := bl_alloc hq1 (.cells #[.slice (some ⟨wr.heap.size, 0, none⟩) 1 1] 26)
            have hbG := bl_then hb hq2
            have hsG := hid (hss.out.below hq2)
            have hr2 : Hid (Owns elInt ((wr.alloc (.cells #[.int .i64 k] 3)).alloc (.cells #[.slice (some ⟨wr.heap.size, 0, none⟩) 1 1] 26)) wr.heap.size 3 (slV ⟨some ⟨wr.heap.size, 0, none⟩, 1, 1⟩) [(k : Int)]) :=
              (show Owns elInt (wr.alloc (.cells #[.int .i64 k] 3)) wr.heap.size 3 (.slice (some ⟨wr.heap.size, 0, none⟩) 1 1) [(k : Int)] from Owns.of_blk (n := 1) (cap := 1) (cur := #[.int .i64 k]) (Blk.new wr 3 #[.int .i64 k]) (Nat.le_refl _) rfl (Nat.le_refl _) rfl (by decide) (filled_int1 _)).below (bl_alloc (Below.refl _ _) _)
            have hsl : ss.length ≤ 9 + k := by have := hsG.out.2.1; have := rkTo_len fs 9; have := zrTo_len fs k; simp at *; omega
            clear hp hq1
            go_wp2_with (first
              | (at_builtin; refine wpList_append_own _ rfl _ _ 77 rfl (w.heap.size + 1) 26 j0 (.slice none 0 0) 1 24 Try.underlying77 hj hy0 hy1 hy2 rfl (by decide) _ ss.length (ss.flatMap elSl.cells) rfl hsG.out.1 ⟨_, 0, none⟩ 1 1 [.slice (some ⟨wr.heap.size, 0, none⟩) 1 1] rfl rfl (one_new _ _ _ (by simp)) (fun u hu => by simp at hu; subst hu; rfl) (by unfold maxLen; omega) (by omega) (by simp; omega) ?_)
              | go_in)
            intro v' w1 hown' hgrow _
            have HP : Hid (OwnsSS w1 (w.heap.size + 1) v' (ss ++ [⟨some ⟨wr.heap.size, 0, none⟩, 1, 1⟩]) (rkTo fs 9 ++ zrTo fs (k + 1))) := by
              unfold Hid; rw [HN.out]; exact hss.out.push (s0 := ⟨some ⟨wr.heap.size, 0, none⟩, 1, 1⟩) hq2 (by omega) hr2.out (Owns.appended (E := elSl) hown') hgrow
            have hbN := bl_grown hbG hgrow (fun g hg => by have := (hsG.out.1.lies g hg).1; omega)
            clear hown' hgrow hsG hbG hr2 hq2 hss
            go_wp2
            refine ⟨?_, by simp [intOf]; omega⟩
            first | exact ⟨k + 1, _, by omega, by go_num, HP, hbN⟩ | ((repeat apply Exists.intro); exact ⟨⟨k + 1, _, by omega, by go_num, HP, hbN⟩, rfl⟩)
        · have hkm : k = m := by omega
          rw [hkm] at hss
          have HG : Hid (groupsL fs = rkTo fs 9 ++ zrTo fs m) := by unfold Hid groupsL; rw [hlf]
          obtain ⟨Ao, co, rfl, _, _, _⟩ := hss.out.1.form
          clear hlt
          go_wp2
          go_ret
          exact ⟨⟨Ao, _, co⟩, ss, rfl, by rw [HG.out]; exact hss.out.base_ (by omega), hb0.trans (hb.mono (by omega))⟩
end Go.Proofs.Ytndmffmbkcagmaa
/- RiskGroups of both sides and the reference's FailingWith, walked. Conditions: none. -/
namespace Go.Proofs.Ytndmffmbkcagmaa
open Go.RowKit
variable {n c m d : Nat} {A A' : Option Addr} {xs : List ByteArray} {fs : List Fib}
def rgL (xs : List ByteArray) (fs : List Fib) : List (List Int) := if goodB xs fs then groupsL fs else []
def fwB (xs : List ByteArray) (fs : List Fib) (i : Int) : Bool := goodB xs fs && inB 0 ((fs.length : Int) - 1) i
def fwL (xs : List ByteArray) (fs : List Fib) (i : Int) : List Int := if fwB xs fs i then groupL fs i.toNat else []
end Go.Proofs.Ytndmffmbkcagmaa
/- eqIntSS, walked. Conditions: at most 1048576 rows and numbers in a row. -/
namespace Go.Proofs.Ytndmffmbkcagmaa
open Go.RowKit
/-- Rows of numbers as they read. -/
def SeesSS (w : World) (A : Option Addr) (n : Nat) (ss : List Sl) (rows : List (List Int)) : Prop :=
  Sees elSl w w.heap.size A n ss ∧ ss.length = rows.length ∧ ∀ (i : Nat) s r, ss[i]? = some s → rows[i]? = some r → s.n = r.length ∧ Sees elInt w w.heap.size s.A s.n r
theorem OwnsSS.sees {w : World} {base n c : Nat} {A : Option Addr} {ss : List Sl} {rows : List (List Int)} (h : OwnsSS w base (.slice A n c) ss rows) : SeesSS w A ss.length ss rows := by
  refine ⟨h.1.sees, h.2.1, fun i s r h1 h2 => ?_⟩
  have ho := h.2.2.1 i s r h1 h2
  obtain ⟨A', c', hv, _, _, hs⟩ := ho.form
  unfold slV at hv
  injection hv with e1 e2 e3
  exact ⟨e2, by rw [e1, e2]; exact hs⟩
theorem SeesSS.grow {w w' : World} {A : Option Addr} {n : Nat} {ss : List Sl} {rows : List (List Int)} (h : SeesSS w A n ss rows) (hb : Below w.heap.size w w') : SeesSS w' A n ss rows :=
  ⟨(h.1.grow hb).more hb.size, h.2.1, fun i s r h1 h2 => ⟨(h.2.2 i s r h1 h2).1, ((h.2.2 i s r h1 h2).2.grow hb).more hb.size⟩⟩
end Go.Proofs.Ytndmffmbkcagmaa
/- markIntSS, walked. Conditions: at most 1048576 rows and numbers in a row; the last mark below 2^40. -/
namespace Go.Proofs.Ytndmffmbkcagmaa
open Go.RowKit
/-- The mark at which row j begins. -/
def offS (k : Int) (rows : List (List Int)) (j : Nat) : Int := k + ((((rows.take j).map List.length).sum : Nat) : Int)
theorem offS_zero (k : Int) (rows : List (List Int)) : offS k rows 0 = k := by simp [offS]
theorem offS_succ {k : Int} {rows : List (List Int)} {j : Nat} {r : List Int} (h : rows[j]? = some r) : offS k rows (j + 1) = offS k rows j + (r.length : Int) := by
  unfold offS
  rw [List.take_add_one, h]
  simp
  omega
theorem offS_ge (k : Int) (rows : List (List Int)) (j : Nat) : k ≤ offS k rows j := by unfold offS; omega
theorem offS_le {k : Int} {rows : List (List Int)} : ∀ {d j : Nat}, j + d = rows.length → offS k rows j ≤ offS k rows rows.length := by
  intro d
  induction d with
  | zero => intro j h; rw [show j = rows.length by omega]; exact Int.le_refl _
  | succ d ih =>
    intro j h
    have h1 := ih (j := j + 1) (by omega)
    obtain ⟨r, hr⟩ : ∃ r, rows[j]? = some r := ⟨rows[j]'(by omega), List.getElem?_eq_getElem _⟩
    rw [offS_succ hr] at h1
    omega
/-- Row i behind j rows' marking. -/
def rowM (k : Int) (rows : List (List Int)) (j i : Nat) (r : List Int) : List Int := if i < j then marks (offS k rows i) r.length else r
/-- All rows, marked. -/
def marksSS (k : Int) (rows : List (List Int)) : List (List Int) := (List.range rows.length).map fun i => marks (offS k rows i) (rows.getD i []).length
theorem marksSS_get {k : Int} {rows : List (List Int)} {i : Nat} {r q : List Int} (h : rows[i]? = some r) (hq : (marksSS k rows)[i]? = some q) : q = marks (offS k rows i) r.length := by
  have hi := (List.getElem?_eq_some_iff.1 h).1
  unfold marksSS at hq
  rw [List.getElem?_map, List.getElem?_range hi] at hq
  simp [h] at hq
  exact hq.symm
end Go.Proofs.Ytndmffmbkcagmaa
/- How many risk groups there are, and how great. Conditions: none. -/
namespace Go.Proofs.Ytndmffmbkcagmaa
open Go.RowKit
theorem offS_bd {k : Int} {rows : List (List Int)} {L : Nat} (h : ∀ r ∈ rows, r.length ≤ L) : ∀ j, j ≤ rows.length → offS k rows j ≤ k + ((j * L : Nat) : Int) := by
  intro j
  induction j with
  | zero => intro _; rw [offS_zero]; omega
  | succ j ih =>
    intro hj
    obtain ⟨r, hr⟩ : ∃ r, rows[j]? = some r := ⟨rows[j]'(by omega), List.getElem?_eq_getElem _⟩
    have h1 := ih (by omega)
    have h2 := h r (List.mem_of_getElem? hr)
    rw [offS_succ hr, Nat.add_mul]
    omega
theorem groups_row {fs : List Fib} {r : List Int} (h : r ∈ groupsL fs) : r.length ≤ fs.length + 1 := by
  unfold groupsL rkTo zrTo at h
  rcases List.mem_append.1 h with h | h
  · have h1 := (List.mem_filter.1 h).1
    obtain ⟨t, _, rfl⟩ := List.mem_map.1 h1
    unfold rkRow
    exact Nat.le_trans (idsTo_len _ _) (Nat.le_succ _)
  · obtain ⟨x, _, rfl⟩ := List.mem_map.1 h
    simp
theorem groups_len (fs : List Fib) : (groupsL fs).length ≤ 9 + fs.length := by
  unfold groupsL
  rw [List.length_append]
  have := rkTo_len fs 9
  have := zrTo_len fs fs.length
  omega
theorem rgL_small (xs : List ByteArray) (fs : List Fib) : (rgL xs fs).length ≤ 23 ∧ ∀ r ∈ rgL xs fs, r.length ≤ 15 := by
  unfold rgL
  cases g : goodB xs fs
  · exact ⟨by simp, fun r h => by simp at h⟩
  · have hb := goodB_bd g
    have := groups_len fs
    exact ⟨by simp; omega, fun r h => by simp at h; have := groups_row h; omega⟩
theorem rgL_off (xs : List ByteArray) (fs : List Fib) : offS 1 (rgL xs fs) (rgL xs fs).length ≤ 1000 := by
  obtain ⟨h1, h2⟩ := rgL_small xs fs
  have := offS_bd (k := 1) h2 (rgL xs fs).length (Nat.le_refl _)
  have h3 : (rgL xs fs).length * 15 ≤ 23 * 15 := Nat.mul_le_mul_right _ h1
  omega
end Go.Proofs.Ytndmffmbkcagmaa
/- slices.IndexFunc and ContainsFunc over numbers, walked, at a closure that answers p. Conditions: none. -/
namespace Go.Proofs.Ytndmffmbkcagmaa
open Go.RowKit
/-- None of the first k passes p. -/
def noneP {α : Type} (p : α → Bool) (l : List α) (k : Nat) : Prop := ∀ j x, j < k → l[j]? = some x → p x = false
theorem noneP_zero {α : Type} (p : α → Bool) (l : List α) : noneP p l 0 := fun j _ hj => by omega
theorem noneP_succ {α : Type} {p : α → Bool} {l : List α} {k : Nat} {x : α} (h : noneP p l k) (hx : l[k]? = some x) (hp : p x = false) : noneP p l (k + 1) := by
  intro j y hj hy
  rcases Nat.lt_succ_iff_lt_or_eq.1 hj with hlt | rfl
  · exact h j y hlt hy
  · rw [hx] at hy; injection hy with hy; subst hy; exact hp
/-- The index of the first element that passes p, or -1. -/
def findPF {α : Type} (p : α → Bool) : List α → Nat → Int
  | [], _ => -1
  | y :: l, k => if p y then (k : Int) else findPF p l (k + 1)
def findP {α : Type} (p : α → Bool) (l : List α) : Int := findPF p l 0
theorem findPF_at {α : Type} {p : α → Bool} : ∀ {l : List α} {k0 k : Nat} {x : α}, l[k]? = some x → p x = true → noneP p l k → findPF p l k0 = ((k0 + k : Nat) : Int) := by
  intro l
  induction l with
  | nil => intro k0 k x h; simp at h
  | cons y l ih =>
    intro k0 k x h hp hn
    unfold findPF
    cases k with
    | zero => simp at h; rw [h, if_pos hp]; rfl
    | succ k =>
      rw [if_neg (by rw [hn 0 y (Nat.succ_pos _) (by simp)]; decide)]
      rw [ih (k := k) (by simpa using h) hp (fun j z hj hz => hn (j + 1) z (by omega) (by simpa using hz))]
      congr 1; omega
theorem findP_at {α : Type} {p : α → Bool} {l : List α} {k : Nat} {x : α} (h : noneP p l k) (hx : l[k]? = some x) (hp : p x = true) : findP p l = k := by
  have := findPF_at (k0 := 0) hx hp h
  simpa [findP] using this
theorem findPF_neg {α : Type} {p : α → Bool} : ∀ {l : List α} {k0 : Nat}, (0 ≤ findPF p l k0 ↔ l.any p = true) ∧ -1 ≤ findPF p l k0 := by
  intro l
  induction l with
  | nil => intro k0; simp [findPF]
  | cons y l ih =>
    intro k0
    unfold findPF
    by_cases h : p y = true
    · rw [if_pos h]; simp [h]
    · rw [if_neg h]; simp only [List.any_cons]; rw [show p y = false by simpa using h]; simpa using ih
theorem findP_ge {α : Type} {p : α → Bool} {l : List α} : 0 ≤ findP p l ↔ l.any p = true := findPF_neg.1
theorem findP_none {α : Type} {p : α → Bool} {l : List α} {n : Nat} (hl : l.length = n) (h : noneP p l n) : findP p l = -1 := by
  have h1 := findPF_neg (p := p) (l := l) (k0 := 0)
  have h2 : ¬ (l.any p = true) := by
    intro ha
    obtain ⟨x, hx, hp⟩ := List.any_eq_true.1 ha
    obtain ⟨i, hi, e⟩ := List.mem_iff_getElem.1 hx
    have := h i x (by omega) (by rw [List.getElem?_eq_getElem hi, e])
    rw [this] at hp; cases hp
  unfold findP
  have := h1.2
  have h3 : ¬ (0 ≤ findPF p l 0) := fun h => h2 (h1.1.1 h)
  omega
section
variable {B n c : Nat} {A : Option Addr} {xs : List Int} {F : FuncId} {cap : Array Value}
end
end Go.Proofs.Ytndmffmbkcagmaa
/- The group that contains a fiber, in plain Lean. Conditions: the network is valid. -/
namespace Go.Proofs.Ytndmffmbkcagmaa
theorem mem_idsTo {p : Nat → Bool} {k : Nat} {x : Int} : x ∈ idsTo p k ↔ ∃ j : Nat, j < k ∧ p j = true ∧ x = (j : Int) := by
  unfold idsTo
  rw [List.mem_map]
  constructor
  · rintro ⟨j, hj, rfl⟩
    rw [List.mem_filter] at hj
    exact ⟨j, by simpa using hj.1, hj.2, rfl⟩
  · rintro ⟨j, hj, hp, rfl⟩
    exact ⟨j, List.mem_filter.2 ⟨by simpa using hj, hp⟩, rfl⟩
theorem idsTo_mem {p : Nat → Bool} {k j : Nat} : (j : Int) ∈ idsTo p k ↔ j < k ∧ p j = true := by
  rw [mem_idsTo]
  constructor
  · rintro ⟨i, hi, hp, e⟩
    have : j = i := by omega
    subst this; exact ⟨hi, hp⟩
  · rintro ⟨h1, h2⟩; exact ⟨j, h1, h2, rfl⟩
/-- Where there is one that passes, and all that pass are R, the first one that passes is R. -/
theorem findP_only {α : Type} {p : α → Bool} {l : List α} {R : α} (h1 : R ∈ l) (hp : p R = true) (h2 : ∀ r ∈ l, p r = true → r = R) : ∃ k : Nat, findP p l = k ∧ l[k]? = some R := by
  suffices h : ∀ (l : List α) (k0 : Nat), R ∈ l → (∀ r ∈ l, p r = true → r = R) → ∃ k : Nat, findPF p l k0 = ((k0 + k : Nat) : Int) ∧ l[k]? = some R by
    obtain ⟨k, h3, h4⟩ := h l 0 h1 h2
    exact ⟨k, by unfold findP; rw [h3]; simp, h4⟩
  intro l
  induction l with
  | nil => intro k0 h; cases h
  | cons y l ih =>
    intro k0 h1 h2
    unfold findPF
    by_cases hy : p y = true
    · rw [if_pos hy]
      exact ⟨0, by simp, by simp [h2 y (by simp) hy]⟩
    · rw [if_neg hy]
      have hne : y ≠ R := fun e => hy (e ▸ hp)
      rcases List.mem_cons.1 h1 with e | h3
      · exact absurd e.symm hne
      obtain ⟨k, h4, h5⟩ := ih (k0 + 1) h3 (fun r hr => h2 r (by simp [hr]))
      exact ⟨k + 1, by rw [h4]; congr 1; omega, by simpa using h5⟩
theorem rkTo_mem {fs : List Fib} {t : Nat} {r : List Int} : r ∈ rkTo fs t ↔ (∃ j, j < t ∧ r = rkRow fs j) ∧ r ≠ [] := by
  unfold rkTo
  rw [List.mem_filter, List.mem_map]
  constructor
  · rintro ⟨⟨j, hj, rfl⟩, h⟩
    exact ⟨⟨j, by simpa using hj, rfl⟩, by cases hh : rkRow fs j <;> simp_all⟩
  · rintro ⟨⟨j, hj, rfl⟩, h⟩
    exact ⟨⟨j, by simpa using hj, rfl⟩, by cases hh : rkRow fs j <;> simp_all⟩
theorem zrTo_mem {fs : List Fib} {k : Nat} {r : List Int} : r ∈ zrTo fs k ↔ ∃ j : Nat, j < k ∧ riskF fs j = 0 ∧ r = [(j : Int)] := by
  unfold zrTo
  rw [List.mem_map]
  constructor
  · rintro ⟨x, hx, rfl⟩
    obtain ⟨j, h1, h2, rfl⟩ := mem_idsTo.1 hx
    exact ⟨j, h1, by simpa using h2, rfl⟩
  · rintro ⟨j, h1, h2, rfl⟩
    exact ⟨j, mem_idsTo.2 ⟨j, h1, by simpa using h2, rfl⟩, rfl⟩
section
variable {xs : List ByteArray} {fs : List Fib}
theorem riskF_bd (hg : goodB xs fs = true) {j : Nat} (hj : j < fs.length) : 0 ≤ riskF fs j ∧ riskF fs j ≤ 9 := by
  have h := goodB_fibB hg (List.getElem_mem hj)
  rw [riskF_of (List.getElem?_eq_getElem hj)]
  unfold fibB at h; simp at h; omega
theorem groupL_self {i : Nat} (hi : i < fs.length) : (i : Int) ∈ groupL fs i := by
  unfold groupL
  by_cases h : (riskF fs i == 0) = true
  · rw [if_pos h]; simp
  · rw [if_neg h]; exact idsTo_mem.2 ⟨hi, by simp⟩
theorem groupL_mem {i j : Nat} (hi : i < fs.length) : (j : Int) ∈ groupL fs i ↔ j < fs.length ∧ (i = j ∨ (riskF fs i ≠ 0 ∧ riskF fs j = riskF fs i)) := by
  unfold groupL
  by_cases h : (riskF fs i == 0) = true
  · rw [if_pos h]
    have h0 : riskF fs i = 0 := by simpa using h
    simp
    constructor
    · intro e; have : j = i := by omega
      subst this; exact ⟨hi, .inl rfl⟩
    · rintro ⟨_, e | e⟩
      · omega
      · exact absurd h0 e.1
  · rw [if_neg h, idsTo_mem]
    have h0 : riskF fs i ≠ 0 := by simpa using h
    simp
    intro hj
    constructor
    · intro e; exact .inr ⟨h0, e⟩
    · rintro (rfl | e)
      · rfl
      · exact e.2
/-- The group of fiber i is a group. -/
theorem groupL_in (hg : goodB xs fs = true) {i : Nat} (hi : i < fs.length) : groupL fs i ∈ groupsL fs := by
  unfold groupsL
  rw [List.mem_append]
  by_cases h : (riskF fs i == 0) = true
  · exact .inr (zrTo_mem.2 ⟨i, hi, by simpa using h, by unfold groupL; rw [if_pos h]⟩)
  · have hb := riskF_bd hg hi
    have h0 : riskF fs i ≠ 0 := by simpa using h
    obtain ⟨t, ht⟩ : ∃ t : Nat, riskF fs i = (t : Int) + 1 := ⟨(riskF fs i - 1).toNat, by omega⟩
    have e : groupL fs i = rkRow fs t := groupL_row (by rw [ht]; simp)
    exact .inl (rkTo_mem.2 ⟨⟨t, by omega, e⟩, List.ne_nil_of_mem (groupL_self hi)⟩)
/-- The group that contains fiber i is its group. -/
theorem groupL_only {i : Nat} {r : List Int} (hr : r ∈ groupsL fs) (h : (i : Int) ∈ r) : i < fs.length ∧ r = groupL fs i := by
  unfold groupsL at hr
  rcases List.mem_append.1 hr with hr | hr
  · obtain ⟨⟨t, ht, rfl⟩, _⟩ := rkTo_mem.1 hr
    have h' := h
    unfold rkRow at h'
    obtain ⟨h1, h2⟩ := idsTo_mem.1 h'
    exact ⟨h1, (groupL_row h2).symm⟩
  · obtain ⟨j, hj, h0, rfl⟩ := zrTo_mem.1 hr
    have : i = j := by simp at h; omega
    subst this
    exact ⟨hj, by unfold groupL; rw [if_pos (by simpa using h0)]⟩
/-- The index of the group of a fiber. -/
def grpI (fs : List Fib) (i : Int) : Int := findP (fun r => hasB r i) (groupsL fs)
theorem grp_at (hg : goodB xs fs = true) {i : Nat} (hi : i < fs.length) : ∃ k : Nat, grpI fs i = k ∧ (groupsL fs)[k]? = some (groupL fs i) :=
  findP_only (groupL_in hg hi) (hasB_iff.2 (groupL_self hi)) (fun _ hr hp => (groupL_only hr (hasB_iff.1 hp)).2)
end
end Go.Proofs.Ytndmffmbkcagmaa
/- What two lists have in common, in ascending order, in plain Lean. Conditions: none. -/
namespace Go.Proofs.Ytndmffmbkcagmaa
/-- Strictly ascending. -/
def ascL (l : List Int) : Prop := l.Pairwise (· < ·)
/-- Strictly ascending lists with the same members are one. -/
theorem asc_ext : ∀ {a b : List Int}, ascL a → ascL b → (∀ x, x ∈ a ↔ x ∈ b) → a = b := by
  intro a
  induction a with
  | nil =>
    intro b _ _ h
    cases b with
    | nil => rfl
    | cons y b => exact absurd ((h y).2 (by simp)) (by simp)
  | cons x a ih =>
    intro b ha hb h
    cases b with
    | nil => exact absurd ((h x).1 (by simp)) (by simp)
    | cons y b =>
      unfold ascL at ha hb
      rw [List.pairwise_cons] at ha hb
      have hxy : x = y := by
        have h1 : x ∈ y :: b := (h x).1 (by simp)
        have h2 : y ∈ x :: a := (h y).2 (by simp)
        rcases List.mem_cons.1 h1 with e | h1
        · exact e
        · rcases List.mem_cons.1 h2 with e | h2
          · exact e.symm
          · have := hb.1 x h1
            have := ha.1 y h2
            omega
      subst hxy
      congr 1
      refine ih ha.2 hb.2 (fun z => ?_)
      constructor
      · intro hz
        have h1 := (h z).1 (by simp [hz])
        rcases List.mem_cons.1 h1 with e | h1
        · have := ha.1 z hz; omega
        · exact h1
      · intro hz
        have h1 := (h z).2 (by simp [hz])
        rcases List.mem_cons.1 h1 with e | h1
        · have := hb.1 z hz; omega
        · exact h1
/-- A number put to its place, once. -/
def putL : List Int → Int → List Int
  | [], n => [n]
  | x :: l, n => if x < n then x :: putL l n else if x = n then x :: l else n :: x :: l
theorem putL_mem : ∀ {l : List Int} {n x : Int}, x ∈ putL l n ↔ x ∈ l ∨ x = n := by
  intro l
  induction l with
  | nil => intro n x; simp [putL]
  | cons y l ih =>
    intro n x
    unfold putL
    split
    · simp [ih, or_assoc]
    · split
      · rename_i e; subst e
        simp
        intro h; exact .inl h
      · simp
        constructor
        · rintro (h | h | h)
          · exact .inr h
          · exact .inl (.inl h)
          · exact .inl (.inr h)
        · rintro ((h | h) | h)
          · exact .inr (.inl h)
          · exact .inr (.inr h)
          · exact .inl h
theorem putL_asc : ∀ {l : List Int} {n : Int}, ascL l → ascL (putL l n) := by
  intro l
  induction l with
  | nil => intro n _; simp [putL, ascL]
  | cons y l ih =>
    intro n h
    unfold ascL at h
    rw [List.pairwise_cons] at h
    unfold putL
    split
    · rename_i hlt
      unfold ascL
      rw [List.pairwise_cons]
      refine ⟨fun z hz => ?_, ih h.2⟩
      rcases putL_mem.1 hz with hz | rfl
      · exact h.1 z hz
      · exact hlt
    · rename_i hlt
      split
      · unfold ascL; rw [List.pairwise_cons]; exact h
      · rename_i hne
        unfold ascL
        rw [List.pairwise_cons, List.pairwise_cons]
        refine ⟨fun z hz => ?_, h⟩
        rcases List.mem_cons.1 hz with rfl | hz
        · omega
        · have := h.1 z hz; omega
theorem compact_asc {l : List Int} (h : l.Pairwise (· ≤ ·)) : ascL (Lib.compact l) ∧ ∀ x, x ∈ Lib.compact l ↔ x ∈ l := by
  have hle : ∀ i j, i ≤ j → j < l.length → l[i]! ≤ l[j]! := by
    intro i j hij hj
    rcases Nat.lt_or_ge i j with hlt | hge
    · have := List.pairwise_iff_getElem.1 h i j (by omega) hj hlt
      rw [getElem!_pos l i (by omega), getElem!_pos l j hj]; exact this
    · rw [show i = j by omega]; exact Int.le_refl _
  have e : ∀ j : Nat, l.toArray[j]! = l[j]! := by
    intro j
    by_cases hj : j < l.length
    · rw [getElem!_pos l j hj, getElem!_pos l.toArray j (by simpa using hj), List.getElem_toArray]
    · rw [getElem!_neg l j hj, getElem!_neg l.toArray j (by simpa using hj)]
  constructor
  · unfold ascL Lib.compact Lib.compactUpTo
    rw [List.pairwise_map]
    refine List.Pairwise.imp_of_mem (R := fun a b => a < b) ?_ (List.Pairwise.filter _ List.pairwise_lt_range)
    intro i j hi hj hij
    have hj1 := (List.mem_filter.1 hj).2
    have hj2 : j < l.length := by simpa using (List.mem_filter.1 hj).1
    rw [e, e]
    have h1 := hle i (j - 1) (by omega) (by omega)
    have h2 := hle (j - 1) j (by omega) hj2
    unfold Lib.keeps at hj1
    rw [e, e] at hj1
    have h3 : l[j]! ≠ l[j - 1]! := by
      intro hh
      rw [hh] at hj1
      simp at hj1
      omega
    omega
  · intro x
    unfold Lib.compact Lib.compactUpTo
    rw [List.mem_map]
    constructor
    · rintro ⟨j, hj, rfl⟩
      have hj2 : j < l.length := by simpa using (List.mem_filter.1 hj).1
      rw [e, getElem!_pos l j hj2]
      exact List.getElem_mem hj2
    · intro hx
      obtain ⟨k, hk, hkx⟩ := List.mem_iff_getElem.1 hx
      have hex : ∃ j, j < l.length ∧ l[j]! = x ∧ ∀ i, i < j → l[i]! ≠ x := by
        clear hle
        induction k using Nat.strongRecOn with
        | _ k ih =>
          rcases Classical.em (∃ i, i < k ∧ l[i]! = x) with ⟨i, hi, hix⟩ | hno
          · exact ih i hi (by omega) (by rw [getElem!_pos l i (by omega)] at hix; exact hix)
          · exact ⟨k, hk, by rw [getElem!_pos l k hk]; exact hkx, fun i hi h => hno ⟨i, hi, h⟩⟩
      obtain ⟨j, hj, hjx, hmin⟩ := hex
      refine ⟨j, List.mem_filter.2 ⟨by simpa using hj, ?_⟩, by rw [e]; exact hjx⟩
      unfold Lib.keeps
      rw [e, e, hjx]
      by_cases h0 : j = 0
      · simp [h0]
      · have := hmin (j - 1) (by omega)
        exact decide_eq_true (Or.inr (fun h => this h.symm))
/-- What two lists have in common. -/
def comL (a b : List Int) : List Int := Lib.compact ((a.filter fun x => hasB b x).mergeSort fun x y => decide (x ≤ y))
theorem comL_asc (a b : List Int) : ascL (comL a b) ∧ ∀ x, x ∈ comL a b ↔ x ∈ a ∧ x ∈ b := by
  have hs : ((a.filter fun x => hasB b x).mergeSort fun x y => decide (x ≤ y)).Pairwise (· ≤ ·) := by
    have := List.pairwise_mergeSort (le := fun x y : Int => decide (x ≤ y)) (fun a b c h1 h2 => by simp at *; omega) (fun a b => by simp; omega) (a.filter fun x => hasB b x)
    exact this.imp (fun h => by simpa using h)
  obtain ⟨h1, h2⟩ := compact_asc hs
  refine ⟨h1, fun x => ?_⟩
  unfold comL
  rw [h2, List.mem_mergeSort, List.mem_filter, hasB_iff]
end Go.Proofs.Ytndmffmbkcagmaa
