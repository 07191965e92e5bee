/- toNetwork, walked: a network in new memory. Conditions: at most 1048576 names and fibers. -/
import Derived.Test.YtdnmkcalpfkfhaaToS
import Derived.Test.YtdnmkcalpfkfhaaToF
namespace Go.Proofs.Ytdnmkcalpfkfhaa
open Go.RowKit
set_option maxHeartbeats 1000000 in
set_option maxRecDepth 100000 in
theorem toNetwork_any {B n c m d : Nat} {A A' : Option Addr} {xs : List ByteArray} {fs : List Fib} (w : World) (hA : Sees elStr w B A n xs) (hF : Sees elFib w B A' m fs) (hB : B ≤ w.heap.size) (hn : n ≤ 1048576) (hm : m ≤ 1048576) :
    Calls Try.prog 18 #[.agg #[.slice A n c, .slice A' m d]] w fun e w' => ∃ v v', e = .returned (.agg #[v, v']) ∧ Owns elStr w' w.heap.size 9 v xs ∧ Owns elFib w' w.heap.size 102 v' fs ∧ Below w.heap.size w w' := by
  go_enter Try.func18, Try.ntmps18
  go_wp2_with fail
  have hb0 : Below w.heap.size w (((w.alloc (.cells #[.slice A n c, .slice A' m d] 25)).alloc (.cells #[.slice none 0 0, .slice none 0 0] 35)).alloc (.cells #[.slice none 0 0, .slice none 0 0] 35)) := bl_alloc (bl_alloc (bl_alloc (Below.refl _ _) _) _) _
  have b1 : Blk (((w.alloc (.cells #[.slice A n c, .slice A' m d] 25)).alloc (.cells #[.slice none 0 0, .slice none 0 0] 35)).alloc (.cells #[.slice none 0 0, .slice none 0 0] 35)) w.heap.size 25 #[.slice A n c, .slice A' m d] := ((Blk.new _ _ _).alloc _).alloc _
  have b2 : Blk (((w.alloc (.cells #[.slice A n c, .slice A' m d] 25)).alloc (.cells #[.slice none 0 0, .slice none 0 0] 35)).alloc (.cells #[.slice none 0 0, .slice none 0 0] 35)) (w.heap.size + 1) 35 #[.slice none 0 0, .slice none 0 0] := by
    have := (Blk.new (w.alloc (.cells #[.slice A n c, .slice A' m d] 25)) 35 #[.slice none 0 0, .slice none 0 0]).alloc (.cells #[.slice none 0 0, .slice none 0 0] 35)
    simpa using this
  have b3 : Blk (((w.alloc (.cells #[.slice A n c, .slice A' m d] 25)).alloc (.cells #[.slice none 0 0, .slice none 0 0] 35)).alloc (.cells #[.slice none 0 0, .slice none 0 0] 35)) (w.heap.size + 1 + 1) 35 #[.slice none 0 0, .slice none 0 0] := by
    have := Blk.new ((w.alloc (.cells #[.slice A n c, .slice A' m d] 25)).alloc (.cells #[.slice none 0 0, .slice none 0 0] 35)) 35 #[.slice none 0 0, .slice none 0 0]
    simpa using this
  have hA0 := hA.below (hb0.mono hB)
  have hF0 := hF.below (hb0.mono hB)
  generalize ((w.alloc (.cells #[.slice A n c, .slice A' m d] 25)).alloc (.cells #[.slice none 0 0, .slice none 0 0] 35)).alloc (.cells #[.slice none 0 0, .slice none 0 0] 35) = w0 at *
  refine (toStringS_any (xs := xs) w0 hA0 hn).mono ?_
  rintro e w1 ⟨v, he, hown, hb1⟩
  obtain ⟨A1, c1, hv, _⟩ := hown.form
  rw [hA.len] at hv
  subst hv; subst he
  have b1' := bl_at hb1 b1.lt b1
  have b2' := bl_at hb1 b2.lt b2
  have b3' := bl_at hb1 b3.lt b3
  have hF1 := hF0.below (hb1.mono (Nat.le_trans hB hb0.size))
  have hbw1 := bl_then hb0 hb1
  have hown1 := hown.base hb0.size
  have q0 := b3'.cell 0
  have q1 := b1'.cell 1
  have z0 := b3'.frozen 0
  simp at q0 q1
  have b4 := b3'.set 0 (.slice A1 n c1)
  have b1s := b1'.far (p := ⟨w.heap.size + 1 + 1, 0, none⟩) (by show w.heap.size ≠ w.heap.size + 1 + 1; omega) (.slice A1 n c1)
  have b2s := b2'.far (p := ⟨w.heap.size + 1 + 1, 0, none⟩) (by show w.heap.size + 1 ≠ w.heap.size + 1 + 1; omega) (.slice A1 n c1)
  have hbs := bl_set hbw1 (p := ⟨w.heap.size + 1 + 1, 0, none⟩) (.slice A1 n c1) (by show w.heap.size ≤ w.heap.size + 1 + 1; omega)
  have hF2 : Sees elFib (w1.setCell ⟨w.heap.size + 1 + 1, 0, none⟩ (.slice A1 n c1)) B A' m fs := hF1.keep fun p hp => World.cell?_setCell_other w1 _ p _ (fun e => by subst e; simp only at hp; omega)
  have hos := hown.far (p := ⟨w.heap.size + 1 + 1, 0, none⟩) (b3.lt) (.slice A1 n c1)
  go_wp2_with fail
  have hw0 := hb0.size
  have l3 := b3.lt
  clear q0 q1 z0 b1' b2' b3' hF1 hown hown1 hb1 b1 b2 b3 hA0 hF0 hb0 hbw1
  generalize w1.setCell ⟨w.heap.size + 1 + 1, 0, none⟩ (.slice A1 n c1) = w3 at *
  refine (toFiberS_any (xs := fs) w3 hF2 hm).mono ?_
  rintro e w4 ⟨v', he, hown', hb4⟩
  obtain ⟨A2, c2, hv, _⟩ := hown'.form
  rw [hF.len] at hv
  subst hv; subst he
  have b2' := bl_at hb4 b2s.lt b2s
  have b3' := bl_at hb4 b4.lt b4
  have hb5 := bl_then hbs hb4
  have l4 := b4.lt
  have l5 := hbs.size
  have ho1 := (((((hos.below hb4).far (p := ⟨w.heap.size + 1 + 1, 1, none⟩) l3 (.slice A2 m c2)).far (p := ⟨w.heap.size + 1, 0, none⟩) (by show w.heap.size + 1 < _; omega) (.slice A1 n c1)).far (p := ⟨w.heap.size + 1, 1, none⟩) (by show w.heap.size + 1 < _; omega) (.slice A2 m c2))).base (base' := w.heap.size) hw0
  have ho2 := ((((hown'.far (p := ⟨w.heap.size + 1 + 1, 1, none⟩) l4 (.slice A2 m c2)).far (p := ⟨w.heap.size + 1, 0, none⟩) (by show w.heap.size + 1 < _; omega) (.slice A1 n c1)).far (p := ⟨w.heap.size + 1, 1, none⟩) (by show w.heap.size + 1 < _; omega) (.slice A2 m c2))).base (base' := w.heap.size) l5
  have hb6 := bl_set (bl_set (bl_set hb5 (p := ⟨w.heap.size + 1 + 1, 1, none⟩) (.slice A2 m c2) (by show w.heap.size ≤ w.heap.size + 1 + 1; omega)) (p := ⟨w.heap.size + 1, 0, none⟩) (.slice A1 n c1) (by show w.heap.size ≤ w.heap.size + 1; omega)) (p := ⟨w.heap.size + 1, 1, none⟩) (.slice A2 m c2) (by show w.heap.size ≤ w.heap.size + 1; omega)
  clear b2s b4 hos hown' hF2 hbs hb4 b1s
  have q0 := b3'.cell 0
  have q1 := b3'.cell 1
  have q2 := b2'.cell 0
  have q3 := b2'.cell 1
  have z1 := b3'.frozen 1
  have z2 := b2'.frozen 0
  have z3 := b2'.frozen 1
  simp at q0 q1 q2 q3
  go_wp2_with fail
  exact bodyPost_ret (v := .agg #[.slice A1 n c1, .slice A2 m c2]) (by simp [results, Try.results18, go_sem, q2, q3]) rfl ⟨_, _, rfl, ho1, ho2, hb6⟩
/-- A network of the call's own. -/
def NetOwn (w : World) (base : Nat) (A : Option Addr) (n c : Nat) (A' : Option Addr) (m d : Nat) (xs : List ByteArray) (fs : List Fib) : Prop :=
  n ≤ c ∧ c ≤ maxLen ∧ m ≤ d ∧ d ≤ maxLen ∧ xs.length = n ∧ fs.length = m ∧ Owns elStr w base 9 (.slice A n c) xs ∧ Owns elFib w base 102 (.slice A' m d) fs
section
variable {w w' : World} {base n c m d : Nat} {A A' : Option Addr} {xs : List ByteArray} {fs : List Fib}
theorem NetOwn.below (h : NetOwn w base A n c A' m d xs fs) (hb : Below w.heap.size w w') : NetOwn w' base A n c A' m d xs fs :=
  let ⟨a, b, c, d, e, f, g, i⟩ := h; ⟨a, b, c, d, e, f, g.below hb, i.below hb⟩
theorem NetOwn.from_ {base' : Nat} (h : NetOwn w base A n c A' m d xs fs) (hb : base' ≤ base) : NetOwn w base' A n c A' m d xs fs :=
  let ⟨a, b, c, d, e, f, g, i⟩ := h; ⟨a, b, c, d, e, f, g.base hb, i.base hb⟩
theorem NetOwn.strs (h : NetOwn w base A n c A' m d xs fs) : Sees elStr w w.heap.size A n xs := by
  obtain ⟨_, _, _, _, e, _, g, _⟩ := h
  obtain ⟨A1, c1, hv, _, _, hs⟩ := g.form
  injection hv with h1 h2 h3; subst h1; rw [e] at hs; exact hs
theorem NetOwn.fibs (h : NetOwn w base A n c A' m d xs fs) : Sees elFib w w.heap.size A' m fs := by
  obtain ⟨_, _, _, _, _, f, _, i⟩ := h
  obtain ⟨A1, c1, hv, _, _, hs⟩ := i.form
  injection hv with h1 h2 h3; subst h1; rw [f] at hs; exact hs
end
theorem toNetwork_own {B n c m d : Nat} {A A' : Option Addr} {xs : List ByteArray} {fs : List Fib} (w : World) (hA : Sees elStr w B A n xs) (hF : Sees elFib w B A' m fs) (hB : B ≤ w.heap.size) (hn : n ≤ 1048576) (hm : m ≤ 1048576) :
    Calls Try.prog 18 #[.agg #[.slice A n c, .slice A' m d]] w fun e w' => ∃ A1 c1 A2 c2, e = .returned (.agg #[.slice A1 n c1, .slice A2 m c2]) ∧ NetOwn w' w.heap.size A1 n c1 A2 m c2 xs fs ∧ Below w.heap.size w w' := by
  refine (toNetwork_any w hA hF hB hn hm).mono ?_
  rintro e w' ⟨v, v', he, h1, h2, hb⟩
  obtain ⟨A1, c1, hv, a1, a2, _⟩ := h1.form
  obtain ⟨A2, c2, hv', b1, b2, _⟩ := h2.form
  rw [hA.len] at hv a1
  rw [hF.len] at hv' b1
  subst hv hv'
  exact ⟨A1, c1, A2, c2, he, ⟨a1, a2, b1, b2, hA.len, hF.len, h1, h2⟩, hb⟩
end Go.Proofs.Ytdnmkcalpfkfhaa
