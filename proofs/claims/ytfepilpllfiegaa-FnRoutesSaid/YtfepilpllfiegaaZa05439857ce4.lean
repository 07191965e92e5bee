/- Lemmas and walks that the claim rests on, laid together. Conditions: none. -/
import Derived.Test.YtfepilpllfiegaaZ74d0bcba35d5
import Derived.Deep.LoopGhost
/- What the laws draw: networks, one thing of them spoilt. Conditions: at most 1048576 bytes to draw from. By drawa.py. -/
namespace Go.Proofs.Ytfepilpllfiegaa
open Go.RowKit
theorem Led.swap {w0 w : World} {a b : Thing} {R : List Thing} (h : Led w0 w (a :: b :: R)) : Led w0 w (b :: a :: R) := by
  refine h.reix (fun i => if i = 0 then 1 else if i = 1 then 0 else i) (fun i j hij => ?_) (fun i t hi => ?_)
  · show (if i = 0 then 1 else if i = 1 then 0 else i) ≠ (if j = 0 then 1 else if j = 1 then 0 else j)
    split <;> split <;> (try split) <;> (try split) <;> omega
  · match i, hi with
    | 0, hi => exact hi
    | 1, hi => exact hi
    | i + 2, hi =>
      show (a :: b :: R)[if i + 2 = 0 then 1 else if i + 2 = 1 then 0 else i + 2]? = some t
      rw [if_neg (by omega), if_neg (by omega)]
      exact hi
/-- A fiber is stored. -/
theorem Owns.fib_set {w : World} {base g c n : Nat} {fs : List Fib} (h : Owns elFib w base 62 (.slice (some ⟨g, 0, none⟩) n c) fs) {j : Nat} (hj : j < fs.length) (f : Fib) :
    Owns elFib ((((w.setCell ⟨g, j * 4, none⟩ (.int .i64 f.a)).setCell ⟨g, j * 4 + 1, none⟩ (.int .i64 f.b)).setCell ⟨g, j * 4 + 2, none⟩ (.int .i64 f.len)).setCell ⟨g, j * 4 + 3, none⟩ (.int .i64 f.risk)) base 62 (.slice (some ⟨g, 0, none⟩) n c) (fs.set j f) := by
  rcases h.cases with ⟨h0, _⟩ | ⟨g1, c1, cur, hv, hbase, hb, hnc, hcm, hs, hf⟩
  · cases h0
  · injection hv with h1 h2 h3
    injection h1 with h1
    injection h1 with h1
    subst h1
    subst h3
    rw [h2]
    have hsz : cur.size = c * 4 := hs
    refine Owns.of_blk (hb.put4 j f) hbase (by simp) hnc (by rw [put4_size]; exact hs) hcm (fun k y hk hy i u hu => ?_)
    have hi : i < 4 := by have := (List.getElem?_eq_some_iff.1 hu).1; rw [elFib.len y] at this; exact this
    rw [List.getElem?_set] at hy
    show (put4 cur j f)[k * 4 + i]? = some u
    by_cases hjk : j = k
    · subst hjk
      rw [if_pos rfl, if_pos hj] at hy
      obtain rfl : f = y := Option.some.inj hy
      exact put4_new (by omega) i u hu
    · rw [if_neg hjk] at hy
      rw [put4_other (by omega)]
      exact hf k y hk hy i u hu
theorem Owns.free {α : Type} {E : El α} {w : World} {base g c n : Nat} {e : TypeId} {xs : List α} (h : Owns E w base e (.slice (some ⟨g, 0, none⟩) n c) xs) (j : Nat) : w.frozen? ⟨g, j, none⟩ = false := by
  rcases h.cases with ⟨h0, _⟩ | ⟨g1, c1, cur, hv, _, hb, _⟩
  · cases h0
  · injection hv with h1 h2 h3
    injection h1 with h1
    injection h1 with h1
    subst h1
    exact hb.frozen j
/-- A text is stored. -/
theorem Owns.str_set {w : World} {base g c n : Nat} {xs : List ByteArray} (h : Owns elStr w base 9 (.slice (some ⟨g, 0, none⟩) n c) xs) {j : Nat} (hj : j < xs.length) (x : ByteArray) :
    Owns elStr (w.setCell ⟨g, j, none⟩ (.string x)) base 9 (.slice (some ⟨g, 0, none⟩) n c) (xs.set j x) := by
  rcases h.cases with ⟨h0, _⟩ | ⟨g1, c1, cur, hv, hbase, hb, hnc, hcm, hs, hf⟩
  · cases h0
  · injection hv with h1 h2 h3
    injection h1 with h1
    injection h1 with h1
    subst h1
    subst h3
    rw [h2]
    have hsz : cur.size = c * 1 := hs
    refine Owns.of_blk (hb.set j _) hbase (by simp) hnc (by simp [hs]) hcm (fun k y hk hy i u hu => ?_)
    have hu' : [Value.string y][i]? = some u := hu
    match i, hu' with
    | 0, hu' =>
      simp at hu'; subst hu'
      show (cur.setIfInBounds j _)[k * 1 + 0]? = _
      rw [Nat.mul_one, Nat.add_zero]
      rw [List.getElem?_set] at hy
      by_cases hjk : j = k
      · subst hjk
        rw [if_pos rfl, if_pos hj] at hy
        injection hy with hy; subst hy
        rw [Array.getElem?_setIfInBounds_self_of_lt (by omega)]
      · rw [if_neg hjk] at hy
        rw [Array.getElem?_setIfInBounds_ne hjk]
        have := hf k y hk hy 0 _ rfl
        have e : k * elStr.sz + 0 = k := by show k * 1 + 0 = k; omega
        rw [e] at this
        exact this
    | i + 1, hu' => simp at hu'
section
variable {w0 w : World} {L R : List Thing} {A : Option Addr} {n c g K : Nat} {bs : List Int}
theorem Led.fib_set (h : Led w0 w L) (i : Nat) {base g c n : Nat} {fs : List Fib} (hi : L[i]? = some (tOwns elFib base 62 (.slice (some ⟨g, 0, none⟩) n c) fs)) {j : Nat} (hj : j < fs.length) (f : Fib) :
    Led w0 ((((w.setCell ⟨g, j * 4, none⟩ (.int .i64 f.a)).setCell ⟨g, j * 4 + 1, none⟩ (.int .i64 f.b)).setCell ⟨g, j * 4 + 2, none⟩ (.int .i64 f.len)).setCell ⟨g, j * 4 + 3, none⟩ (.int .i64 f.risk)) (L.set i (tOwns elFib base 62 (.slice (some ⟨g, 0, none⟩) n c) (fs.set j f))) := by
  have t1 := Touch.set (S := fun b => (Value.slice (some ⟨g, 0, none⟩) n c).ownBlock = some b) w (p := ⟨g, j * 4, none⟩) rfl (.int .i64 f.a)
  have t2 := t1.trans (Touch.set (S := fun b => (Value.slice (some ⟨g, 0, none⟩) n c).ownBlock = some b) _ (p := ⟨g, j * 4 + 1, none⟩) rfl (.int .i64 f.b))
  have t3 := t2.trans (Touch.set (S := fun b => (Value.slice (some ⟨g, 0, none⟩) n c).ownBlock = some b) _ (p := ⟨g, j * 4 + 2, none⟩) rfl (.int .i64 f.len))
  have t4 := t3.trans (Touch.set (S := fun b => (Value.slice (some ⟨g, 0, none⟩) n c).ownBlock = some b) _ (p := ⟨g, j * 4 + 3, none⟩) rfl (.int .i64 f.risk))
  exact h.touch i hi rfl t4 (Owns.fib_set (h.own i hi) hj f)
theorem Led.str_set (h : Led w0 w L) (i : Nat) {base g c n : Nat} {xs : List ByteArray} (hi : L[i]? = some (tOwns elStr base 9 (.slice (some ⟨g, 0, none⟩) n c) xs)) {j : Nat} (hj : j < xs.length) (x : ByteArray) :
    Led w0 (w.setCell ⟨g, j, none⟩ (.string x)) (L.set i (tOwns elStr base 9 (.slice (some ⟨g, 0, none⟩) n c) (xs.set j x))) :=
  h.touch i hi rfl (Touch.set (S := fun b => (Value.slice (some ⟨g, 0, none⟩) n c).ownBlock = some b) w (p := ⟨g, j, none⟩) rfl _) (Owns.str_set (h.own i hi) hj x)
/-- The cells of a fiber of a row. -/
theorem Led.fib_at (h : Led w0 w L) (i : Nat) {base g c n : Nat} {fs : List Fib} (hi : L[i]? = some (tOwns elFib base 62 (.slice (some ⟨g, 0, none⟩) n c) fs)) (hn : n = fs.length) {j : Nat} {f : Fib} (hj : fs[j]? = some f) :
    (w.cell? ⟨g, j * 4, none⟩ = some (.int .i64 f.a) ∧ w.cell? ⟨g, j * 4 + 1, none⟩ = some (.int .i64 f.b)) ∧ w.cell? ⟨g, j * 4 + 2, none⟩ = some (.int .i64 f.len) ∧ w.cell? ⟨g, j * 4 + 3, none⟩ = some (.int .i64 f.risk) := by
  have hs := h.sees i hi hn
  have f0 := hs.cell hj (j := 0) rfl
  have f1 := hs.cell hj (j := 1) rfl
  have f2 := hs.cell hj (j := 2) rfl
  have f3 := hs.cell hj (j := 3) rfl
  simp only [elFib, Nat.zero_add, Nat.add_zero] at f0 f1 f2 f3
  exact ⟨⟨f0, f1⟩, f2, f3⟩
theorem short_set {xs : List ByteArray} {x : ByteArray} {j : Nat} (h : ∀ x ∈ xs, x.size ≤ 9) (hx : x.size ≤ 9) : ∀ y ∈ xs.set j x, y.size ≤ 9 := fun y hy => by
  rcases List.mem_or_eq_of_mem_set hy with hy | rfl
  · exact h y hy
  · exact hx
theorem short_app {xs : List ByteArray} (h : ∀ x ∈ xs, x.size ≤ 9) : ∀ y ∈ xs ++ ([⟨#[112]⟩, ⟨#[113]⟩, ⟨#[114]⟩, ⟨#[115]⟩] : List ByteArray), y.size ≤ 9 := fun y hy => by
  rcases List.mem_append.1 hy with hy | hy
  · exact h y hy
  · have : ∀ y ∈ ([⟨#[112]⟩, ⟨#[113]⟩, ⟨#[114]⟩, ⟨#[115]⟩] : List ByteArray), y.size ≤ 9 := by decide
    exact this y hy
def spL : List ByteArray := [⟨#[98]⟩, ⟨#[]⟩, ⟨#[65]⟩, ⟨#[97, 98, 99, 100, 101, 102, 103, 104]⟩, ⟨#[97, 98, 99, 100, 101, 102, 103, 104, 105]⟩, ⟨#[120, 49]⟩]
theorem sp_short : ∀ x ∈ spL, x.size ≤ 9 := by decide
set_option maxHeartbeats 1000000 in
set_option maxRecDepth 100000 in
theorem anyNetwork_led (h : Led w0 w (tCur A n c g K :: R)) (hb : Sees elU w0 w0.heap.size A n bs) (hbs : ∀ x ∈ bs, 0 ≤ x ∧ x ≤ 255) (hn : n ≤ 1048576) (hK : K + 3000 ≤ 1099511627776) :
    Calls Try.prog 53 #[.pointer (some ⟨g, 0, none⟩)] w (drewN w0 10 15 (tCur A n c g (K + 3000) :: R)) := by
  have H0 := hid (h.blk_ w.heap.size rfl 27 #[.slice none 0 0, .slice none 0 0]).swap
  have HB := hid hb
  have HBS := hid hbs
  obtain ⟨j0, hj, hz0, hz1, hz2⟩ := info_parts fib_info
  obtain ⟨k0, hk, hs0, hs1, hs2⟩ := info_parts str_info
  clear h hb hbs
  go_enter Try.func53, Try.ntmps53
  go_wp2_with fail
  refine (network_led H0.out HB.out HBS.out hn (by omega)).mono ?_
  rintro e w1 ⟨B, p, cb, E, m, d, xs, fs, rfl, hp, hm, hxl, hfl, HX, h1⟩
  replace HX := hid HX
  have H1 := hid (h1.blk_ w1.heap.size rfl 27 #[.slice B p cb, .slice E m d])
  have q0 := H1.out.cell 0 0 rfl rfl
  have q1 := H1.out.cell 0 1 rfl rfl
  have HXL := hid hxl
  have HFL := hid hfl
  clear h1 H0 hxl hfl
  by_cases hm0 : m = 0
  · have im : ((m : Int) == 0) = true := by rw [hm0]; rfl
    have y0 := H1.out.cell 4 0 rfl rfl
    have y1 := H1.out.cell 4 1 rfl rfl
    have z0 := H1.out.frozen 4 0 rfl
    have z1 := H1.out.frozen 4 1 rfl
    have HE := hid ((Led.del3 (((H1.out.set 4 rfl 0 (.slice B p cb)).set 4 rfl 1 (.slice E m d)).drop 1)).curUp (K' := K + 3000) 2 rfl (by omega))
    clear H1 hm0
    go_wp2_with fail
    exact bodyPost_ret (v := .agg #[.slice B p cb, .slice E m d]) (by simp [results, Try.results53, go_sem, y0, y1]) rfl
      (drewN.mk (by omega) (by omega) HXL.out HFL.out HX.out HE.out)
  · have im : ((m : Int) == 0) = false := by simp; exact hm0
    go_wp2_with fail
    refine (pick_led H1.out 3 rfl HB.out HBS.out hn (by omega) (m : Int) (by omega) (by omega)).mono ?_
    rintro e w2 ⟨iv, rfl, hi0, hi1, h2⟩
    have hi2 := hi1 (by omega)
    obtain ⟨ii, rfl⟩ : ∃ ii : Nat, iv = (ii : Int) := ⟨iv.toNat, by omega⟩
    obtain ⟨gE, cE, hv⟩ := h2.row_ 1 rfl HFL.out (by omega)
    injection hv with hv1 _ hv3
    subst hv1; subst hv3
    obtain ⟨f, hf⟩ := get_of (k := ii) HFL.out (by omega)
    obtain ⟨⟨f0, f1⟩, f2, f3⟩ := h2.fib_at 1 rfl HFL.out.symm hf
    have q0 := h2.cell 0 0 rfl rfl
    have q1 := h2.cell 0 1 rfl rfl
    have H2 := hid (h2.blk_ w2.heap.size rfl 62 #[.int .i64 f.a, .int .i64 f.b, .int .i64 f.len, .int .i64 f.risk])
    have il : (ii : Int) < (m : Int) := by omega
    have iln : ii < m := by omega
    clear h2 H1 hi1 hf im
    go_wp2_with fail
    refine (pick_led H2.out 4 rfl HB.out HBS.out hn (by omega) 24 (by decide) (by decide)).mono ?_
    rintro e w3 ⟨x, rfl, hx0, hx1, h3⟩
    have H3 := hid h3
    clear h3 H2 hx1 q0 q1 f0 f1 f2 f3
    by_cases c0 : x = 0
    · subst c0
      have q0 := H3.out.cell 1 0 rfl rfl
      have q1 := H3.out.cell 1 1 rfl rfl
      clear hx0
      obtain ⟨gB, cB, hv⟩ := H3.out.row_ 3 rfl HXL.out (by omega)
      injection hv with hv1 _ hv3
      subst hv1; subst hv3
      have ip : (0 : Int) < (p : Int) := by omega
      have hp0 : 0 < p := by omega
      go_wp2_with fail
      refine wp_region_heldX 6 (fun w' => w'.cell? ⟨w1.heap.size, 0, none⟩ = some (.slice (some ⟨gB, 0, none⟩) p cb)) (by kernel_rfl) (H3.out.cell 1 0 rfl rfl) (fun hHeld => ?_)
      refine wpAnyX_take (i := 0) (oi := _) (v := ?_) rfl (by kernel_rfl) (by kernel_rfl) (by kernel_rfl) (by kernel_rfl) (fun _ _ _ h => h) (Or.inl ⟨by rfl, ?_⟩) (by assumption) ?_
      rotate_left
      · intro w hSw; go_simp; with_reducible rfl
      simp only [Act.put, List.getElem_toArray, List.getElem_cons_zero, List.setIfInBounds_toArray, List.set_cons_zero, List.set_cons_succ]
      refine wpAnyX_take (i := 1) (oi := _) (v := ?_) rfl (by kernel_rfl) (by kernel_rfl) (by kernel_rfl) (by kernel_rfl) (fun _ _ _ h => h) (Or.inl ⟨by rfl, ?_⟩) (by assumption) ?_
      rotate_left
      · intro w hSw; go_simp; with_reducible rfl
      simp only [Act.put, List.getElem_toArray, List.getElem_cons_zero, List.getElem_cons_succ, List.setIfInBounds_toArray, List.set_cons_zero, List.set_cons_succ]
      refine wpAnyX_take (i := 2) (oi := _) (v := ?_) rfl (by kernel_rfl) (by kernel_rfl) (by kernel_rfl) (by kernel_rfl) (fun _ _ _ h => h) (Or.inl ⟨by rfl, ?_⟩) (by assumption) ?_
      rotate_left
      · intro w hSw; go_simp; with_reducible rfl
      simp only [Act.put, List.getElem_toArray, List.getElem_cons_zero, List.getElem_cons_succ, List.setIfInBounds_toArray, List.set_cons_zero, List.set_cons_succ]
      refine wpAnyX_ready (rs := [3]) (by kernel_rfl) (by simp) ?_
      refine AllReadyX.cons rfl (fun K hK => ?_) AllReadyX.nil
      have h4 := (H3.out.blk_ w3.heap.size rfl 9 (spL.map Value.string).toArray).step (Cls.drew _)
      go_simp
      go_wp2_with fail
      refine hK.out _ _ (h4.cell 2 0 rfl rfl) (fun hHeld => ?_)
      clear hK K
      try simp only [Act.put, List.getElem_toArray, List.getElem_cons_zero, List.getElem_cons_succ, List.setIfInBounds_toArray, List.set_cons_zero, List.set_cons_succ]
      refine wpAnyX_ready (rs := [4]) (by kernel_rfl) (by simp) ?_
      refine AllReadyX.cons rfl (fun K hK => ?_) AllReadyX.nil
      go_simp
      refine (of_led (xs := spL) (cc := 6) h4 5 rfl HB.out HBS.out hn (by omega) (fun w' hl => sees_strs spL (hl.get 0 rfl)) (by decide) (by decide)).mono ?_
      rintro e w5 ⟨sx, hsx, rfl, h5⟩
      have hss := sp_short sx hsx
      clear hsx h4
      go_wp2_with fail
      refine hK.out _ _ (h5.cell 2 0 rfl rfl) (fun hHeld => ?_)
      clear hK K
      try simp only [Act.put, List.getElem_toArray, List.getElem_cons_zero, List.getElem_cons_succ, List.setIfInBounds_toArray, List.set_cons_zero, List.set_cons_succ]
      refine wpAnyX_take (i := 5) (oi := _) (v := ?_) rfl (by kernel_rfl) (by kernel_rfl) (by kernel_rfl) (by kernel_rfl) (fun _ _ _ h => h) (Or.inl ⟨by rfl, ?_⟩) (by assumption) ?_
      rotate_left
      · intro w hSw; go_simp; with_reducible rfl
      simp only [Act.put, List.getElem_toArray, List.getElem_cons_zero, List.getElem_cons_succ, List.setIfInBounds_toArray, List.set_cons_zero, List.set_cons_succ]
      have c0 := (h5.sees (E := elStr) 4 rfl HXL.out.symm).cell (List.getElem?_eq_getElem (show 0 < xs.length by rw [HXL.out]; exact hp0)) (j := 0) rfl
      simp only [elStr, Nat.zero_mul, Nat.add_zero] at c0
      have z0 := Owns.free (h5.own 4 rfl) 0
      have h6 := hid ((h5.str_set 4 rfl (j := 0) (by rw [HXL.out]; exact hp0) sx).drop 1)
      refine wpAnyX_ready (rs := [6]) (by kernel_rfl) (by simp) ?_
      refine AllReadyX.last rfl (fun K hK => ?_)
      go_simp
      go_wp2_with fail
      refine hK.out _ _ ?_
      clear hK K
      try simp only [Act.put, List.getElem_toArray, List.getElem_cons_zero, List.getElem_cons_succ, List.setIfInBounds_toArray, List.set_cons_zero, List.set_cons_succ]
      refine wpAnyX_done (by kernel_rfl) ?_ _
      clear c0 z0 h5 hHeld q0 q1
      generalize w5.setCell ⟨gB, 0, none⟩ (.string sx) = WZ at *
      have HT := hid (h6.out)
      have q1 := HT.out.cell 1 1 rfl rfl
      have e0 := HT.out.cell 0 0 rfl rfl
      have e1 := HT.out.cell 0 1 rfl rfl
      have e2 := HT.out.cell 0 2 rfl rfl
      have e3 := HT.out.cell 0 3 rfl rfl
      obtain ⟨fo, hfo⟩ := get_of (k := ii) (l := fs) (n := m) (HFL.out) (by omega)
      obtain ⟨⟨s0, s1⟩, s2, s3⟩ := HT.out.fib_at 2 rfl (HFL.out).symm hfo
      have hlt := (List.getElem?_eq_some_iff.1 hfo).1
      have v0 := Owns.free (HT.out.own 2 rfl) (ii * 4)
      have v1 := Owns.free (HT.out.own 2 rfl) (ii * 4 + 1)
      have v2 := Owns.free (HT.out.own 2 rfl) (ii * 4 + 2)
      have v3 := Owns.free (HT.out.own 2 rfl) (ii * 4 + 3)
      have HE1 := hid (HT.out.fib_set 2 rfl hlt ⟨f.a, f.b, f.len, f.risk⟩)
      have k0 := HE1.out.cell 1 0 rfl rfl
      have k1 := HE1.out.cell 1 1 rfl rfl
      have y0 := HE1.out.cell 5 0 rfl rfl
      have y1 := HE1.out.cell 5 1 rfl rfl
      have t0 := HE1.out.frozen 5 0 rfl
      have t1 := HE1.out.frozen 5 1 rfl
      have im : (ii : Int) < (m : Int) := by omega
      have HE2 := hid ((Led.del3 (((HE1.out.set 5 rfl 0 (.slice (some ⟨gB, 0, none⟩) p cb)).set 5 rfl 1 (.slice (some ⟨gE, 0, none⟩) (m) d)).drop 2)).curUp (K' := K + 3000) 2 rfl (by omega))
      clear HE1 HT hfo
      go_wp2_with fail
      exact bodyPost_ret (v := .agg #[.slice (some ⟨gB, 0, none⟩) p cb, .slice (some ⟨gE, 0, none⟩) (m) d]) (by simp [results, Try.results53, go_sem, y0, y1]) rfl
        (drewN.mk (by omega) (by omega) (by rw [List.length_set]; exact HXL.out) (by rw [List.length_set]; exact HFL.out) (short_set HX.out hss) HE2.out)
    · have n0 : (x == 0) = false := by simp; exact c0
      by_cases c1 : x = 1
      · subst c1
        have q0 := H3.out.cell 1 0 rfl rfl
        have q1 := H3.out.cell 1 1 rfl rfl
        clear hx0
        go_wp2_with fail
        refine (pick_led H3.out 4 rfl HB.out HBS.out hn (by omega) 8 (by decide) (by decide)).mono ?_
        rintro e w4 ⟨pv, rfl, hp0, hp1, h4⟩
        have hp2 := hp1 (by decide)
        have H4 := hid h4
        clear hp1 h4 H3 q0 q1
        have iw : IntKind.i64.wrap (pv - 1) = pv - 1 := IntWalk.i64_in _ (by omega)
        have c0 := H4.out.cell 0 0 rfl rfl
        have z0 := H4.out.frozen 0 0 rfl
        have HT := hid (H4.out.set 0 rfl 0 (.int .i64 (pv - 1)))
        have q1 := HT.out.cell 1 1 rfl rfl
        have e0 := HT.out.cell 0 0 rfl rfl
        have e1 := HT.out.cell 0 1 rfl rfl
        have e2 := HT.out.cell 0 2 rfl rfl
        have e3 := HT.out.cell 0 3 rfl rfl
        obtain ⟨fo, hfo⟩ := get_of (k := ii) (l := fs) (n := m) (HFL.out) (by omega)
        obtain ⟨⟨s0, s1⟩, s2, s3⟩ := HT.out.fib_at 2 rfl (HFL.out).symm hfo
        have hlt := (List.getElem?_eq_some_iff.1 hfo).1
        have v0 := Owns.free (HT.out.own 2 rfl) (ii * 4)
        have v1 := Owns.free (HT.out.own 2 rfl) (ii * 4 + 1)
        have v2 := Owns.free (HT.out.own 2 rfl) (ii * 4 + 2)
        have v3 := Owns.free (HT.out.own 2 rfl) (ii * 4 + 3)
        have HE1 := hid (HT.out.fib_set 2 rfl hlt ⟨(pv - 1), f.b, f.len, f.risk⟩)
        have k0 := HE1.out.cell 1 0 rfl rfl
        have k1 := HE1.out.cell 1 1 rfl rfl
        have y0 := HE1.out.cell 5 0 rfl rfl
        have y1 := HE1.out.cell 5 1 rfl rfl
        have t0 := HE1.out.frozen 5 0 rfl
        have t1 := HE1.out.frozen 5 1 rfl
        have im : (ii : Int) < (m : Int) := by omega
        have HE2 := hid ((Led.del3 (((HE1.out.set 5 rfl 0 (.slice B p cb)).set 5 rfl 1 (.slice (some ⟨gE, 0, none⟩) (m) d)).drop 2)).curUp (K' := K + 3000) 2 rfl (by omega))
        clear HE1 HT hfo
        go_wp2_with fail
        exact bodyPost_ret (v := .agg #[.slice B p cb, .slice (some ⟨gE, 0, none⟩) (m) d]) (by simp [results, Try.results53, go_sem, y0, y1]) rfl
          (drewN.mk (by omega) (by omega) (HXL.out) (by rw [List.length_set]; exact HFL.out) (HX.out) HE2.out)
      · have n1 : (x == 1) = false := by simp; exact c1
        by_cases c2 : x = 2
        · subst c2
          have q0 := H3.out.cell 1 0 rfl rfl
          have q1 := H3.out.cell 1 1 rfl rfl
          clear hx0
          go_wp2_with fail
          refine (pick_led H3.out 4 rfl HB.out HBS.out hn (by omega) 10 (by decide) (by decide)).mono ?_
          rintro e w4 ⟨pv, rfl, hp0, hp1, h4⟩
          have hp2 := hp1 (by decide)
          have H4 := hid h4
          clear hp1 h4 H3 q0 q1
          have iw : IntKind.i64.wrap (pv - 1) = pv - 1 := IntWalk.i64_in _ (by omega)
          have c0 := H4.out.cell 0 1 rfl rfl
          have z0 := H4.out.frozen 0 1 rfl
          have HT := hid (H4.out.set 0 rfl 1 (.int .i64 (pv - 1)))
          have q1 := HT.out.cell 1 1 rfl rfl
          have e0 := HT.out.cell 0 0 rfl rfl
          have e1 := HT.out.cell 0 1 rfl rfl
          have e2 := HT.out.cell 0 2 rfl rfl
          have e3 := HT.out.cell 0 3 rfl rfl
          obtain ⟨fo, hfo⟩ := get_of (k := ii) (l := fs) (n := m) (HFL.out) (by omega)
          obtain ⟨⟨s0, s1⟩, s2, s3⟩ := HT.out.fib_at 2 rfl (HFL.out).symm hfo
          have hlt := (List.getElem?_eq_some_iff.1 hfo).1
          have v0 := Owns.free (HT.out.own 2 rfl) (ii * 4)
          have v1 := Owns.free (HT.out.own 2 rfl) (ii * 4 + 1)
          have v2 := Owns.free (HT.out.own 2 rfl) (ii * 4 + 2)
          have v3 := Owns.free (HT.out.own 2 rfl) (ii * 4 + 3)
          have HE1 := hid (HT.out.fib_set 2 rfl hlt ⟨f.a, (pv - 1), f.len, f.risk⟩)
          have k0 := HE1.out.cell 1 0 rfl rfl
          have k1 := HE1.out.cell 1 1 rfl rfl
          have y0 := HE1.out.cell 5 0 rfl rfl
          have y1 := HE1.out.cell 5 1 rfl rfl
          have t0 := HE1.out.frozen 5 0 rfl
          have t1 := HE1.out.frozen 5 1 rfl
          have im : (ii : Int) < (m : Int) := by omega
          have HE2 := hid ((Led.del3 (((HE1.out.set 5 rfl 0 (.slice B p cb)).set 5 rfl 1 (.slice (some ⟨gE, 0, none⟩) (m) d)).drop 2)).curUp (K' := K + 3000) 2 rfl (by omega))
          clear HE1 HT hfo
          go_wp2_with fail
          exact bodyPost_ret (v := .agg #[.slice B p cb, .slice (some ⟨gE, 0, none⟩) (m) d]) (by simp [results, Try.results53, go_sem, y0, y1]) rfl
            (drewN.mk (by omega) (by omega) (HXL.out) (by rw [List.length_set]; exact HFL.out) (HX.out) HE2.out)
        · have n2 : (x == 2) = false := by simp; exact c2
          by_cases c3 : x = 3
          · subst c3
            have q0 := H3.out.cell 1 0 rfl rfl
            have q1 := H3.out.cell 1 1 rfl rfl
            clear hx0
            have HP := hid (among_blk_led [0, 1, 5000, 5001] H3.out 4 rfl HB.out HBS.out hn (by omega) (by decide) (by decide) 4 _ rfl 3)
            go_wp2_with fail
            refine Calls.mono HP.out ?_
            rintro e w4 ⟨pv, -, rfl, h4⟩
            have H4 := hid h4
            clear h4 H3 q0 q1 HP
            have c0 := H4.out.cell 0 2 rfl rfl
            have z0 := H4.out.frozen 0 2 rfl
            have HT := hid (H4.out.set 0 rfl 2 (.int .i64 pv))
            have q1 := HT.out.cell 1 1 rfl rfl
            have e0 := HT.out.cell 0 0 rfl rfl
            have e1 := HT.out.cell 0 1 rfl rfl
            have e2 := HT.out.cell 0 2 rfl rfl
            have e3 := HT.out.cell 0 3 rfl rfl
            obtain ⟨fo, hfo⟩ := get_of (k := ii) (l := fs) (n := m) (HFL.out) (by omega)
            obtain ⟨⟨s0, s1⟩, s2, s3⟩ := HT.out.fib_at 2 rfl (HFL.out).symm hfo
            have hlt := (List.getElem?_eq_some_iff.1 hfo).1
            have v0 := Owns.free (HT.out.own 2 rfl) (ii * 4)
            have v1 := Owns.free (HT.out.own 2 rfl) (ii * 4 + 1)
            have v2 := Owns.free (HT.out.own 2 rfl) (ii * 4 + 2)
            have v3 := Owns.free (HT.out.own 2 rfl) (ii * 4 + 3)
            have HE1 := hid (HT.out.fib_set 2 rfl hlt ⟨f.a, f.b, pv, f.risk⟩)
            have k0 := HE1.out.cell 1 0 rfl rfl
            have k1 := HE1.out.cell 1 1 rfl rfl
            have y0 := HE1.out.cell 5 0 rfl rfl
            have y1 := HE1.out.cell 5 1 rfl rfl
            have t0 := HE1.out.frozen 5 0 rfl
            have t1 := HE1.out.frozen 5 1 rfl
            have im : (ii : Int) < (m : Int) := by omega
            have HE2 := hid ((Led.del3 (((HE1.out.set 5 rfl 0 (.slice B p cb)).set 5 rfl 1 (.slice (some ⟨gE, 0, none⟩) (m) d)).drop 2)).curUp (K' := K + 3000) 2 rfl (by omega))
            clear HE1 HT hfo
            go_wp2_with fail
            exact bodyPost_ret (v := .agg #[.slice B p cb, .slice (some ⟨gE, 0, none⟩) (m) d]) (by simp [results, Try.results53, go_sem, y0, y1]) rfl
              (drewN.mk (by omega) (by omega) (HXL.out) (by rw [List.length_set]; exact HFL.out) (HX.out) HE2.out)
          · have n3 : (x == 3) = false := by simp; exact c3
            by_cases c4 : x = 4
            · subst c4
              have q0 := H3.out.cell 1 0 rfl rfl
              have q1 := H3.out.cell 1 1 rfl rfl
              clear hx0
              have HP := hid (among_blk_led [-1, 9, 10] H3.out 4 rfl HB.out HBS.out hn (by omega) (by decide) (by decide) 3 _ rfl 3)
              go_wp2_with fail
              refine Calls.mono HP.out ?_
              rintro e w4 ⟨pv, -, rfl, h4⟩
              have H4 := hid h4
              clear h4 H3 q0 q1 HP
              have c0 := H4.out.cell 0 3 rfl rfl
              have z0 := H4.out.frozen 0 3 rfl
              have HT := hid (H4.out.set 0 rfl 3 (.int .i64 pv))
              have q1 := HT.out.cell 1 1 rfl rfl
              have e0 := HT.out.cell 0 0 rfl rfl
              have e1 := HT.out.cell 0 1 rfl rfl
              have e2 := HT.out.cell 0 2 rfl rfl
              have e3 := HT.out.cell 0 3 rfl rfl
              obtain ⟨fo, hfo⟩ := get_of (k := ii) (l := fs) (n := m) (HFL.out) (by omega)
              obtain ⟨⟨s0, s1⟩, s2, s3⟩ := HT.out.fib_at 2 rfl (HFL.out).symm hfo
              have hlt := (List.getElem?_eq_some_iff.1 hfo).1
              have v0 := Owns.free (HT.out.own 2 rfl) (ii * 4)
              have v1 := Owns.free (HT.out.own 2 rfl) (ii * 4 + 1)
              have v2 := Owns.free (HT.out.own 2 rfl) (ii * 4 + 2)
              have v3 := Owns.free (HT.out.own 2 rfl) (ii * 4 + 3)
              have HE1 := hid (HT.out.fib_set 2 rfl hlt ⟨f.a, f.b, f.len, pv⟩)
              have k0 := HE1.out.cell 1 0 rfl rfl
              have k1 := HE1.out.cell 1 1 rfl rfl
              have y0 := HE1.out.cell 5 0 rfl rfl
              have y1 := HE1.out.cell 5 1 rfl rfl
              have t0 := HE1.out.frozen 5 0 rfl
              have t1 := HE1.out.frozen 5 1 rfl
              have im : (ii : Int) < (m : Int) := by omega
              have HE2 := hid ((Led.del3 (((HE1.out.set 5 rfl 0 (.slice B p cb)).set 5 rfl 1 (.slice (some ⟨gE, 0, none⟩) (m) d)).drop 2)).curUp (K' := K + 3000) 2 rfl (by omega))
              clear HE1 HT hfo
              go_wp2_with fail
              exact bodyPost_ret (v := .agg #[.slice B p cb, .slice (some ⟨gE, 0, none⟩) (m) d]) (by simp [results, Try.results53, go_sem, y0, y1]) rfl
                (drewN.mk (by omega) (by omega) (HXL.out) (by rw [List.length_set]; exact HFL.out) (HX.out) HE2.out)
            · have n4 : (x == 4) = false := by simp; exact c4
              by_cases c5 : x = 5
              · subst c5
                have q0 := H3.out.cell 1 0 rfl rfl
                have q1 := H3.out.cell 1 1 rfl rfl
                clear hx0
                obtain ⟨fz, hfz⟩ := get_of (k := 0) HFL.out (by omega)
                obtain ⟨⟨g0, g1⟩, g2, g3⟩ := (H3.out.step (Cls.drew _)).fib_at 2 rfl HFL.out.symm hfz
                have im : (0 : Int) < (m : Int) := by omega
                have im0 : 0 < m := by omega
                go_wp2_with fail
                refine wp_region_heldX 9 (fun w' => w'.cell? ⟨w1.heap.size, 1, none⟩ = some (.slice (some ⟨gE, 0, none⟩) m d)) (by kernel_rfl) (H3.out.cell 1 1 rfl rfl) (fun hHeld => ?_)
                refine wpAnyX_take (i := 0) (oi := _) (v := ?_) rfl (by kernel_rfl) (by kernel_rfl) (by kernel_rfl) (by kernel_rfl) (fun _ _ _ h => h) (Or.inl ⟨by rfl, ?_⟩) (by assumption) ?_
                rotate_left
                · intro w hSw; go_simp; with_reducible rfl
                simp only [Act.put, List.getElem_toArray, List.getElem_cons_zero, List.setIfInBounds_toArray, List.set_cons_zero, List.set_cons_succ]
                refine wpAnyX_take (i := 1) (oi := _) (v := ?_) rfl (by kernel_rfl) (by kernel_rfl) (by kernel_rfl) (by kernel_rfl) (fun _ _ _ h => h) (Or.inl ⟨by rfl, ?_⟩) (by assumption) ?_
                rotate_left
                · intro w hSw; go_simp; with_reducible rfl
                simp only [Act.put, List.getElem_toArray, List.getElem_cons_zero, List.getElem_cons_succ, List.setIfInBounds_toArray, List.set_cons_zero, List.set_cons_succ]
                refine wpAnyX_take (i := 2) (oi := _) (v := ?_) rfl (by kernel_rfl) (by kernel_rfl) (by kernel_rfl) (by kernel_rfl) (fun _ _ _ h => h) (Or.inl ⟨by rfl, ?_⟩) (by assumption) ?_
                rotate_left
                · intro w hSw; go_simp; with_reducible rfl
                simp only [Act.put, List.getElem_toArray, List.getElem_cons_zero, List.getElem_cons_succ, List.setIfInBounds_toArray, List.set_cons_zero, List.set_cons_succ]
                refine wpAnyX_take (i := 3) (oi := _) (v := ?_) rfl (by kernel_rfl) (by kernel_rfl) (by kernel_rfl) (by kernel_rfl) (fun _ _ _ h => h) (Or.inl ⟨by rfl, ?_⟩) (by assumption) ?_
                rotate_left
                · intro w hSw; go_simp; with_reducible rfl
                simp only [Act.put, List.getElem_toArray, List.getElem_cons_zero, List.getElem_cons_succ, List.setIfInBounds_toArray, List.set_cons_zero, List.set_cons_succ]
                refine wpAnyX_take (i := 4) (oi := _) (v := ?_) rfl (by kernel_rfl) (by kernel_rfl) (by kernel_rfl) (by kernel_rfl) (fun _ _ _ h => h) (Or.inl ⟨by rfl, ?_⟩) (by assumption) ?_
                rotate_left
                · intro w hSw; go_simp; with_reducible rfl
                simp only [Act.put, List.getElem_toArray, List.getElem_cons_zero, List.getElem_cons_succ, List.setIfInBounds_toArray, List.set_cons_zero, List.set_cons_succ]
                refine wpAnyX_ready (rs := [5]) (by kernel_rfl) (by simp) ?_
                refine AllReadyX.cons rfl (fun K hK => ?_) AllReadyX.nil
                go_simp
                go_wp2_with fail
                refine hK.out _ _ (H3.out.cell 1 1 rfl rfl) (fun hHeld => ?_)
                clear hK K
                try simp only [Act.put, List.getElem_toArray, List.getElem_cons_zero, List.getElem_cons_succ, List.setIfInBounds_toArray, List.set_cons_zero, List.set_cons_succ]
                refine wpAnyX_ready (rs := [6]) (by kernel_rfl) (by simp) ?_
                refine AllReadyX.cons rfl (fun K hK => ?_) AllReadyX.nil
                have h4 := (H3.out.blk_ w3.heap.size rfl 62 #[.int .i64 fz.a, .int .i64 fz.b, .int .i64 fz.len, .int .i64 fz.risk]).step (Cls.drew _)
                go_simp
                go_wp2_with fail
                refine hK.out _ _ (h4.cell 2 1 rfl rfl) (fun hHeld => ?_)
                clear hK K
                try simp only [Act.put, List.getElem_toArray, List.getElem_cons_zero, List.getElem_cons_succ, List.setIfInBounds_toArray, List.set_cons_zero, List.set_cons_succ]
                refine wpAnyX_ready (rs := [7]) (by kernel_rfl) (by simp) ?_
                refine AllReadyX.cons rfl (fun K hK => ?_) AllReadyX.nil
                refine step_append_led rfl _ _ 25 rfl h4 3 rfl Try.underlying25 hj hz0 hz1 (by rw [hz2]; decide) rfl rfl rfl (sees_fib (h4.get 0 rfl)) (by have := HFL.out; omega) h4.bl.size ?_
                intro B1 b1 v1 h5
                have hE0 : fs.length + 1 = m + 1 := by rw [HFL.out]
                rw [hE0] at h5 ⊢
                refine hK.out _ _ (h5.cell 2 1 rfl rfl) (fun hHeld => ?_)
                clear hK K
                try simp only [Act.put, List.getElem_toArray, List.getElem_cons_zero, List.getElem_cons_succ, List.setIfInBounds_toArray, List.set_cons_zero, List.set_cons_succ]
                refine wpAnyX_take (i := 8) (oi := _) (v := ?_) rfl (by kernel_rfl) (by kernel_rfl) (by kernel_rfl) (by kernel_rfl) (fun _ _ _ h => h) (Or.inl ⟨by rfl, ?_⟩) (by assumption) ?_
                rotate_left
                · intro w hSw; go_simp; with_reducible rfl
                simp only [Act.put, List.getElem_toArray, List.getElem_cons_zero, List.getElem_cons_succ, List.setIfInBounds_toArray, List.set_cons_zero, List.set_cons_succ]
                have c0 := h5.cell 2 1 rfl rfl
                have z0 := h5.frozen 2 1 rfl
                have h6 := hid ((h5.set 2 rfl 1 (.slice B1 (m + 1) b1)).drop 1)
                refine wpAnyX_ready (rs := [9]) (by kernel_rfl) (by simp) ?_
                refine AllReadyX.last rfl (fun K hK => ?_)
                go_simp
                go_wp2_with fail
                refine hK.out _ _ ?_
                clear hK K
                try simp only [Act.put, List.getElem_toArray, List.getElem_cons_zero, List.getElem_cons_succ, List.setIfInBounds_toArray, List.set_cons_zero, List.set_cons_succ]
                refine wpAnyX_done (by kernel_rfl) ?_ _
                clear c0 z0 h5 h4 hHeld q0 q1 g0 g1 g2 g3 hE0 H3
                generalize v1.setCell ⟨w1.heap.size, 1, none⟩ (.slice B1 (m + 1) b1) = WZ at *
                have hl6 : (fs ++ [fz]).length = m + 1 := by rw [List.length_append, HFL.out]; rfl
                obtain ⟨gG, cG, hv⟩ := h6.out.row_ 2 rfl hl6 (by omega)
                injection hv with hv1 _ hv3
                subst hv1; subst hv3
                have HL6 := hid hl6
                clear hl6
                have HT := hid (h6.out)
                have q1 := HT.out.cell 1 1 rfl rfl
                have e0 := HT.out.cell 0 0 rfl rfl
                have e1 := HT.out.cell 0 1 rfl rfl
                have e2 := HT.out.cell 0 2 rfl rfl
                have e3 := HT.out.cell 0 3 rfl rfl
                obtain ⟨fo, hfo⟩ := get_of (k := ii) (l := (fs ++ [fz])) (n := (m + 1)) (HL6.out) (by omega)
                obtain ⟨⟨s0, s1⟩, s2, s3⟩ := HT.out.fib_at 2 rfl (HL6.out).symm hfo
                have hlt := (List.getElem?_eq_some_iff.1 hfo).1
                have v0 := Owns.free (HT.out.own 2 rfl) (ii * 4)
                have v1 := Owns.free (HT.out.own 2 rfl) (ii * 4 + 1)
                have v2 := Owns.free (HT.out.own 2 rfl) (ii * 4 + 2)
                have v3 := Owns.free (HT.out.own 2 rfl) (ii * 4 + 3)
                have HE1 := hid (HT.out.fib_set 2 rfl hlt ⟨f.a, f.b, f.len, f.risk⟩)
                have k0 := HE1.out.cell 1 0 rfl rfl
                have k1 := HE1.out.cell 1 1 rfl rfl
                have y0 := HE1.out.cell 5 0 rfl rfl
                have y1 := HE1.out.cell 5 1 rfl rfl
                have t0 := HE1.out.frozen 5 0 rfl
                have t1 := HE1.out.frozen 5 1 rfl
                have im : (ii : Int) < (((m + 1) : Nat) : Int) := by omega
                have HE2 := hid ((Led.del3 (((HE1.out.set 5 rfl 0 (.slice B p cb)).set 5 rfl 1 (.slice (some ⟨gG, 0, none⟩) ((m + 1)) b1)).drop 2)).curUp (K' := K + 3000) 2 rfl (by omega))
                clear HE1 HT hfo
                go_wp2_with fail
                exact bodyPost_ret (v := .agg #[.slice B p cb, .slice (some ⟨gG, 0, none⟩) ((m + 1)) b1]) (by simp [results, Try.results53, go_sem, y0, y1]) rfl
                  (drewN.mk (by omega) (by omega) (HXL.out) (by rw [List.length_set]; exact HL6.out) (HX.out) HE2.out)
              · have n5 : (x == 5) = false := by simp; exact c5
                by_cases c6 : x = 6
                · subst c6
                  have q0 := H3.out.cell 1 0 rfl rfl
                  have q1 := H3.out.cell 1 1 rfl rfl
                  clear hx0
                  have HS := hid H3.out
                  clear H3 q0 q1
                  go_wp2_with fail
                  go_loopg [76] 16 (fun gk _u wr => ∃ (K' : Nat) (vE : Value) (gs : List Fib), gs.length + gk = m + 16 ∧ gs.length ≤ 15 ∧ 1 ≤ gs.length ∧ K' ≤ K + 1600 + 10 * gs.length ∧ Hid (Led w0 wr (tBlk w2.heap.size 62 #[.int .i64 f.a, .int .i64 f.b, .int .i64 f.len, .int .i64 f.risk] :: tBlk w1.heap.size 27 #[.slice B p cb, vE] :: tOwns elFib w0.heap.size 62 vE gs :: tOwns elStr w0.heap.size 9 (.slice B p cb) xs :: tCur A n c g K' :: tBlk w.heap.size 27 #[.slice none 0 0, .slice none 0 0] :: R)))
                  case atStart => exact ⟨_, _, fs, by rw [HFL.out], by rw [HFL.out]; omega, by rw [HFL.out]; omega, by omega, HS⟩
                  case round =>
                    clear HS
                    obtain ⟨K', vE, gs, hgk, h15, h1, hK', HS⟩ := hrel
                    obtain ⟨gG, cG, rfl⟩ := HS.out.row_ 2 rfl rfl (by omega)
                    obtain ⟨t, ht⟩ : ∃ t, t = gs.length := ⟨_, rfl⟩
                    rw [← ht] at HS hgk h15 h1 hK'
                    have HGL : Hid (gs.length = t) := ht.symm
                    clear ht
                    go_wp2_with fail
                    refine wp_region_held_drew (S := fun w' => w'.cell? ⟨w1.heap.size, 1, none⟩ = some (.slice (some ⟨gG, 0, none⟩) t cG)) (by kernel_rfl) (HS.out.cell 1 1 rfl rfl) (fun hHeld => ?_)
                    refine wpAnyH_take (i := 0) (oi := _) (v := ?_) rfl (by kernel_rfl) (by kernel_rfl) (by kernel_rfl) (fun _ _ _ h => h) (Or.inl ⟨by rfl, ?_⟩) (by assumption) ?_
                    rotate_left
                    · intro w hSw; go_simp; with_reducible rfl
                    simp only [Act.put, List.getElem_toArray, List.getElem_cons_zero, List.setIfInBounds_toArray, List.set_cons_zero, List.set_cons_succ]
                    refine wpAnyH_take (i := 1) (oi := _) (v := ?_) rfl (by kernel_rfl) (by kernel_rfl) (by kernel_rfl) (fun _ _ _ h => h) (Or.inl ⟨by rfl, ?_⟩) (by assumption) ?_
                    rotate_left
                    · intro w hSw; go_simp; with_reducible rfl
                    simp only [Act.put, List.getElem_toArray, List.getElem_cons_zero, List.getElem_cons_succ, List.setIfInBounds_toArray, List.set_cons_zero, List.set_cons_succ]
                    refine wpAnyH_take (i := 2) (oi := _) (v := ?_) rfl (by kernel_rfl) (by kernel_rfl) (by kernel_rfl) (fun _ _ _ h => h) (Or.inl ⟨by rfl, ?_⟩) (by assumption) ?_
                    rotate_left
                    · intro w hSw; go_simp; with_reducible rfl
                    simp only [Act.put, List.getElem_toArray, List.getElem_cons_zero, List.getElem_cons_succ, List.setIfInBounds_toArray, List.set_cons_zero, List.set_cons_succ]
                    refine wpAnyH_take (i := 3) (oi := _) (v := ?_) rfl (by kernel_rfl) (by kernel_rfl) (by kernel_rfl) (fun _ _ _ h => h) (Or.inl ⟨by rfl, ?_⟩) (by assumption) ?_
                    rotate_left
                    · intro w hSw; go_simp; with_reducible rfl
                    simp only [Act.put, List.getElem_toArray, List.getElem_cons_zero, List.getElem_cons_succ, List.setIfInBounds_toArray, List.set_cons_zero, List.set_cons_succ]
                    refine wpAnyH_ready (rs := [4]) (by kernel_rfl) (by simp) ?_
                    refine AllReadyH.cons rfl (fun K hK => ?_) AllReadyH.nil
                    have hd := HS.out.step (Cls.drew _)
                    go_simp
                    refine (pick_led hd 4 rfl HB.out HBS.out hn (by omega) 2 (by decide) (by decide)).mono ?_
                    rintro e w4 ⟨pv, rfl, hp0, hp1, h4⟩
                    have hp2 := hp1 (by decide)
                    have iw : IntKind.i64.wrap (14 + pv) = 14 + pv := IntWalk.i64_in _ (by omega)
                    clear hp1
                    go_wp2_with fail
                    refine hK.out _ _ (h4.cell 1 1 rfl rfl) (fun hHeld => ?_)
                    clear hK K
                    try simp only [Act.put, List.getElem_toArray, List.getElem_cons_zero, List.getElem_cons_succ, List.setIfInBounds_toArray, List.set_cons_zero, List.set_cons_succ]
                    by_cases hlt : (t : Int) < 14 + pv
                    · skip
                      refine wpAnyH_take (i := 5) (oi := _) (v := ?_) rfl (by kernel_rfl) (by kernel_rfl) (by kernel_rfl) (fun _ _ _ h => h) (Or.inl ⟨by rfl, ?_⟩) (by assumption) ?_
                      rotate_left
                      · intro w hSw; go_simp; with_reducible rfl
                      simp only [Act.put, List.getElem_toArray, List.getElem_cons_zero, List.getElem_cons_succ, List.setIfInBounds_toArray, List.set_cons_zero, List.set_cons_succ]
                      refine wpAnyH_take (i := 6) (oi := _) (v := ?_) rfl (by kernel_rfl) (by kernel_rfl) (by kernel_rfl) (fun _ _ _ h => h) (Or.inl ⟨by rfl, ?_⟩) (by assumption) ?_
                      rotate_left
                      · intro w hSw; go_simp; with_reducible rfl
                      simp only [Act.put, List.getElem_toArray, List.getElem_cons_zero, List.getElem_cons_succ, List.setIfInBounds_toArray, List.set_cons_zero, List.set_cons_succ]
                      refine wpAnyH_done (by kernel_rfl) ?_ _
                      have H4 := hid h4
                      clear h4 hd HS hHeld
                      obtain ⟨fz, hfz⟩ := get_of (k := t - 1) HGL.out (by omega)
                      have iw2 : IntKind.i64.wrap ((t : Int) - 1) = ((t - 1 : Nat) : Int) := by rw [IntWalk.i64_in _ (by omega)]; omega
                      obtain ⟨t1, ht1⟩ : ∃ t1, t1 = t - 1 := ⟨_, rfl⟩
                      rw [← ht1] at hfz iw2
                      have i0 : (t1 : Int) < (t : Int) := by omega
                      have i1 : (0 : Int) ≤ (t1 : Int) := by omega
                      have i2 : t1 < t := by omega
                      clear ht1
                      obtain ⟨⟨g0, g1⟩, g2, g3⟩ := (H4.out.step (Cls.drew _)).fib_at 2 rfl HGL.out.symm hfz
                      go_wp2_with fail
                      refine wp_region_heldX 13 (fun w' => w'.cell? ⟨w1.heap.size, 1, none⟩ = some (.slice (some ⟨gG, 0, none⟩) t cG)) (by kernel_rfl) (H4.out.cell 1 1 rfl rfl) (fun hHeld => ?_)
                      refine wpAnyX_take (i := 0) (oi := _) (v := ?_) rfl (by kernel_rfl) (by kernel_rfl) (by kernel_rfl) (by kernel_rfl) (fun _ _ _ h => h) (Or.inl ⟨by rfl, ?_⟩) (by assumption) ?_
                      rotate_left
                      · intro w hSw; go_simp; with_reducible rfl
                      simp only [Act.put, List.getElem_toArray, List.getElem_cons_zero, List.setIfInBounds_toArray, List.set_cons_zero, List.set_cons_succ]
                      refine wpAnyX_take (i := 1) (oi := _) (v := ?_) rfl (by kernel_rfl) (by kernel_rfl) (by kernel_rfl) (by kernel_rfl) (fun _ _ _ h => h) (Or.inl ⟨by rfl, ?_⟩) (by assumption) ?_
                      rotate_left
                      · intro w hSw; go_simp; with_reducible rfl
                      simp only [Act.put, List.getElem_toArray, List.getElem_cons_zero, List.getElem_cons_succ, List.setIfInBounds_toArray, List.set_cons_zero, List.set_cons_succ]
                      refine wpAnyX_take (i := 2) (oi := _) (v := ?_) rfl (by kernel_rfl) (by kernel_rfl) (by kernel_rfl) (by kernel_rfl) (fun _ _ _ h => h) (Or.inl ⟨by rfl, ?_⟩) (by assumption) ?_
                      rotate_left
                      · intro w hSw; go_simp; with_reducible rfl
                      simp only [Act.put, List.getElem_toArray, List.getElem_cons_zero, List.getElem_cons_succ, List.setIfInBounds_toArray, List.set_cons_zero, List.set_cons_succ]
                      refine wpAnyX_take (i := 3) (oi := _) (v := ?_) rfl (by kernel_rfl) (by kernel_rfl) (by kernel_rfl) (by kernel_rfl) (fun _ _ _ h => h) (Or.inl ⟨by rfl, ?_⟩) (by assumption) ?_
                      rotate_left
                      · intro w hSw; go_simp; with_reducible rfl
                      simp only [Act.put, List.getElem_toArray, List.getElem_cons_zero, List.getElem_cons_succ, List.setIfInBounds_toArray, List.set_cons_zero, List.set_cons_succ]
                      refine wpAnyX_take (i := 4) (oi := _) (v := ?_) rfl (by kernel_rfl) (by kernel_rfl) (by kernel_rfl) (by kernel_rfl) (fun _ _ _ h => h) (Or.inl ⟨by rfl, ?_⟩) (by assumption) ?_
                      rotate_left
                      · intro w hSw; go_simp; with_reducible rfl
                      simp only [Act.put, List.getElem_toArray, List.getElem_cons_zero, List.getElem_cons_succ, List.setIfInBounds_toArray, List.set_cons_zero, List.set_cons_succ]
                      refine wpAnyX_take (i := 5) (oi := _) (v := ?_) rfl (by kernel_rfl) (by kernel_rfl) (by kernel_rfl) (by kernel_rfl) (fun _ _ _ h => h) (Or.inl ⟨by rfl, ?_⟩) (by assumption) ?_
                      rotate_left
                      · intro w hSw; go_simp; with_reducible rfl
                      simp only [Act.put, List.getElem_toArray, List.getElem_cons_zero, List.getElem_cons_succ, List.setIfInBounds_toArray, List.set_cons_zero, List.set_cons_succ]
                      refine wpAnyX_take (i := 6) (oi := _) (v := ?_) rfl (by kernel_rfl) (by kernel_rfl) (by kernel_rfl) (by kernel_rfl) (fun _ _ _ h => h) (Or.inl ⟨by rfl, ?_⟩) (by assumption) ?_
                      rotate_left
                      · intro w hSw; go_simp; with_reducible rfl
                      simp only [Act.put, List.getElem_toArray, List.getElem_cons_zero, List.getElem_cons_succ, List.setIfInBounds_toArray, List.set_cons_zero, List.set_cons_succ]
                      refine wpAnyX_take (i := 7) (oi := _) (v := ?_) rfl (by kernel_rfl) (by kernel_rfl) (by kernel_rfl) (by kernel_rfl) (fun _ _ _ h => h) (Or.inl ⟨by rfl, ?_⟩) (by assumption) ?_
                      rotate_left
                      · intro w hSw; go_simp; with_reducible rfl
                      simp only [Act.put, List.getElem_toArray, List.getElem_cons_zero, List.getElem_cons_succ, List.setIfInBounds_toArray, List.set_cons_zero, List.set_cons_succ]
                      refine wpAnyX_take (i := 8) (oi := _) (v := ?_) rfl (by kernel_rfl) (by kernel_rfl) (by kernel_rfl) (by kernel_rfl) (fun _ _ _ h => h) (Or.inl ⟨by rfl, ?_⟩) (by assumption) ?_
                      rotate_left
                      · intro w hSw; go_simp; with_reducible rfl
                      simp only [Act.put, List.getElem_toArray, List.getElem_cons_zero, List.getElem_cons_succ, List.setIfInBounds_toArray, List.set_cons_zero, List.set_cons_succ]
                      refine wpAnyX_ready (rs := [9]) (by kernel_rfl) (by simp) ?_
                      refine AllReadyX.cons rfl (fun K hK => ?_) AllReadyX.nil
                      go_simp
                      go_wp2_with fail
                      refine hK.out _ _ (H4.out.cell 1 1 rfl rfl) (fun hHeld => ?_)
                      clear hK K
                      try simp only [Act.put, List.getElem_toArray, List.getElem_cons_zero, List.getElem_cons_succ, List.setIfInBounds_toArray, List.set_cons_zero, List.set_cons_succ]
                      refine wpAnyX_ready (rs := [10]) (by kernel_rfl) (by simp) ?_
                      refine AllReadyX.cons rfl (fun K hK => ?_) AllReadyX.nil
                      have h5 := (H4.out.blk_ w4.heap.size rfl 62 #[.int .i64 fz.a, .int .i64 fz.b, .int .i64 fz.len, .int .i64 fz.risk]).step (Cls.drew _)
                      go_simp
                      go_wp2_with fail
                      refine hK.out _ _ (h5.cell 2 1 rfl rfl) (fun hHeld => ?_)
                      clear hK K
                      try simp only [Act.put, List.getElem_toArray, List.getElem_cons_zero, List.getElem_cons_succ, List.setIfInBounds_toArray, List.set_cons_zero, List.set_cons_succ]
                      refine wpAnyX_ready (rs := [11]) (by kernel_rfl) (by simp) ?_
                      refine AllReadyX.cons rfl (fun K hK => ?_) AllReadyX.nil
                      refine step_append_led rfl _ _ 25 rfl h5 3 rfl Try.underlying25 hj hz0 hz1 (by rw [hz2]; decide) rfl rfl rfl (sees_fib (h5.get 0 rfl)) (by have := HGL.out; omega) h5.bl.size ?_
                      intro B1 b1 v1 h6
                      have hE0 : gs.length + 1 = t + 1 := by rw [HGL.out]
                      rw [hE0] at h6 ⊢
                      refine hK.out _ _ (h6.cell 2 1 rfl rfl) (fun hHeld => ?_)
                      clear hK K
                      try simp only [Act.put, List.getElem_toArray, List.getElem_cons_zero, List.getElem_cons_succ, List.setIfInBounds_toArray, List.set_cons_zero, List.set_cons_succ]
                      refine wpAnyX_take (i := 12) (oi := _) (v := ?_) rfl (by kernel_rfl) (by kernel_rfl) (by kernel_rfl) (by kernel_rfl) (fun _ _ _ h => h) (Or.inl ⟨by rfl, ?_⟩) (by assumption) ?_
                      rotate_left
                      · intro w hSw; go_simp; with_reducible rfl
                      simp only [Act.put, List.getElem_toArray, List.getElem_cons_zero, List.getElem_cons_succ, List.setIfInBounds_toArray, List.set_cons_zero, List.set_cons_succ]
                      have c0 := h6.cell 2 1 rfl rfl
                      have z0 := h6.frozen 2 1 rfl
                      have h7 := hid ((h6.set 2 rfl 1 (.slice B1 (t + 1) b1)).drop 1)
                      refine wpAnyX_ready (rs := [13]) (by kernel_rfl) (by simp) ?_
                      refine AllReadyX.last rfl (fun K hK => ?_)
                      go_simp
                      go_wp2_with fail
                      refine hK.out _ _ ?_
                      clear hK K
                      try simp only [Act.put, List.getElem_toArray, List.getElem_cons_zero, List.getElem_cons_succ, List.setIfInBounds_toArray, List.set_cons_zero, List.set_cons_succ]
                      refine wpAnyX_done (by kernel_rfl) ?_ _
                      clear c0 z0 h6 h5 hHeld g0 g1 g2 g3 hE0 H4
                      go_wp2
                      go_roundg (gk - 1)
                      case rel => exact ⟨_, _, gs ++ [fz], by rw [List.length_append, HGL.out]; show t + 1 + (gk - 1) = m + 16; omega, by rw [List.length_append, HGL.out]; show t + 1 ≤ 15; omega, by rw [List.length_append, HGL.out]; show 1 ≤ t + 1; omega, by rw [List.length_append, HGL.out]; show _ ≤ K + 1600 + 10 * (t + 1); omega, h7⟩
                      case measure => omega
                    · skip
                      refine wpAnyH_take (i := 5) (oi := _) (v := ?_) rfl (by kernel_rfl) (by kernel_rfl) (by kernel_rfl) (fun _ _ _ h => h) (Or.inl ⟨by rfl, ?_⟩) (by assumption) ?_
                      rotate_left
                      · intro w hSw; go_simp; with_reducible rfl
                      simp only [Act.put, List.getElem_toArray, List.getElem_cons_zero, List.getElem_cons_succ, List.setIfInBounds_toArray, List.set_cons_zero, List.set_cons_succ]
                      refine wpAnyH_take (i := 6) (oi := _) (v := ?_) rfl (by kernel_rfl) (by kernel_rfl) (by kernel_rfl) (fun _ _ _ h => h) (Or.inl ⟨by rfl, ?_⟩) (by assumption) ?_
                      rotate_left
                      · intro w hSw; go_simp; with_reducible rfl
                      simp only [Act.put, List.getElem_toArray, List.getElem_cons_zero, List.getElem_cons_succ, List.setIfInBounds_toArray, List.set_cons_zero, List.set_cons_succ]
                      refine wpAnyH_done (by kernel_rfl) ?_ _
                      have q0 := h4.cell 1 0 rfl rfl
                      have q1 := h4.cell 1 1 rfl rfl
                      have y0 := h4.cell 5 0 rfl rfl
                      have y1 := h4.cell 5 1 rfl rfl
                      have t0 := h4.frozen 5 0 rfl
                      have t1 := h4.frozen 5 1 rfl
                      have HE2 := hid ((Led.del3 (((h4.set 5 rfl 0 (.slice B p cb)).set 5 rfl 1 (.slice (some ⟨gG, 0, none⟩) t cG)).drop 2)).curUp (K' := K + 3000) 2 rfl (by omega))
                      clear h4 hd HS hHeld
                      go_wp2_with fail
                      exact bodyPost_ret (v := .agg #[.slice B p cb, .slice (some ⟨gG, 0, none⟩) t cG]) (by simp [results, Try.results53, go_sem, y0, y1]) rfl
                        (drewN.mk (by omega) (by omega) HXL.out HGL.out HX.out HE2.out)
                · have n6 : (x == 6) = false := by simp; exact c6
                  by_cases c7 : x = 7
                  · subst c7
                    have q0 := H3.out.cell 1 0 rfl rfl
                    have q1 := H3.out.cell 1 1 rfl rfl
                    clear hx0
                    have H4 := hid (H3.out.blk_ w3.heap.size rfl 9 (([⟨#[112]⟩, ⟨#[113]⟩, ⟨#[114]⟩, ⟨#[115]⟩] : List ByteArray).map Value.string).toArray)
                    go_wp2_with (first
                      | (at_builtin; refine wpList_append_led rfl _ _ 24 rfl H4.out 4 rfl Try.underlying24 hk hs0 hs1 (by rw [hs2]; decide) rfl rfl rfl (sees_strs [⟨#[112]⟩, ⟨#[113]⟩, ⟨#[114]⟩, ⟨#[115]⟩] (H4.out.get 0 rfl)) (by have := HXL.out; simp; omega) H4.out.bl.size ?_)
                      | go_in)
                    intro A5 c5 w5 h5
                    have hE0 : xs.length + 4 = p + 4 := by rw [HXL.out]
                    have h5b : Led w0 w5 (tBlk w2.heap.size 62 #[.int .i64 f.a, .int .i64 f.b, .int .i64 f.len, .int .i64 f.risk] :: tBlk w1.heap.size 27 #[.slice B p cb, .slice (some ⟨gE, 0, none⟩) m d] :: tOwns elFib w0.heap.size 62 (.slice (some ⟨gE, 0, none⟩) m d) fs :: tOwns elStr w0.heap.size 9 (.slice A5 (p + 4) c5) (xs ++ [⟨#[112]⟩, ⟨#[113]⟩, ⟨#[114]⟩, ⟨#[115]⟩]) :: tCur A n c g (K + 1000 + 2 + 2) :: tBlk w.heap.size 27 #[.slice none 0 0, .slice none 0 0] :: R) := by rw [← hE0]; exact h5.drop 1
                    have c0 := h5b.cell 1 0 rfl rfl
                    have z0 := h5b.frozen 1 0 rfl
                    have H5 := hid h5b
                    clear h5 h5b H3 H4 q0 q1
                    have hE1 : xs.length + [(⟨#[112]⟩ : ByteArray), ⟨#[113]⟩, ⟨#[114]⟩, ⟨#[115]⟩].length = p + 4 := by rw [HXL.out]; rfl
                    (try simp only [hE1]); (try simp only [hE0])
                    have HT := hid (H5.out.set 1 rfl 0 (.slice A5 (p + 4) c5))
                    have q1 := HT.out.cell 1 1 rfl rfl
                    have e0 := HT.out.cell 0 0 rfl rfl
                    have e1 := HT.out.cell 0 1 rfl rfl
                    have e2 := HT.out.cell 0 2 rfl rfl
                    have e3 := HT.out.cell 0 3 rfl rfl
                    obtain ⟨fo, hfo⟩ := get_of (k := ii) (l := fs) (n := m) (HFL.out) (by omega)
                    obtain ⟨⟨s0, s1⟩, s2, s3⟩ := HT.out.fib_at 2 rfl (HFL.out).symm hfo
                    have hlt := (List.getElem?_eq_some_iff.1 hfo).1
                    have v0 := Owns.free (HT.out.own 2 rfl) (ii * 4)
                    have v1 := Owns.free (HT.out.own 2 rfl) (ii * 4 + 1)
                    have v2 := Owns.free (HT.out.own 2 rfl) (ii * 4 + 2)
                    have v3 := Owns.free (HT.out.own 2 rfl) (ii * 4 + 3)
                    have HE1 := hid (HT.out.fib_set 2 rfl hlt ⟨f.a, f.b, f.len, f.risk⟩)
                    have k0 := HE1.out.cell 1 0 rfl rfl
                    have k1 := HE1.out.cell 1 1 rfl rfl
                    have y0 := HE1.out.cell 5 0 rfl rfl
                    have y1 := HE1.out.cell 5 1 rfl rfl
                    have t0 := HE1.out.frozen 5 0 rfl
                    have t1 := HE1.out.frozen 5 1 rfl
                    have im : (ii : Int) < (m : Int) := by omega
                    have HE2 := hid ((Led.del3 (((HE1.out.set 5 rfl 0 (.slice A5 ((p + 4)) c5)).set 5 rfl 1 (.slice (some ⟨gE, 0, none⟩) (m) d)).drop 2)).curUp (K' := K + 3000) 2 rfl (by omega))
                    clear HE1 HT hfo
                    go_wp2_with fail
                    exact bodyPost_ret (v := .agg #[.slice A5 ((p + 4)) c5, .slice (some ⟨gE, 0, none⟩) (m) d]) (by simp [results, Try.results53, go_sem, y0, y1]) rfl
                      (drewN.mk (by omega) (by omega) (by rw [List.length_append, HXL.out]; rfl) (by rw [List.length_set]; exact HFL.out) (short_app HX.out) HE2.out)
                  · have n7 : (x == 7) = false := by simp; exact c7
                    have q0 := H3.out.cell 1 0 rfl rfl
                    have HT := hid (H3.out)
                    have q1 := HT.out.cell 1 1 rfl rfl
                    have e0 := HT.out.cell 0 0 rfl rfl
                    have e1 := HT.out.cell 0 1 rfl rfl
                    have e2 := HT.out.cell 0 2 rfl rfl
                    have e3 := HT.out.cell 0 3 rfl rfl
                    obtain ⟨fo, hfo⟩ := get_of (k := ii) (l := fs) (n := m) (HFL.out) (by omega)
                    obtain ⟨⟨s0, s1⟩, s2, s3⟩ := HT.out.fib_at 2 rfl (HFL.out).symm hfo
                    have hlt := (List.getElem?_eq_some_iff.1 hfo).1
                    have v0 := Owns.free (HT.out.own 2 rfl) (ii * 4)
                    have v1 := Owns.free (HT.out.own 2 rfl) (ii * 4 + 1)
                    have v2 := Owns.free (HT.out.own 2 rfl) (ii * 4 + 2)
                    have v3 := Owns.free (HT.out.own 2 rfl) (ii * 4 + 3)
                    have HE1 := hid (HT.out.fib_set 2 rfl hlt ⟨f.a, f.b, f.len, f.risk⟩)
                    have k0 := HE1.out.cell 1 0 rfl rfl
                    have k1 := HE1.out.cell 1 1 rfl rfl
                    have y0 := HE1.out.cell 5 0 rfl rfl
                    have y1 := HE1.out.cell 5 1 rfl rfl
                    have t0 := HE1.out.frozen 5 0 rfl
                    have t1 := HE1.out.frozen 5 1 rfl
                    have im : (ii : Int) < (m : Int) := by omega
                    have HE2 := hid ((Led.del3 (((HE1.out.set 5 rfl 0 (.slice B p cb)).set 5 rfl 1 (.slice (some ⟨gE, 0, none⟩) (m) d)).drop 2)).curUp (K' := K + 3000) 2 rfl (by omega))
                    clear HE1 HT hfo
                    go_wp2_with fail
                    exact bodyPost_ret (v := .agg #[.slice B p cb, .slice (some ⟨gE, 0, none⟩) (m) d]) (by simp [results, Try.results53, go_sem, y0, y1]) rfl
                      (drewN.mk (by omega) (by omega) (HXL.out) (by rw [List.length_set]; exact HFL.out) (HX.out) HE2.out)
end
end Go.Proofs.Ytfepilpllfiegaa
