/- Lemmas and walks that the claim rests on, laid together. Conditions: none. -/
import Derived.Test.YtfepilpllfiegaaZa05439857ce4
import Derived.Test.YtfepilpllfiegaaRows
import Derived.Test.YtfepilpllfiegaaZc731a5b1582e
/- What the laws draw: a network with a node, with two nodes, with a set of nodes. Conditions: at most 1048576 bytes to draw from. By drawf.py. -/
namespace Go.Proofs.Ytfepilpllfiegaa
open Go.RowKit
/-- A drawn network lies in memory of the call's own. -/
structure DrN (w w' : World) (B : Option Addr) (p cb : Nat) (E : Option Addr) (m d : Nat) (xs : List ByteArray) (fs : List Fib) : Prop where
  led : ∃ b1 b2, Led w w' [tOwns elFib b1 62 (.slice E m d) fs, tOwns elStr b2 9 (.slice B p cb) xs]
  xl : xs.length = p
  fl : fs.length = m
  hp : 2 ≤ p ∧ p ≤ 10
  hm : m ≤ 15
  sh : ∀ x ∈ xs, x.size ≤ 9
section
variable {w w' : World} {B E : Option Addr} {p cb m d : Nat} {xs : List ByteArray} {fs : List Fib}
theorem Led.take2 {w0 w : World} {a b : Thing} {R : List Thing} (h : Led w0 w (a :: b :: R)) : Led w0 w [a, b] := ⟨h.bl, fun i t hi => h.all i t (by match i, hi with | 0, hi => exact hi | 1, hi => exact hi | i + 2, hi => simp at hi), fun i j x y hij ha hb => h.apart i j x y hij (by match i, ha with | 0, ha => exact ha | 1, ha => exact ha | i + 2, ha => simp at ha) (by match j, hb with | 0, hb => exact hb | 1, hb => exact hb | j + 2, hb => simp at hb)⟩
theorem DrN.net (h : DrN w w' B p cb E m d xs fs) : NetIs w' B p cb E m d xs fs := by
  obtain ⟨⟨b1, b2, hl⟩, hx, hf, hp, hm, hs⟩ := h
  subst hx; subst hf
  obtain ⟨A1, c1, e1, l1⟩ := hl.form 1 rfl
  obtain ⟨A2, c2, e2, l2⟩ := hl.form 0 rfl
  injection e1 with _ _ e1
  injection e2 with _ _ e2
  subst e1; subst e2
  exact ⟨⟨l1, by omega⟩, ⟨l2, by omega⟩, hl.sees 1 rfl rfl, hl.sees 0 rfl rfl, fun x hx => by have := hs x hx; unfold maxLen; omega⟩
theorem DrN.bl (h : DrN w w' B p cb E m d xs fs) : Below w.heap.size w w' := by obtain ⟨b1, b2, hl⟩ := h.led; exact hl.bl
end
def dr1P (w : World) (e : Ending) (w' : World) : Prop := ∃ (B : Option Addr) (p cb : Nat) (E : Option Addr) (m d : Nat) (xs : List ByteArray) (fs : List Fib) (a : Int), e = .returned (.tuple #[.agg #[.slice B p cb, .slice E m d], .int .i64 a]) ∧ DrN w w' B p cb E m d xs fs
def dr2P (w : World) (e : Ending) (w' : World) : Prop := ∃ (B : Option Addr) (p cb : Nat) (E : Option Addr) (m d : Nat) (xs : List ByteArray) (fs : List Fib) (a b : Int), e = .returned (.tuple #[.agg #[.slice B p cb, .slice E m d], .int .i64 a, .int .i64 b]) ∧ DrN w w' B p cb E m d xs fs
def drLP (w : World) (e : Ending) (w' : World) : Prop := ∃ (B : Option Addr) (p cb : Nat) (E : Option Addr) (m d : Nat) (xs : List ByteArray) (fs : List Fib) (V : Option Addr) (c : Nat) (l : List Int), e = .returned (.tuple #[.agg #[.slice B p cb, .slice E m d], .slice V l.length c]) ∧ DrN w w' B p cb E m d xs fs ∧ Sees elInt w' w'.heap.size V l.length l ∧ l.length ≤ c ∧ l.length ≤ 30
theorem dr1P.mk {w w' : World} {B E : Option Addr} {p cb m d : Nat} {xs : List ByteArray} {fs : List Fib} {a : Int} (h : DrN w w' B p cb E m d xs fs) : dr1P w (.returned (.tuple #[.agg #[.slice B p cb, .slice E m d], .int .i64 a])) w' := ⟨_, _, _, _, _, _, _, _, _, rfl, h⟩
theorem dr2P.mk {w w' : World} {B E : Option Addr} {p cb m d : Nat} {xs : List ByteArray} {fs : List Fib} {a b : Int} (h : DrN w w' B p cb E m d xs fs) : dr2P w (.returned (.tuple #[.agg #[.slice B p cb, .slice E m d], .int .i64 a, .int .i64 b])) w' := ⟨_, _, _, _, _, _, _, _, _, _, rfl, h⟩
theorem drLP.mk {w w' : World} {B E V : Option Addr} {p cb m d c : Nat} {xs : List ByteArray} {fs : List Fib} {l : List Int} (h : DrN w w' B p cb E m d xs fs) (hv : Sees elInt w' w'.heap.size V l.length l) (hc : l.length ≤ c) (h30 : l.length ≤ 30) : drLP w (.returned (.tuple #[.agg #[.slice B p cb, .slice E m d], .slice V l.length c])) w' := ⟨_, _, _, _, _, _, _, _, _, _, _, rfl, h, hv, hc, h30⟩
section
variable {A : Option Addr} {n c : Nat} {bs : List Int}
set_option maxHeartbeats 2000000 in
set_option maxRecDepth 100000 in
theorem drawFibersAt_any (w : World) (hb : Sees elU w w.heap.size A n bs) (hbs : ∀ x ∈ bs, 0 ≤ x ∧ x ≤ 255) (hn : n ≤ 1048576) : Calls Try.prog 89 #[.slice A n c] w (dr1P w) := by
  have H0 := hid (((Led.nil w).blk_ w.heap.size rfl 27 #[.slice none 0 0, .slice none 0 0]).cur (w.heap.size + 1) (by simp) A n c)
  have HB := hid hb
  have HBS := hid hbs
  clear hb hbs
  go_enter Try.func89, Try.ntmps89
  go_wp2_with fail
  refine (anyNetwork_led H0.out HB.out HBS.out hn (by omega)).mono ?_
  rintro e w1 ⟨B, p, cb, E, m, d, xs, fs, rfl, hp, hm, hxl, hfl, HX, h1⟩
  have HXL := hid hxl
  have HFL := hid hfl
  have HXS := hid HX
  have H1 := hid h1
  clear h1 H0 hxl hfl HX
  go_wp2_with fail
  refine (pick_led H1.out 2 rfl HB.out HBS.out hn (by omega) 8 (by decide) (by decide)).mono ?_
  rintro e w2 ⟨v, rfl, hv0, hv1, h2⟩
  have hv2 := hv1 (by decide)
  have iw : IntKind.i64.wrap (v - 1) = v - 1 := IntWalk.i64_in _ (by omega)
  have y0 := h2.cell 3 0 rfl rfl
  have y1 := h2.cell 3 1 rfl rfl
  have t0 := h2.frozen 3 0 rfl
  have t1 := h2.frozen 3 1 rfl
  have HE := hid ((h2.set 3 rfl 0 (.slice B p cb)).set 3 rfl 1 (.slice E m d))
  clear h2 hv1 H1
  go_wp2_with fail
  exact bodyPost_ret (v := .tuple #[.agg #[.slice B p cb, .slice E m d], .int .i64 (v - 1)]) (by simp [results, Try.results89, go_sem, y0, y1]) rfl (dr1P.mk ⟨⟨_, _, Led.take2 HE.out⟩, HXL.out, HFL.out, hp, hm, HXS.out⟩)
set_option maxHeartbeats 2000000 in
set_option maxRecDepth 100000 in
theorem drawDistances_any (w : World) (hb : Sees elU w w.heap.size A n bs) (hbs : ∀ x ∈ bs, 0 ≤ x ∧ x ≤ 255) (hn : n ≤ 1048576) : Calls Try.prog 34 #[.slice A n c] w (dr1P w) := by
  have H0 := hid ((Led.nil w).blk_ w.heap.size rfl 27 #[.slice none 0 0, .slice none 0 0])
  have HB := hid hb
  have HBS := hid hbs
  clear hb hbs
  go_enter Try.func34, Try.ntmps34
  go_wp2_with fail
  refine (drawFibersAt_any _ ((HB.out.grow H0.out.bl).more H0.out.bl.size) HBS.out hn).mono ?_
  rintro e w1 ⟨B, p, cb, E, m, d, xs, fs, v, rfl, ⟨⟨b1, b2, hl⟩, hxl, hfl, hp, hm, hs⟩⟩
  have h1 := H0.out.join hl
  have HXL := hid hxl
  have HFL := hid hfl
  have HXS := hid hs
  have y0 := h1.cell 2 0 rfl rfl
  have y1 := h1.cell 2 1 rfl rfl
  have t0 := h1.frozen 2 0 rfl
  have t1 := h1.frozen 2 1 rfl
  have HE := hid ((h1.set 2 rfl 0 (.slice B p cb)).set 2 rfl 1 (.slice E m d))
  clear h1 hl H0 hxl hfl hs
  go_wp2_with fail
  exact bodyPost_ret (v := .tuple #[.agg #[.slice B p cb, .slice E m d], .int .i64 v]) (by simp [results, Try.results34, go_sem, y0, y1]) rfl (dr1P.mk ⟨⟨_, _, Led.take2 HE.out⟩, HXL.out, HFL.out, hp, hm, HXS.out⟩)
set_option maxHeartbeats 2000000 in
set_option maxRecDepth 100000 in
theorem drawAllRoutes_any (w : World) (hb : Sees elU w w.heap.size A n bs) (hbs : ∀ x ∈ bs, 0 ≤ x ∧ x ≤ 255) (hn : n ≤ 1048576) : Calls Try.prog 10 #[.slice A n c] w (dr2P w) := by
  have H0 := hid (((Led.nil w).blk_ w.heap.size rfl 27 #[.slice none 0 0, .slice none 0 0]).cur (w.heap.size + 1) (by simp) A n c)
  have HB := hid hb
  have HBS := hid hbs
  clear hb hbs
  go_enter Try.func10, Try.ntmps10
  go_wp2_with fail
  refine (anyNetwork_led H0.out HB.out HBS.out hn (by omega)).mono ?_
  rintro e w1 ⟨B, p, cb, E, m, d, xs, fs, rfl, hp, hm, hxl, hfl, HX, h1⟩
  have HXL := hid hxl
  have HFL := hid hfl
  have HXS := hid HX
  have H1 := hid (h1.blk_ w1.heap.size rfl 27 #[.slice B p cb, .slice E m d])
  clear h1 H0 hxl hfl HX
  have q0 := H1.out.cell 0 0 rfl rfl
  have q1 := H1.out.cell 0 1 rfl rfl
  go_wp2_with fail
  refine (one_led H1.out 3 rfl HB.out HBS.out hn (by omega) 8 (by decide) (by decide)).mono ?_
  rintro e w2 ⟨t, rfl, h2⟩
  have H2 := hid h2
  clear h2 H1 q0 q1
  obtain ⟨WW, hWW⟩ : ∃ WW, WW = w2 := ⟨_, rfl⟩
  rw [← hWW] at H2 ⊢
  clear hWW
  cases t
  · skip
    have q0 := H2.out.cell 0 0 rfl rfl
    go_wp2_with fail
    refine (pick_led H2.out 3 rfl HB.out HBS.out hn (by omega) (p : Int) (by omega) (by omega)).mono ?_
    rintro e w3 ⟨av, rfl, ha0, ha1, h3⟩
    have ha2 := ha1 (by omega)
    have H3 := hid h3
    clear h3 H2 q0 ha1
    obtain ⟨W3, hW3⟩ : ∃ W3, W3 = w3 := ⟨_, rfl⟩
    rw [← hW3] at H3 ⊢
    clear hW3
    have iw0 : IntKind.i64.wrap ((p : Int) - 1) = (p : Int) - 1 := IntWalk.i64_in _ (by omega)
    have iw1 : IntKind.i64.wrap (av + 1) = av + 1 := IntWalk.i64_in _ (by omega)
    have ikz : ((p : Int) == 0) = false := by simp; omega
    have ikz2 : ¬ ((p : Int) = 0) := by omega
    have ikz3 : ¬ (p = 0) := by omega
    go_wp2_with fail
    refine wp_region_held_drew (S := fun w' => w'.cell? ⟨w1.heap.size, 0, none⟩ = some (.slice B p cb) ∧ w'.cell? ⟨w1.heap.size, 1, none⟩ = some (.slice E m d)) (by kernel_rfl) (⟨H3.out.cell 0 0 rfl rfl, H3.out.cell 0 1 rfl rfl⟩) (fun hHeld => ?_)
    refine wpAnyH_take (i := 0) (oi := _) (v := ?_) rfl (by kernel_rfl) (by kernel_rfl) (by kernel_rfl) (fun _ _ _ h => h) (Or.inl ⟨by rfl, ?_⟩) (by assumption) ?_
    rotate_left
    · intro w hSw; go_simp; with_reducible rfl
    simp only [Act.put, List.getElem_toArray, List.getElem_cons_zero, List.setIfInBounds_toArray, List.set_cons_zero, List.set_cons_succ]
    refine wpAnyH_take (i := 1) (oi := _) (v := ?_) rfl (by kernel_rfl) (by kernel_rfl) (by kernel_rfl) (fun _ _ _ h => h) (Or.inl ⟨by rfl, ?_⟩) (by assumption) ?_
    rotate_left
    · intro w hSw; go_simp; with_reducible rfl
    simp only [Act.put, List.getElem_toArray, List.getElem_cons_zero, List.getElem_cons_succ, List.setIfInBounds_toArray, List.set_cons_zero, List.set_cons_succ]
    refine wpAnyH_take (i := 2) (oi := _) (v := ?_) rfl (by kernel_rfl) (by kernel_rfl) (by kernel_rfl) (fun _ _ _ h => h) (Or.inl ⟨by rfl, ?_⟩) (by assumption) ?_
    rotate_left
    · intro w hSw; go_simp; with_reducible rfl
    simp only [Act.put, List.getElem_toArray, List.getElem_cons_zero, List.getElem_cons_succ, List.setIfInBounds_toArray, List.set_cons_zero, List.set_cons_succ]
    refine wpAnyH_take (i := 3) (oi := _) (v := ?_) rfl (by kernel_rfl) (by kernel_rfl) (by kernel_rfl) (fun _ _ _ h => h) (Or.inl ⟨by rfl, ?_⟩) (by assumption) ?_
    rotate_left
    · intro w hSw; go_simp; with_reducible rfl
    simp only [Act.put, List.getElem_toArray, List.getElem_cons_zero, List.getElem_cons_succ, List.setIfInBounds_toArray, List.set_cons_zero, List.set_cons_succ]
    refine wpAnyH_take (i := 4) (oi := _) (v := ?_) rfl (by kernel_rfl) (by kernel_rfl) (by kernel_rfl) (fun _ _ _ h => h) (Or.inl ⟨by rfl, ?_⟩) (by assumption) ?_
    rotate_left
    · intro w hSw; go_simp; with_reducible rfl
    simp only [Act.put, List.getElem_toArray, List.getElem_cons_zero, List.getElem_cons_succ, List.setIfInBounds_toArray, List.set_cons_zero, List.set_cons_succ]
    refine wpAnyH_take (i := 5) (oi := _) (v := ?_) rfl (by kernel_rfl) (by kernel_rfl) (by kernel_rfl) (fun _ _ _ h => h) (Or.inl ⟨by rfl, ?_⟩) (by assumption) ?_
    rotate_left
    · intro w hSw; go_simp; with_reducible rfl
    simp only [Act.put, List.getElem_toArray, List.getElem_cons_zero, List.getElem_cons_succ, List.setIfInBounds_toArray, List.set_cons_zero, List.set_cons_succ]
    refine wpAnyH_take (i := 6) (oi := _) (v := ?_) rfl (by kernel_rfl) (by kernel_rfl) (by kernel_rfl) (fun _ _ _ h => h) (Or.inl ⟨by rfl, ?_⟩) (by assumption) ?_
    rotate_left
    · intro w hSw; go_simp; with_reducible rfl
    simp only [Act.put, List.getElem_toArray, List.getElem_cons_zero, List.getElem_cons_succ, List.setIfInBounds_toArray, List.set_cons_zero, List.set_cons_succ]
    refine wpAnyH_take (i := 7) (oi := _) (v := ?_) rfl (by kernel_rfl) (by kernel_rfl) (by kernel_rfl) (fun _ _ _ h => h) (Or.inl ⟨by rfl, ?_⟩) (by assumption) ?_
    rotate_left
    · intro w hSw; go_simp; with_reducible rfl
    simp only [Act.put, List.getElem_toArray, List.getElem_cons_zero, List.getElem_cons_succ, List.setIfInBounds_toArray, List.set_cons_zero, List.set_cons_succ]
    refine wpAnyH_take (i := 8) (oi := _) (v := ?_) rfl (by kernel_rfl) (by kernel_rfl) (by kernel_rfl) (fun _ _ _ h => h) (Or.inl ⟨by rfl, ?_⟩) (by assumption) ?_
    rotate_left
    · intro w hSw; go_simp; with_reducible rfl
    simp only [Act.put, List.getElem_toArray, List.getElem_cons_zero, List.getElem_cons_succ, List.setIfInBounds_toArray, List.set_cons_zero, List.set_cons_succ]
    refine wpAnyH_take (i := 11) (oi := _) (v := ?_) rfl (by kernel_rfl) (by kernel_rfl) (by kernel_rfl) (fun _ _ _ h => h) (Or.inl ⟨by rfl, ?_⟩) (by assumption) ?_
    rotate_left
    · intro w hSw; go_simp; with_reducible rfl
    simp only [Act.put, List.getElem_toArray, List.getElem_cons_zero, List.getElem_cons_succ, List.setIfInBounds_toArray, List.set_cons_zero, List.set_cons_succ]
    refine wpAnyH_take (i := 12) (oi := _) (v := ?_) rfl (by kernel_rfl) (by kernel_rfl) (by kernel_rfl) (fun _ _ _ h => h) (Or.inl ⟨by rfl, ?_⟩) (by assumption) ?_
    rotate_left
    · intro w hSw; go_simp; with_reducible rfl
    simp only [Act.put, List.getElem_toArray, List.getElem_cons_zero, List.getElem_cons_succ, List.setIfInBounds_toArray, List.set_cons_zero, List.set_cons_succ]
    refine wpAnyH_take (i := 13) (oi := _) (v := ?_) rfl (by kernel_rfl) (by kernel_rfl) (by kernel_rfl) (fun _ _ _ h => h) (Or.inl ⟨by rfl, ?_⟩) (by assumption) ?_
    rotate_left
    · intro w hSw; go_simp; with_reducible rfl
    simp only [Act.put, List.getElem_toArray, List.getElem_cons_zero, List.getElem_cons_succ, List.setIfInBounds_toArray, List.set_cons_zero, List.set_cons_succ]
    refine wpAnyH_ready (rs := [9]) (by kernel_rfl) (by simp) ?_
    refine AllReadyH.cons rfl (fun K hK => ?_) AllReadyH.nil
    have hd := H3.out.step (Cls.drew _)
    go_simp
    refine (pick_led hd 3 rfl HB.out HBS.out hn (by omega) ((p : Int) - 1) (by omega) (by omega)).mono ?_
    rintro e w4 ⟨pv, rfl, hp0, hp1, h4⟩
    have hp2 := hp1 (by omega)
    have iw2 : IntKind.i64.wrap (av + 1 + pv) = av + 1 + pv := IntWalk.i64_in _ (by omega)
    obtain ⟨rv, hrv⟩ : ∃ rv : Int, (av + 1 + pv) % (p : Int) = rv := ⟨_, rfl⟩
    have iq1 : (av + 1 + pv).tmod (p : Int) = rv := by rw [Int.tmod_eq_emod_of_nonneg (by omega)]; exact hrv
    have hrb := Int.emod_nonneg (av + 1 + pv) (show (p : Int) ≠ 0 by omega)
    have hrb2 := Int.emod_lt_of_pos (av + 1 + pv) (show (0 : Int) < (p : Int) by omega)
    rw [hrv] at hrb hrb2
    have iw3 : IntKind.i64.wrap rv = rv := IntWalk.i64_in _ (by omega)
    clear hp1 hd
    go_wp2_with fail
    refine hK.out _ _ (⟨h4.cell 0 0 rfl rfl, h4.cell 0 1 rfl rfl⟩) (fun hHeld => ?_)
    clear hK K
    try simp only [Act.put, List.getElem_toArray, List.getElem_cons_zero, List.getElem_cons_succ, List.setIfInBounds_toArray, List.set_cons_zero, List.set_cons_succ]
    refine wpAnyH_take (i := 10) (oi := _) (v := ?_) rfl (by kernel_rfl) (by kernel_rfl) (by kernel_rfl) (fun _ _ _ h => h) (Or.inl ⟨by rfl, ?_⟩) (by assumption) ?_
    rotate_left
    · intro w hSw; go_simp; with_reducible rfl
    simp only [Act.put, List.getElem_toArray, List.getElem_cons_zero, List.getElem_cons_succ, List.setIfInBounds_toArray, List.set_cons_zero, List.set_cons_succ]
    refine wpAnyH_take (i := 14) (oi := _) (v := ?_) rfl (by kernel_rfl) (by kernel_rfl) (by kernel_rfl) (fun _ _ _ h => h) (Or.inl ⟨by rfl, ?_⟩) (by assumption) ?_
    rotate_left
    · intro w hSw; go_simp; with_reducible rfl
    simp only [Act.put, List.getElem_toArray, List.getElem_cons_zero, List.getElem_cons_succ, List.setIfInBounds_toArray, List.set_cons_zero, List.set_cons_succ]
    have y0 := h4.cell 4 0 rfl rfl
    have y1 := h4.cell 4 1 rfl rfl
    have t0 := h4.frozen 4 0 rfl
    have t1 := h4.frozen 4 1 rfl
    have h5 := (h4.set 4 rfl 0 (.slice B p cb)).set 4 rfl 1 (.slice E m d)
    refine wpAnyH_ready (rs := [15]) (by kernel_rfl) (by simp) ?_
    refine AllReadyH.cons rfl (fun K hK => ?_) AllReadyH.nil
    go_simp
    go_wp2_with fail
    refine hK.out _ _ (⟨h5.cell 0 0 rfl rfl, h5.cell 0 1 rfl rfl⟩) (fun hHeld => ?_)
    clear hK K
    try simp only [Act.put, List.getElem_toArray, List.getElem_cons_zero, List.getElem_cons_succ, List.setIfInBounds_toArray, List.set_cons_zero, List.set_cons_succ]
    refine wpAnyH_take (i := 16) (oi := _) (v := ?_) rfl (by kernel_rfl) (by kernel_rfl) (by kernel_rfl) (fun _ _ _ h => h) (Or.inl ⟨by rfl, ?_⟩) (by assumption) ?_
    rotate_left
    · intro w hSw; go_simp; with_reducible rfl
    simp only [Act.put, List.getElem_toArray, List.getElem_cons_zero, List.getElem_cons_succ, List.setIfInBounds_toArray, List.set_cons_zero, List.set_cons_succ]
    refine wpAnyH_take (i := 17) (oi := _) (v := ?_) rfl (by kernel_rfl) (by kernel_rfl) (by kernel_rfl) (fun _ _ _ h => h) (Or.inl ⟨by rfl, ?_⟩) (by assumption) ?_
    rotate_left
    · intro w hSw; go_simp; with_reducible rfl
    simp only [Act.put, List.getElem_toArray, List.getElem_cons_zero, List.getElem_cons_succ, List.setIfInBounds_toArray, List.set_cons_zero, List.set_cons_succ]
    refine wpAnyH_done (by kernel_rfl) ?_ _
    have HE := hid h5
    have v0 := h5.cell 4 0 rfl rfl
    have v1 := h5.cell 4 1 rfl rfl
    clear h5 h4 H3 hHeld y0 y1 t0 t1
    go_wp2_with fail
    exact bodyPost_ret (v := .tuple #[.agg #[.slice B p cb, .slice E m d], .int .i64 av, .int .i64 rv]) (by simp [results, Try.results10, go_sem, v0, v1]) rfl (dr2P.mk ⟨⟨_, _, Led.take2 (HE.out.drop 1)⟩, HXL.out, HFL.out, hp, hm, HXS.out⟩)
  · skip
    go_wp2_with fail
    refine wp_region_held_drew (S := fun w' => w'.cell? ⟨w1.heap.size, 0, none⟩ = some (.slice B p cb) ∧ w'.cell? ⟨w1.heap.size, 1, none⟩ = some (.slice E m d)) (by kernel_rfl) (⟨H2.out.cell 0 0 rfl rfl, H2.out.cell 0 1 rfl rfl⟩) (fun hHeld => ?_)
    refine wpAnyH_take (i := 0) (oi := _) (v := ?_) rfl (by kernel_rfl) (by kernel_rfl) (by kernel_rfl) (fun _ _ _ h => h) (Or.inl ⟨by rfl, ?_⟩) (by assumption) ?_
    rotate_left
    · intro w hSw; go_simp; with_reducible rfl
    simp only [Act.put, List.getElem_toArray, List.getElem_cons_zero, List.setIfInBounds_toArray, List.set_cons_zero, List.set_cons_succ]
    refine wpAnyH_take (i := 1) (oi := _) (v := ?_) rfl (by kernel_rfl) (by kernel_rfl) (by kernel_rfl) (fun _ _ _ h => h) (Or.inl ⟨by rfl, ?_⟩) (by assumption) ?_
    rotate_left
    · intro w hSw; go_simp; with_reducible rfl
    simp only [Act.put, List.getElem_toArray, List.getElem_cons_zero, List.getElem_cons_succ, List.setIfInBounds_toArray, List.set_cons_zero, List.set_cons_succ]
    refine wpAnyH_take (i := 4) (oi := _) (v := ?_) rfl (by kernel_rfl) (by kernel_rfl) (by kernel_rfl) (fun _ _ _ h => h) (Or.inl ⟨by rfl, ?_⟩) (by assumption) ?_
    rotate_left
    · intro w hSw; go_simp; with_reducible rfl
    simp only [Act.put, List.getElem_toArray, List.getElem_cons_zero, List.getElem_cons_succ, List.setIfInBounds_toArray, List.set_cons_zero, List.set_cons_succ]
    refine wpAnyH_ready (rs := [2]) (by kernel_rfl) (by simp) ?_
    refine AllReadyH.cons rfl (fun K hK => ?_) AllReadyH.nil
    have hd := H2.out.step (Cls.drew _)
    go_simp
    refine (pick_led hd 3 rfl HB.out HBS.out hn (by omega) 8 (by decide) (by decide)).mono ?_
    rintro e w4 ⟨av, rfl, ha0, ha1, h4⟩
    have ha2 := ha1 (by omega)
    have iw1 : IntKind.i64.wrap (av - 1) = av - 1 := IntWalk.i64_in _ (by omega)
    clear ha1 hd
    go_wp2_with fail
    refine hK.out _ _ (⟨h4.cell 0 0 rfl rfl, h4.cell 0 1 rfl rfl⟩) (fun hHeld => ?_)
    clear hK K
    try simp only [Act.put, List.getElem_toArray, List.getElem_cons_zero, List.getElem_cons_succ, List.setIfInBounds_toArray, List.set_cons_zero, List.set_cons_succ]
    refine wpAnyH_take (i := 3) (oi := _) (v := ?_) rfl (by kernel_rfl) (by kernel_rfl) (by kernel_rfl) (fun _ _ _ h => h) (Or.inl ⟨by rfl, ?_⟩) (by assumption) ?_
    rotate_left
    · intro w hSw; go_simp; with_reducible rfl
    simp only [Act.put, List.getElem_toArray, List.getElem_cons_zero, List.getElem_cons_succ, List.setIfInBounds_toArray, List.set_cons_zero, List.set_cons_succ]
    refine wpAnyH_ready (rs := [5]) (by kernel_rfl) (by simp) ?_
    refine AllReadyH.cons rfl (fun K hK => ?_) AllReadyH.nil
    go_simp
    refine (pick_led h4 3 rfl HB.out HBS.out hn (by omega) 8 (by decide) (by decide)).mono ?_
    rintro e w5 ⟨bv, rfl, hb0, hb1, h5⟩
    have hb2 := hb1 (by omega)
    have iw2 : IntKind.i64.wrap (bv - 1) = bv - 1 := IntWalk.i64_in _ (by omega)
    clear hb1
    go_wp2_with fail
    refine hK.out _ _ (⟨h5.cell 0 0 rfl rfl, h5.cell 0 1 rfl rfl⟩) (fun hHeld => ?_)
    clear hK K
    try simp only [Act.put, List.getElem_toArray, List.getElem_cons_zero, List.getElem_cons_succ, List.setIfInBounds_toArray, List.set_cons_zero, List.set_cons_succ]
    refine wpAnyH_take (i := 6) (oi := _) (v := ?_) rfl (by kernel_rfl) (by kernel_rfl) (by kernel_rfl) (fun _ _ _ h => h) (Or.inl ⟨by rfl, ?_⟩) (by assumption) ?_
    rotate_left
    · intro w hSw; go_simp; with_reducible rfl
    simp only [Act.put, List.getElem_toArray, List.getElem_cons_zero, List.getElem_cons_succ, List.setIfInBounds_toArray, List.set_cons_zero, List.set_cons_succ]
    have y0 := h5.cell 4 0 rfl rfl
    have y1 := h5.cell 4 1 rfl rfl
    have t0 := h5.frozen 4 0 rfl
    have t1 := h5.frozen 4 1 rfl
    have h6 := (h5.set 4 rfl 0 (.slice B p cb)).set 4 rfl 1 (.slice E m d)
    refine wpAnyH_ready (rs := [7]) (by kernel_rfl) (by simp) ?_
    refine AllReadyH.cons rfl (fun K hK => ?_) AllReadyH.nil
    go_simp
    go_wp2_with fail
    refine hK.out _ _ (⟨h6.cell 0 0 rfl rfl, h6.cell 0 1 rfl rfl⟩) (fun hHeld => ?_)
    clear hK K
    try simp only [Act.put, List.getElem_toArray, List.getElem_cons_zero, List.getElem_cons_succ, List.setIfInBounds_toArray, List.set_cons_zero, List.set_cons_succ]
    refine wpAnyH_take (i := 8) (oi := _) (v := ?_) rfl (by kernel_rfl) (by kernel_rfl) (by kernel_rfl) (fun _ _ _ h => h) (Or.inl ⟨by rfl, ?_⟩) (by assumption) ?_
    rotate_left
    · intro w hSw; go_simp; with_reducible rfl
    simp only [Act.put, List.getElem_toArray, List.getElem_cons_zero, List.getElem_cons_succ, List.setIfInBounds_toArray, List.set_cons_zero, List.set_cons_succ]
    refine wpAnyH_take (i := 9) (oi := _) (v := ?_) rfl (by kernel_rfl) (by kernel_rfl) (by kernel_rfl) (fun _ _ _ h => h) (Or.inl ⟨by rfl, ?_⟩) (by assumption) ?_
    rotate_left
    · intro w hSw; go_simp; with_reducible rfl
    simp only [Act.put, List.getElem_toArray, List.getElem_cons_zero, List.getElem_cons_succ, List.setIfInBounds_toArray, List.set_cons_zero, List.set_cons_succ]
    refine wpAnyH_done (by kernel_rfl) ?_ _
    have HE := hid h6
    have v0 := h6.cell 4 0 rfl rfl
    have v1 := h6.cell 4 1 rfl rfl
    clear h6 h5 h4 hHeld y0 y1 t0 t1
    go_wp2_with fail
    exact bodyPost_ret (v := .tuple #[.agg #[.slice B p cb, .slice E m d], .int .i64 (av - 1), .int .i64 (bv - 1)]) (by simp [results, Try.results10, go_sem, v0, v1]) rfl (dr2P.mk ⟨⟨_, _, Led.take2 (HE.out.drop 1)⟩, HXL.out, HFL.out, hp, hm, HXS.out⟩)
/-- Two nodes and the reader. -/
def endsP (w0 : World) (Q : List Thing) (e : Ending) (w' : World) : Prop := ∃ a b : Int, e = .returned (.tuple #[.int .i64 a, .int .i64 b]) ∧ Led w0 w' Q
theorem endsP.mk {w0 w' : World} {Q : List Thing} {a b : Int} (h : Led w0 w' Q) : endsP w0 Q (.returned (.tuple #[.int .i64 a, .int .i64 b])) w' := ⟨_, _, rfl, h⟩
set_option maxHeartbeats 2000000 in
set_option maxRecDepth 100000 in
theorem ends_led {w0 w : World} {R : List Thing} {g K p cb m d : Nat} {B E : Option Addr} (h : Led w0 w (tCur A n c g K :: R)) (hb : Sees elU w0 w0.heap.size A n bs) (hbs : ∀ x ∈ bs, 0 ≤ x ∧ x ≤ 255) (hn : n ≤ 1048576) (hK : K + 1000 ≤ 1099511627776) (hp : 2 ≤ p ∧ p ≤ 10) :
    Calls Try.prog 80 #[.pointer (some ⟨g, 0, none⟩), .agg #[.slice B p cb, .slice E m d]] w (endsP w0 (tCur A n c g (K + 20) :: R)) := by
  have H0 := hid (h.blk_ w.heap.size rfl 27 #[.slice B p cb, .slice E m d])
  have HB := hid hb
  have HBS := hid hbs
  have q0 := H0.out.cell 0 0 rfl rfl
  clear h hb hbs
  go_enter Try.func80, Try.ntmps80
  go_wp2_with fail
  refine (l1Most_any (p : Int) 1 _).mono ?_
  rintro e w1 ⟨v, rfl, hv, hv2, rfl⟩
  obtain rfl : v = (p : Int) := by omega
  clear hv hv2 q0
  go_wp2_with fail
  refine (pick_led H0.out 1 rfl HB.out HBS.out hn (by omega) (p : Int) (by omega) (by omega)).mono ?_
  rintro e w2 ⟨av, rfl, ha0, ha1, h2⟩
  have ha2 := ha1 (by omega)
  have H2 := hid h2
  have iw0 : IntKind.i64.wrap ((p : Int) - 1) = (p : Int) - 1 := IntWalk.i64_in _ (by omega)
  have iw1 : IntKind.i64.wrap (av + 1) = av + 1 := IntWalk.i64_in _ (by omega)
  have ikz : ((p : Int) == 0) = false := by simp; omega
  have ikz3 : ¬ (p = 0) := by omega
  clear h2 ha1 H0
  go_wp2_with fail
  refine (l1Most_any ((p : Int) - 1) 1 _).mono ?_
  rintro e w3 ⟨v, rfl, hv, hv2, rfl⟩
  obtain rfl : v = (p : Int) - 1 := by omega
  clear hv hv2
  go_wp2_with fail
  refine (pick_led H2.out 1 rfl HB.out HBS.out hn (by omega) ((p : Int) - 1) (by omega) (by omega)).mono ?_
  rintro e w4 ⟨pv, rfl, hp0, hp1, h4⟩
  have hp2 := hp1 (by omega)
  have H4 := hid h4
  have iw2 : IntKind.i64.wrap (av + 1 + pv) = av + 1 + pv := IntWalk.i64_in _ (by omega)
  obtain ⟨rv, hrv⟩ : ∃ rv : Int, (av + 1 + pv) % (p : Int) = rv := ⟨_, rfl⟩
  have iq1 : (av + 1 + pv).tmod (p : Int) = rv := by rw [Int.tmod_eq_emod_of_nonneg (by omega)]; exact hrv
  have hrb := Int.emod_nonneg (av + 1 + pv) (show (p : Int) ≠ 0 by omega)
  have hrb2 := Int.emod_lt_of_pos (av + 1 + pv) (show (0 : Int) < (p : Int) by omega)
  rw [hrv] at hrb hrb2
  have iw3 : IntKind.i64.wrap rv = rv := IntWalk.i64_in _ (by omega)
  clear h4 hp1 H2
  go_wp2_with fail
  refine (pick_led H4.out 1 rfl HB.out HBS.out hn (by omega) 24 (by decide) (by decide)).mono ?_
  rintro e w5 ⟨x, rfl, hx0, hx1, h5⟩
  have H5 := hid h5
  clear h5 hx1 H4
  by_cases c0 : x = 0
  · subst c0
    have HE := hid ((H5.out.drop 1).curUp (K' := K + 20) 0 rfl (by omega))
    go_wp2_with fail
    go_ret2
    exact endsP.mk HE.out
  · have n0 : (x == 0) = false := by simp; exact c0
    by_cases c1 : x = 1
    · subst c1
      have HP := hid (among_blk_led [-1, (p : Int)] H5.out 1 rfl HB.out HBS.out hn (by omega) (by simp) (by simp) 2 _ rfl 3)
      go_wp2_with fail
      refine Calls.mono HP.out ?_
      rintro e w6 ⟨y, -, rfl, h6⟩
      have HE := hid ((h6.drop 1).curUp (K' := K + 20) 0 rfl (by omega))
      clear h6 HP H5
      go_wp2_with fail
      go_ret2
      exact endsP.mk HE.out
    · have n1 : (x == 1) = false := by simp; exact c1
      have HE := hid ((H5.out.drop 1).curUp (K' := K + 20) 0 rfl (by omega))
      clear H5
      go_wp2_with fail
      go_ret2
      exact endsP.mk HE.out
theorem Led.cur2 {w0 w : World} {a b x y : Thing} {R : List Thing} (h : Led w0 w (a :: b :: x :: y :: R)) : Led w0 w (y :: a :: b :: x :: R) := by
  refine h.reix (fun i => if i = 0 then 3 else if i < 4 then i - 1 else i) (fun i j hij => ?_) (fun i t hi => ?_)
  · show (if i = 0 then 3 else if i < 4 then i - 1 else i) ≠ (if j = 0 then 3 else if j < 4 then j - 1 else j)
    split <;> split <;> (try split) <;> (try split) <;> omega
  · match i, hi with
    | 0, hi => exact hi
    | 1, hi => exact hi
    | 2, hi => exact hi
    | 3, hi => exact hi
    | i + 4, hi =>
      show (a :: b :: x :: y :: R)[if i + 4 = 0 then 3 else if i + 4 < 4 then i + 4 - 1 else i + 4]? = some t
      rw [if_neg (by omega), if_neg (by omega)]
      exact hi
set_option maxHeartbeats 2000000 in
set_option maxRecDepth 100000 in
theorem drawMinimumCut_any (w : World) (hb : Sees elU w w.heap.size A n bs) (hbs : ∀ x ∈ bs, 0 ≤ x ∧ x ≤ 255) (hn : n ≤ 1048576) : Calls Try.prog 27 #[.slice A n c] w (dr2P w) := by
  have H0 := hid (((Led.nil w).blk_ w.heap.size rfl 27 #[.slice none 0 0, .slice none 0 0]).cur (w.heap.size + 1) (by simp) A n c)
  have HB := hid hb
  have HBS := hid hbs
  clear hb hbs
  go_enter Try.func27, Try.ntmps27
  go_wp2_with fail
  refine (anyNetwork_led H0.out HB.out HBS.out hn (by omega)).mono ?_
  rintro e w1 ⟨B, p, cb, E, m, d, xs, fs, rfl, hp, hm, hxl, hfl, HX, h1⟩
  have HXL := hid hxl
  have HFL := hid hfl
  have HXS := hid HX
  have H1 := hid (h1.blk_ w1.heap.size rfl 27 #[.slice B p cb, .slice E m d])
  clear h1 H0 hxl hfl HX
  have q0 := H1.out.cell 0 0 rfl rfl
  have q1 := H1.out.cell 0 1 rfl rfl
  have H1b := hid (Led.cur2 H1.out)
  clear H1
  go_wp2_with fail
  refine (ends_led H1b.out HB.out HBS.out hn (by omega) hp).mono ?_
  rintro e w2 ⟨a, b, rfl, h2⟩
  have q0 := h2.cell 1 0 rfl rfl
  have q1 := h2.cell 1 1 rfl rfl
  have y0 := h2.cell 4 0 rfl rfl
  have y1 := h2.cell 4 1 rfl rfl
  have t0 := h2.frozen 4 0 rfl
  have t1 := h2.frozen 4 1 rfl
  have HE := hid ((h2.set 4 rfl 0 (.slice B p cb)).set 4 rfl 1 (.slice E m d))
  clear h2 H1b
  go_wp2_with fail
  exact bodyPost_ret (v := .tuple #[.agg #[.slice B p cb, .slice E m d], .int .i64 a, .int .i64 b]) (by simp [results, Try.results27, go_sem, y0, y1]) rfl (dr2P.mk ⟨⟨_, _, Led.take2 (HE.out.drop 2)⟩, HXL.out, HFL.out, hp, hm, HXS.out⟩)
set_option maxHeartbeats 2000000 in
set_option maxRecDepth 100000 in
theorem drawFibersBetween_any (w : World) (hb : Sees elU w w.heap.size A n bs) (hbs : ∀ x ∈ bs, 0 ≤ x ∧ x ≤ 255) (hn : n ≤ 1048576) : Calls Try.prog 17 #[.slice A n c] w (drLP w) := by
  have H0 := hid (((Led.nil w).blk_ w.heap.size rfl 27 #[.slice none 0 0, .slice none 0 0]).cur (w.heap.size + 1) (by simp) A n c)
  have HB := hid hb
  have HBS := hid hbs
  clear hb hbs
  go_enter Try.func17, Try.ntmps17
  go_wp2_with fail
  refine (anyNetwork_led H0.out HB.out HBS.out hn (by omega)).mono ?_
  rintro e w1 ⟨B, p, cb, E, m, d, xs, fs, rfl, hp, hm, hxl, hfl, HX, h1⟩
  have HXL := hid hxl
  have HFL := hid hfl
  have HXS := hid HX
  have H1 := hid (h1.blk_ w1.heap.size rfl 27 #[.slice B p cb, .slice E m d])
  clear h1 H0 hxl hfl HX
  obtain ⟨i0, hi, hz0, hz1, hz2⟩ := info_parts int_info
  have H2 := hid (H1.out.empty elInt 3 (w1.heap.size + 1) (by simp) w.heap.size (by have := H1.out.bl.size; simp at this; omega))
  clear H1
  go_wp2_with fail
  go_loopw [6, 7] (fun v i wr => ∃ (k K' : Nat) (l : List Int), k ≤ p ∧ i = .int .i64 k ∧ l.length ≤ k ∧ K' ≤ 1000 + 3000 + 10 * k ∧ Hid (Led w wr [tOwns elInt w.heap.size 3 v l, tBlk w1.heap.size 27 #[.slice B p cb, .slice E m d], tOwns elFib w.heap.size 62 (.slice E m d) fs, tOwns elStr w.heap.size 9 (.slice B p cb) xs, tCur A n c (w.heap.size + 1) K', tBlk w.heap.size 27 #[.slice none 0 0, .slice none 0 0]])) (fun _ i _ => p - (intOf i).toNat)
  case atStart => exact ⟨0, _, [], by omega, rfl, by simp, by omega, H2⟩
  case round =>
    clear H2
    obtain ⟨k, K', l, hk, rfl, hl, hK, HS⟩ := hrel
    obtain ⟨V, cV, rfl, hcV⟩ := HS.out.form 0 rfl
    have q0 := HS.out.cell 1 0 rfl rfl
    have q1 := HS.out.cell 1 1 rfl rfl
    by_cases hlt : k < p
    · have ip : (k : Int) < (p : Int) := by omega
      go_wp2_with fail
      refine (one_led HS.out 4 rfl HB.out HBS.out hn (by omega) 2 (by decide) (by decide)).mono ?_
      rintro e w2 ⟨t, rfl, h2⟩
      have H2 := hid (h2.blk_ w2.heap.size rfl 3 #[.int .i64 (k : Int)])
      have H2b := hid h2
      have HL := hid hl
      clear h2 HS q0 q1 hl
      cases t
      · go_wp2
        go_roundw
        case rel => exact ⟨k + 1, _, l, by omega, by go_num, by have := HL.out; omega, by omega, H2b⟩
        case measure => simp [intOf]; omega
      · go_wp2_with (first
          | (at_builtin; refine wpList_append_led rfl _ _ 33 rfl H2.out 1 rfl Try.underlying33 hi hz0 hz1 (by rw [hz2]; decide) rfl rfl rfl (show Sees elInt _ _ _ 1 [(k : Int)] from sees_new elInt _ _ _ _ rfl) (by have := HL.out; omega) H2.out.bl.size ?_)
          | go_in)
        intro A4 c4 w4 h4
        have H4 := hid (h4.drop 1)
        have hl4 : (l ++ [(k : Int)]).length ≤ k + 1 := by rw [List.length_append]; have := HL.out; simp; omega
        clear h4 H2 H2b
        go_wp2
        go_roundw
        case rel => exact ⟨k + 1, _, l ++ [(k : Int)], by omega, by go_num, hl4, by omega, H4⟩
        case measure => simp [intOf]; omega
    · have ip : ¬ ((k : Int) < (p : Int)) := by omega
      go_wp2_with fail
      refine (one_led HS.out 4 rfl HB.out HBS.out hn (by omega) 24 (by decide) (by decide)).mono ?_
      rintro e w2 ⟨t, rfl, h2⟩
      have H2 := hid h2
      have HL : Hid (l.length ≤ 10) := by unfold Hid; omega
      clear h2 HS q0 q1 hl
      cases t
      · skip
        have H9 := hid (H2.out)
        have q0 := H9.out.cell 1 0 rfl rfl
        have q1 := H9.out.cell 1 1 rfl rfl
        have y0 := H9.out.cell 5 0 rfl rfl
        have y1 := H9.out.cell 5 1 rfl rfl
        have t0 := H9.out.frozen 5 0 rfl
        have t1 := H9.out.frozen 5 1 rfl
        have HE := hid ((H9.out.set 5 rfl 0 (.slice B p cb)).set 5 rfl 1 (.slice E m d))
        have hc9 := hcV
        have h39 := (show l.length ≤ 30 by have := HL.out; omega)
        clear H9
        go_wp2_with fail
        exact bodyPost_ret (v := .tuple #[.agg #[.slice B p cb, .slice E m d], .slice V l.length cV]) (by simp [results, Try.results17, go_sem, y0, y1]) rfl (drLP.mk ⟨⟨_, _, Led.take2 (HE.out.drop 2)⟩, HXL.out, HFL.out, hp, hm, HXS.out⟩ (HE.out.sees 0 rfl (rfl)) hc9 h39)
      · go_wp2_with fail
        refine (pick_led H2.out 4 rfl HB.out HBS.out hn (by omega) 10 (by decide) (by decide)).mono ?_
        rintro e w3 ⟨pv, rfl, hp0, hp1, h3⟩
        have hp2 := hp1 (by decide)
        have iw : IntKind.i64.wrap (pv - 1) = pv - 1 := IntWalk.i64_in _ (by omega)
        have H3 := hid (h3.blk_ w3.heap.size rfl 3 #[.int .i64 (pv - 1)])
        clear h3 H2 hp1
        go_wp2_with (first
          | (at_builtin; refine wpList_append_led rfl _ _ 33 rfl H3.out 1 rfl Try.underlying33 hi hz0 hz1 (by rw [hz2]; decide) rfl rfl rfl (show Sees elInt _ _ _ 1 [pv - 1] from sees_new elInt _ _ _ _ rfl) (by have := HL.out; omega) H3.out.bl.size ?_)
          | go_in)
        intro A4 c4 w4 h4
        have hlen : (l ++ [pv - 1]).length = l.length + 1 := by simp
        obtain ⟨l2, hl2⟩ : ∃ l2, l2 = l ++ [pv - 1] := ⟨_, rfl⟩
        rw [← hl2] at h4 hlen
        rw [← hlen] at h4 ⊢
        have H4 := hid (h4.drop 1)
        have hc2 : l2.length ≤ c4 := by obtain ⟨_, _, hv, h1⟩ := H4.out.form 0 rfl; injection hv with _ _ h3; omega
        have HL2 : Hid (l2.length ≤ 30) := by unfold Hid; have := HL.out; omega
        clear h4 H3 hl2 hlen
        have H9 := hid (H4.out)
        have q0 := H9.out.cell 1 0 rfl rfl
        have q1 := H9.out.cell 1 1 rfl rfl
        have y0 := H9.out.cell 5 0 rfl rfl
        have y1 := H9.out.cell 5 1 rfl rfl
        have t0 := H9.out.frozen 5 0 rfl
        have t1 := H9.out.frozen 5 1 rfl
        have HE := hid ((H9.out.set 5 rfl 0 (.slice B p cb)).set 5 rfl 1 (.slice E m d))
        have hc9 := hc2
        have h39 := HL2.out
        clear H9
        go_wp2_with fail
        exact bodyPost_ret (v := .tuple #[.agg #[.slice B p cb, .slice E m d], .slice A4 l2.length c4]) (by simp [results, Try.results17, go_sem, y0, y1]) rfl (drLP.mk ⟨⟨_, _, Led.take2 (HE.out.drop 2)⟩, HXL.out, HFL.out, hp, hm, HXS.out⟩ (HE.out.sees 0 rfl (rfl)) hc9 h39)
end
end Go.Proofs.Ytfepilpllfiegaa
/- Lists of numbers: slices.Index, slices.Contains, l1Has, l1Rising, isSet, toIntS, walked. Conditions: none (toIntS: at most 1048576). -/
namespace Go.Proofs.Ytfepilpllfiegaa
open Go.RowKit
section
variable {B n c : Nat} {A : Option Addr} {xs : List Int}
theorem indexI_any (s : Int) (w : World) (hA : Sees elInt w B A n xs) (hn : n ≤ maxLen) :
    Calls Try.prog 131 #[.slice A n c, .int .i64 s] w fun e w' => e = .returned (.int .i64 (findI xs s)) ∧ w = w' := by
  unfold maxLen at hn
  go_enter Try.func131, Try.ntmps131
  go_wp2
  go_loop [8] (fun i => ∃ k : Nat, k ≤ n ∧ i = .int .i64 k ∧ Hid (noneTo xs s k)) (fun i => n - (intOf i).toNat)
  case atStart => exact ⟨0, Nat.zero_le _, rfl, noneTo_zero⟩
  case round =>
    obtain ⟨k, hk, rfl, hno⟩ := hrel
    by_cases hlt : k < n
    · obtain ⟨b, o, rfl, _, hx⟩ := hA.at_ hlt
      obtain ⟨x, hxk⟩ : ∃ x, xs[k]? = some x := ⟨xs[k]'(by rw [hA.len]; exact hlt), List.getElem?_eq_getElem _⟩
      have hc := hx k x hxk 0 _ rfl
      simp only [elInt, Nat.mul_one, Nat.add_zero] at hc
      clear hx
      by_cases heq : x = s
      · subst heq
        have HF := hid (findI_at hno hxk)
        clear hxk
        go_wp2
        go_ret
        exact ⟨by rw [HF.out]; rfl, rfl⟩
      · have hne : (s == x) = false := by simp; exact fun e => heq e.symm
        have HN := hid (noneTo_succ hno hxk heq)
        clear hxk hno
        go_wp2
        go_round
        case rel => exact ⟨k + 1, by omega, by go_num, HN⟩
        case measure => simp [intOf]; omega
    · have HF : Hid (findI xs s = -1) := findI_none hA.len (by obtain rfl : k = n := (by omega); exact hno.out)
      go_wp2
      go_ret
      exact ⟨by rw [HF.out]; rfl, rfl⟩
theorem containsI_any (s : Int) (w : World) (hA : Sees elInt w B A n xs) (hn : n ≤ maxLen) :
    Calls Try.prog 66 #[.slice A n c, .int .i64 s] w fun e w' => e = .returned (.bool (hasB xs s)) ∧ w = w' := by
  go_enter Try.func66, Try.ntmps66
  go_wp2_with (go_at_call 131; refine (indexI_any s _ hA hn).mono ?_; rintro e w' ⟨rfl, rfl⟩)
  go_ret
  exact ⟨rfl, rfl⟩
theorem l1Has_any (s : Int) (w : World) (hA : Sees elInt w B A n xs) (hn : n ≤ maxLen) :
    Calls Try.prog 69 #[.slice A n c, .int .i64 s] w fun e w' => e = .returned (.bool (hasB xs s)) ∧ w = w' := by
  unfold maxLen at hn
  go_enter Try.func69, Try.ntmps69
  go_wp2
  go_loop [5] (fun i => ∃ k : Nat, k ≤ n ∧ i = .int .i64 k ∧ Hid (noneTo xs s k)) (fun i => n - (intOf i).toNat)
  case atStart => exact ⟨0, Nat.zero_le _, rfl, noneTo_zero⟩
  case round =>
    obtain ⟨k, hk, rfl, hno⟩ := hrel
    by_cases hlt : k < n
    · obtain ⟨b, o, rfl, _, hx⟩ := hA.at_ hlt
      obtain ⟨x, hxk⟩ : ∃ x, xs[k]? = some x := ⟨xs[k]'(by rw [hA.len]; exact hlt), List.getElem?_eq_getElem _⟩
      have hc := hx k x hxk 0 _ rfl
      simp only [elInt, Nat.mul_one, Nat.add_zero] at hc
      clear hx
      by_cases heq : x = s
      · subst heq
        have HF : Hid (hasB xs x = true) := hasB_iff.2 (List.mem_of_getElem? hxk)
        clear hxk
        go_wp2
        go_ret
        exact ⟨by rw [HF.out]; rfl, rfl⟩
      · have hne : (x == s) = false := by simp; exact heq
        have HN := hid (noneTo_succ hno hxk heq)
        clear hxk hno
        go_wp2
        go_round
        case rel => exact ⟨k + 1, by omega, by go_num, HN⟩
        case measure => simp [intOf]; omega
    · have HF : Hid (hasB xs s = false) := by
        unfold Hid
        cases g : hasB xs s
        · rfl
        · exact absurd (hasB_iff.1 g) (noneTo_not hA.len (by obtain rfl : k = n := (by omega); exact hno.out))
      go_wp2
      go_ret
      exact ⟨by rw [HF.out]; rfl, rfl⟩
/-- Number k lies within bounds and above the one before it. -/
def riseAt (lo hi : Int) (xs : List Int) (k : Nat) : Bool := inB lo hi (xs.getD k 0) && !(decide (0 < k) && decide (xs.getD k 0 ≤ xs.getD (k - 1) 0))
def risB (lo hi : Int) (xs : List Int) : Bool := allB (riseAt lo hi xs) xs.length
set_option maxHeartbeats 1000000 in
set_option maxRecDepth 100000 in
theorem l1Rising_any (lo hi : Int) (w : World) (hA : Sees elInt w B A n xs) (hn : n ≤ 1048576) :
    Calls Try.prog 68 #[.slice A n c, .int .i64 lo, .int .i64 hi] w fun e w' => e = .returned (.bool (risB lo hi xs)) ∧ Below w.heap.size w w' := by
  have hl := hA.len
  go_enter Try.func68, Try.ntmps68
  go_wp2
  go_loopw [7] (fun i wr => ∃ k : Nat, k ≤ n ∧ i = .int .i64 k ∧ Hid (allTo (riseAt lo hi xs) k) ∧ Below w.heap.size w wr) (fun i _ => n - (intOf i).toNat)
  case atStart => exact ⟨0, Nat.zero_le _, rfl, allTo_zero _, Below.refl _ _⟩
  case round =>
    obtain ⟨k, hk, rfl, hno, hb⟩ := hrel
    by_cases hlt : k < n
    · obtain ⟨b, o, rfl, _, hx⟩ := hA.at_ hlt
      obtain ⟨x, hxk⟩ := get_of (k := k) hl hlt
      have hc := bl_cell hb (hx k x hxk 0 _ rfl)
      simp only [elInt, Nat.mul_one, Nat.add_zero] at hc
      have T0 : ∀ w', Cls wr w' → w'.cell? ⟨b, o + k, none⟩ = some (.int .i64 x) := fun _ h => h.cell hc
      have iz : (k : Int) < (n : Int) := by omega
      cases g1 : inB lo hi x
      · have HF : Hid (risB lo hi xs = false) := allB_no (k := k) (by omega) (by unfold riseAt; rw [getD_of hxk, g1]; rfl)
        clear hx hxk hno hl
        go_wp2
        refine region_cls (by kernel_rfl) (by kernel_rfl) ?_
        repeat (first
          | ((with_reducible refine quiet_pos ?_ (fun K hK => ?_))
             · rfl
             apply Exists.intro
             refine ⟨fun w' hw' => ?_, ?_⟩
             · go_simp
               first
                 | with_reducible rfl
                 | (go_at_call 78; exact hw'.same (l1In_any _ _ _ _))
             simp only [Act.put, List.setIfInBounds_toArray, List.set_cons_zero, List.set_cons_succ]
             refine hK _ ?_; clear hK K)
          | ((with_reducible refine quiet_neg ?_ (fun K hK => ?_))
             · rfl
             simp only [Act.put, List.setIfInBounds_toArray, List.set_cons_zero, List.set_cons_succ]
             refine hK _ ?_; clear hK K))
        with_reducible refine wpQuiet_nil ?_
        intro w3 hw3
        go_wp2
        go_ret
        exact ⟨by rw [HF.out]; rfl, bl_then hb hw3⟩
      · by_cases hk0 : 0 < k
        · obtain ⟨y, hyk⟩ := get_of (k := k - 1) hl (by omega)
          have hcy := bl_cell hb (hx (k - 1) y hyk 0 _ rfl)
          simp only [elInt, Nat.mul_one, Nat.add_zero] at hcy
          have i0 : decide ((0 : Nat) < k) = true := decide_eq_true hk0
          have i1 : IntKind.i64.wrap ((k : Int) - 1) = (k : Int) - 1 := IntWalk.i64_in _ (by omega)
          have i2 : (0 : Int) ≤ (k : Int) - 1 := by omega
          have i3 : ((k : Int) - 1).toNat = k - 1 := by omega
          have i4 : (k : Int) - 1 < (n : Int) := by omega
          have i5 : (1 : Int) ≤ (k : Int) := by omega
          have i6 : 1 ≤ k := by omega
          have T1 : ∀ w', Cls wr w' → w'.cell? ⟨b, o + (k - 1), none⟩ = some (.int .i64 y) := fun _ h => h.cell hcy
          cases g2 : decide (x ≤ y)
          · have HN : Hid (allTo (riseAt lo hi xs) (k + 1)) := allTo_succ hno.out (by unfold riseAt; rw [getD_of hxk, getD_of hyk, g1, g2, i0]; rfl)
            clear hx hxk hyk hno hl
            go_wp2
            refine region_cls (by kernel_rfl) (by kernel_rfl) ?_
            repeat (first
              | ((with_reducible refine quiet_pos ?_ (fun K hK => ?_))
                 · rfl
                 apply Exists.intro
                 refine ⟨fun w' hw' => ?_, ?_⟩
                 · go_simp
                   first
                     | with_reducible rfl
                     | (go_at_call 78; exact hw'.same (l1In_any _ _ _ _))
                 simp only [Act.put, List.setIfInBounds_toArray, List.set_cons_zero, List.set_cons_succ]
                 refine hK _ ?_; clear hK K)
              | ((with_reducible refine quiet_neg ?_ (fun K hK => ?_))
                 · rfl
                 simp only [Act.put, List.setIfInBounds_toArray, List.set_cons_zero, List.set_cons_succ]
                 refine hK _ ?_; clear hK K))
            with_reducible refine wpQuiet_nil ?_
            intro w3 hw3
            go_wp2
            go_roundw
            case rel => exact ⟨k + 1, by omega, by go_num, HN, bl_then hb hw3⟩
            case measure => simp [intOf]; omega
          · have HF : Hid (risB lo hi xs = false) := allB_no (k := k) (by omega) (by unfold riseAt; rw [getD_of hxk, getD_of hyk, g1, g2, i0]; rfl)
            clear hx hxk hyk hno hl
            go_wp2
            refine region_cls (by kernel_rfl) (by kernel_rfl) ?_
            repeat (first
              | ((with_reducible refine quiet_pos ?_ (fun K hK => ?_))
                 · rfl
                 apply Exists.intro
                 refine ⟨fun w' hw' => ?_, ?_⟩
                 · go_simp
                   first
                     | with_reducible rfl
                     | (go_at_call 78; exact hw'.same (l1In_any _ _ _ _))
                 simp only [Act.put, List.setIfInBounds_toArray, List.set_cons_zero, List.set_cons_succ]
                 refine hK _ ?_; clear hK K)
              | ((with_reducible refine quiet_neg ?_ (fun K hK => ?_))
                 · rfl
                 simp only [Act.put, List.setIfInBounds_toArray, List.set_cons_zero, List.set_cons_succ]
                 refine hK _ ?_; clear hK K))
            with_reducible refine wpQuiet_nil ?_
            intro w3 hw3
            go_wp2
            go_ret
            exact ⟨by rw [HF.out]; rfl, bl_then hb hw3⟩
        · have hk00 : k = 0 := by omega
          have e6 : decide (0 < k) = false := by simp; omega
          have HN : Hid (allTo (riseAt lo hi xs) (k + 1)) := allTo_succ hno.out (by unfold riseAt; rw [getD_of hxk, g1, e6]; rfl)
          clear hx hxk hno hl hk0 hk00
          go_wp2
          refine region_cls (by kernel_rfl) (by kernel_rfl) ?_
          repeat (first
            | ((with_reducible refine quiet_pos ?_ (fun K hK => ?_))
               · rfl
               apply Exists.intro
               refine ⟨fun w' hw' => ?_, ?_⟩
               · go_simp
                 first
                   | with_reducible rfl
                   | (go_at_call 78; exact hw'.same (l1In_any _ _ _ _))
               simp only [Act.put, List.setIfInBounds_toArray, List.set_cons_zero, List.set_cons_succ]
               refine hK _ ?_; clear hK K)
            | ((with_reducible refine quiet_neg ?_ (fun K hK => ?_))
               · rfl
               simp only [Act.put, List.setIfInBounds_toArray, List.set_cons_zero, List.set_cons_succ]
               refine hK _ ?_; clear hK K))
          with_reducible refine wpQuiet_nil ?_
          intro w3 hw3
          go_wp2
          go_roundw
          case rel => exact ⟨k + 1, by omega, by go_num, HN, bl_then hb hw3⟩
          case measure => simp [intOf]; omega
    · have HF : Hid (risB lo hi xs = true) := allB_yes hno.out (by omega)
      go_wp2
      go_ret
      exact ⟨by rw [HF.out]; rfl, hb⟩
set_option maxHeartbeats 1000000 in
set_option maxRecDepth 100000 in
theorem isSet_any (hi : Nat) (w : World) (hA : Sees elInt w B A n xs) (hn : n ≤ 1048576) (hh : hi ≤ 1048576) :
    Calls Try.prog 65 #[.slice A n c, .int .i64 hi] w fun e w' => e = .returned (.bool (risB 0 ((hi : Int) - 1) xs)) ∧ w = w' := by
  have hl := hA.len
  go_enter Try.func65, Try.ntmps65
  go_wp2
  go_loop [9] (fun i => ∃ k : Nat, k ≤ n ∧ i = .int .i64 k ∧ Hid (allTo (riseAt 0 ((hi : Int) - 1) xs) k)) (fun i => n - (intOf i).toNat)
  case atStart => exact ⟨0, Nat.zero_le _, rfl, allTo_zero _⟩
  case round =>
    obtain ⟨k, hk, rfl, hno⟩ := hrel
    by_cases hlt : k < n
    · obtain ⟨b, o, rfl, _, hx⟩ := hA.at_ hlt
      obtain ⟨x, hxk⟩ := get_of (k := k) hl hlt
      have hc := hx k x hxk 0 _ rfl
      simp only [elInt, Nat.mul_one, Nat.add_zero] at hc
      cases g1 : inB 0 ((hi : Int) - 1) x
      · have HF : Hid (risB 0 ((hi : Int) - 1) xs = false) := allB_no (k := k) (by omega) (by unfold riseAt; rw [getD_of hxk, g1]; rfl)
        clear hx hxk hno hl
        go_wp2_with (go_at_call 107; refine (within_any _ _ _ _).mono ?_; rintro e w' ⟨rfl, rfl⟩; rw [g1])
        go_ret
        exact ⟨by rw [HF.out]; rfl, rfl⟩
      · by_cases hk0 : 0 < k
        · obtain ⟨y, hyk⟩ := get_of (k := k - 1) hl (by omega)
          have hcy := hx (k - 1) y hyk 0 _ rfl
          simp only [elInt, Nat.mul_one, Nat.add_zero] at hcy
          have i0 : decide ((0 : Nat) < k) = true := decide_eq_true hk0
          have i1 : IntKind.i64.wrap ((k : Int) - 1) = (k : Int) - 1 := IntWalk.i64_in _ (by omega)
          have i2 : (0 : Int) ≤ (k : Int) - 1 := by omega
          have i3 : ((k : Int) - 1).toNat = k - 1 := by omega
          have i4 : (k : Int) - 1 < (n : Int) := by omega
          have i5 : (1 : Int) ≤ (k : Int) := by omega
          have i6 : 1 ≤ k := by omega
          cases g2 : decide (x ≤ y)
          · have HN : Hid (allTo (riseAt 0 ((hi : Int) - 1) xs) (k + 1)) := allTo_succ hno.out (by unfold riseAt; rw [getD_of hxk, getD_of hyk, g1, g2, i0]; rfl)
            clear hx hxk hyk hno hl
            go_wp2_with (go_at_call 107; refine (within_any _ _ _ _).mono ?_; rintro e w' ⟨rfl, rfl⟩; rw [g1])
            go_round
            case rel => exact ⟨k + 1, by omega, by go_num, HN⟩
            case measure => simp [intOf]; omega
          · have HF : Hid (risB 0 ((hi : Int) - 1) xs = false) := allB_no (k := k) (by omega) (by unfold riseAt; rw [getD_of hxk, getD_of hyk, g1, g2, i0]; rfl)
            clear hx hxk hyk hno hl
            go_wp2_with (go_at_call 107; refine (within_any _ _ _ _).mono ?_; rintro e w' ⟨rfl, rfl⟩; rw [g1])
            go_ret
            exact ⟨by rw [HF.out]; rfl, rfl⟩
        · have e6 : decide (0 < k) = false := by simp; omega
          have HN : Hid (allTo (riseAt 0 ((hi : Int) - 1) xs) (k + 1)) := allTo_succ hno.out (by unfold riseAt; rw [getD_of hxk, g1, e6]; rfl)
          clear hx hxk hno hl hk0
          go_wp2_with (go_at_call 107; refine (within_any _ _ _ _).mono ?_; rintro e w' ⟨rfl, rfl⟩; rw [g1])
          go_round
          case rel => exact ⟨k + 1, by omega, by go_num, HN⟩
          case measure => simp [intOf]; omega
    · have HF : Hid (risB 0 ((hi : Int) - 1) xs = true) := allB_yes hno.out (by omega)
      go_wp2
      go_ret
      exact ⟨by rw [HF.out]; rfl, rfl⟩
end
end Go.Proofs.Ytfepilpllfiegaa
