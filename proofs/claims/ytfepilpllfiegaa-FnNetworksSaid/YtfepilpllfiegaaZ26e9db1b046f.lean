/- Lemmas and walks that the claim rests on, laid together. Conditions: none. -/
import Derived.Test.YtfepilpllfiegaaZb35040aea780
import Derived.Test.YtfepilpllfiegaaRows
import Derived.Test.YtfepilpllfiegaaZc731a5b1582e
/- What the law of adding draws: a network and a fiber. Conditions: at most 1048576 bytes to draw from. By drawg.py. -/
namespace Go.Proofs.Ytfepilpllfiegaa
open Go.RowKit
def drFP (w : World) (e : Ending) (w' : World) : Prop := ∃ (B : Option Addr) (p cb : Nat) (E : Option Addr) (m d : Nat) (xs : List ByteArray) (fs : List Fib) (f : Fib), e = .returned (.tuple #[.agg #[.slice B p cb, .slice E m d], .agg #[.int .i64 f.a, .int .i64 f.b, .int .i64 f.len, .int .i64 f.risk]]) ∧ DrN w w' B p cb E m d xs fs
theorem drFP.mk {w w' : World} {B E : Option Addr} {p cb m d : Nat} {xs : List ByteArray} {fs : List Fib} (f : Fib) (h : DrN w w' B p cb E m d xs fs) : drFP w (.returned (.tuple #[.agg #[.slice B p cb, .slice E m d], .agg #[.int .i64 f.a, .int .i64 f.b, .int .i64 f.len, .int .i64 f.risk]])) w' := ⟨_, _, _, _, _, _, _, _, f, rfl, h⟩
section
variable {A : Option Addr} {n c : Nat} {bs : List Int}
set_option maxHeartbeats 1000000 in
set_option maxRecDepth 100000 in
theorem drawAddFiber_any (w : World) (hb : Sees elU w w.heap.size A n bs) (hbs : ∀ x ∈ bs, 0 ≤ x ∧ x ≤ 255) (hn : n ≤ 1048576) : Calls Try.prog 44 #[.slice A n c] w (drFP w) := by
  have H0 := hid ((((Led.nil w).blk_ w.heap.size rfl 27 #[.slice none 0 0, .slice none 0 0]).blk_ (w.heap.size + 1) (by simp) 62 #[.int .i64 0, .int .i64 0, .int .i64 0, .int .i64 0]).cur (w.heap.size + 1 + 1) (by simp) A n c)
  have HB := hid hb
  have HBS := hid hbs
  clear hb hbs
  go_enter Try.func44, Try.ntmps44
  go_wp2_with fail
  refine (anyNetwork_led H0.out HB.out HBS.out hn (by omega)).mono ?_
  rintro e w1 ⟨B, p, cb, E, m, d, xs, fs, rfl, hp, hm, hxl, hfl, HX, h1⟩
  have HXL := hid hxl
  have HFL := hid hfl
  have HXS := hid HX
  have H1 := hid (h1.blk_ w1.heap.size rfl 27 #[.slice B p cb, .slice E m d])
  clear h1 H0 hxl hfl HX
  -- ledger: [nbox, fib, str, cur, rF, rN]
  go_wp2_with fail
  refine (pick_led H1.out 3 rfl HB.out HBS.out hn (by omega) 4 (by decide) (by decide)).mono ?_
  rintro e w2 ⟨av, rfl, ha0, ha1, h2⟩
  have ha2 := ha1 (by decide)
  have H2 := hid h2
  clear h2 H1 ha1
  have iw1 : IntKind.i64.wrap (av + 1) = av + 1 := IntWalk.i64_in _ (by omega)
  go_wp2_with fail
  refine (pick_led H2.out 3 rfl HB.out HBS.out hn (by omega) 3 (by decide) (by decide)).mono ?_
  rintro e w3 ⟨bv, rfl, hb0, hb1, h3⟩
  have hb2 := hb1 (by decide)
  have H3 := hid h3
  clear h3 H2 hb1
  have iw2 : IntKind.i64.wrap (av + 1 + bv) = av + 1 + bv := IntWalk.i64_in _ (by omega)
  go_wp2_with fail
  refine (pick_led H3.out 3 rfl HB.out HBS.out hn (by omega) 8 (by decide) (by decide)).mono ?_
  rintro e w4 ⟨lv, rfl, hl0, hl1, h4⟩
  have hl2 := hl1 (by decide)
  have H4 := hid h4
  clear h4 H3 hl1
  have iw3 : IntKind.i64.wrap (1 + lv) = 1 + lv := IntWalk.i64_in _ (by omega)
  have iw4 : IntKind.i64.wrap (100 * (1 + lv)) = 100 * (1 + lv) := IntWalk.i64_in _ (by omega)
  go_wp2_with fail
  refine (pick_led H4.out 3 rfl HB.out HBS.out hn (by omega) 3 (by decide) (by decide)).mono ?_
  rintro e w5 ⟨rv, rfl, hr0, hr1, h5⟩
  have hr2 := hr1 (by decide)
  have H5 := hid (h5.blk_ w5.heap.size rfl 62 #[.int .i64 av, .int .i64 (av + 1 + bv), .int .i64 (100 * (1 + lv)), .int .i64 rv])
  clear h5 H4 hr1
  go_wp2_with fail
  refine (pick_led H5.out 4 rfl HB.out HBS.out hn (by omega) 10 (by decide) (by decide)).mono ?_
  rintro e w6 ⟨x, rfl, hx0, hx1, h6⟩
  have H6 := hid h6
  clear h6 H5 hx1 hx0
  by_cases c0 : x = 0
  · subst c0
    go_wp2_with fail
    refine (pick_led H6.out 4 rfl HB.out HBS.out hn (by omega) 8 (by decide) (by decide)).mono ?_
    rintro e w7 ⟨b2, rfl, hc0, hc1, h7⟩
    have H8 := hid h7
    have g1 := H8.out.cell 0 1 rfl rfl
    have g2 := H8.out.frozen 0 1 rfl
    clear h7 H6 hc1 hc0
    have H7 := hid (H8.out.set 0 rfl 1 (.int .i64 b2))
    have q0 := H7.out.cell 1 0 rfl rfl
    have q1 := H7.out.cell 1 1 rfl rfl
    have e0 := H7.out.cell 0 0 rfl rfl
    have e1 := H7.out.cell 0 1 rfl rfl
    have e2 := H7.out.cell 0 2 rfl rfl
    have e3 := H7.out.cell 0 3 rfl rfl
    go_wp2_with fail
    generalize w7.setCell ⟨w5.heap.size, 1, none⟩ (.int .i64 b2) = WW at *
    refine wp_region_held_drew (S := fun w' => (w'.cell? ⟨w1.heap.size, 0, none⟩ = some (.slice B p cb) ∧ w'.cell? ⟨w1.heap.size, 1, none⟩ = some (.slice E m d)) ∧ (w'.cell? ⟨w5.heap.size, 0, none⟩ = some (.int .i64 (av)) ∧ w'.cell? ⟨w5.heap.size, 1, none⟩ = some (.int .i64 (b2))) ∧ w'.cell? ⟨w5.heap.size, 2, none⟩ = some (.int .i64 (100 * (1 + lv))) ∧ w'.cell? ⟨w5.heap.size, 3, none⟩ = some (.int .i64 (rv))) (by kernel_rfl) (⟨⟨H7.out.cell 1 0 rfl rfl, H7.out.cell 1 1 rfl rfl⟩, ⟨H7.out.cell 0 0 rfl rfl, H7.out.cell 0 1 rfl rfl⟩, H7.out.cell 0 2 rfl rfl, H7.out.cell 0 3 rfl rfl⟩) (fun hHeld => ?_)
    refine wpAnyH_take (i := 0) (oi := _) (v := ?_) rfl (by kernel_rfl) (by kernel_rfl) (by kernel_rfl) (fun _ _ _ h => h) (Or.inl ⟨by rfl, ?_⟩) (by assumption) ?_
    rotate_left
    · intro w hSw; go_simp; with_reducible rfl
    simp only [Act.put, List.getElem_toArray, List.getElem_cons_zero, List.setIfInBounds_toArray, List.set_cons_zero, List.set_cons_succ]
    refine wpAnyH_take (i := 1) (oi := _) (v := ?_) rfl (by kernel_rfl) (by kernel_rfl) (by kernel_rfl) (fun _ _ _ h => h) (Or.inl ⟨by rfl, ?_⟩) (by assumption) ?_
    rotate_left
    · intro w hSw; go_simp; with_reducible rfl
    simp only [Act.put, List.getElem_toArray, List.getElem_cons_zero, List.getElem_cons_succ, List.setIfInBounds_toArray, List.set_cons_zero, List.set_cons_succ]
    have y0 := H7.out.cell 6 0 rfl rfl
    have y1 := H7.out.cell 6 1 rfl rfl
    have t0 := H7.out.frozen 6 0 rfl
    have t1 := H7.out.frozen 6 1 rfl
    have h8a := (H7.out.set 6 rfl 0 (.slice B p cb)).set 6 rfl 1 (.slice E m d)
    have h8 := h8a.step (Cls.drew _)
    refine wpAnyH_ready (rs := [2]) (by kernel_rfl) (by simp) ?_
    refine AllReadyH.cons rfl (fun K hK => ?_) AllReadyH.nil
    go_simp
    go_wp2_with fail
    refine hK.out _ _ (⟨⟨h8.cell 1 0 rfl rfl, h8.cell 1 1 rfl rfl⟩, ⟨h8.cell 0 0 rfl rfl, h8.cell 0 1 rfl rfl⟩, h8.cell 0 2 rfl rfl, h8.cell 0 3 rfl rfl⟩) (fun hHeld => ?_)
    clear hK K
    try simp only [Act.put, List.getElem_toArray, List.getElem_cons_zero, List.getElem_cons_succ, List.setIfInBounds_toArray, List.set_cons_zero, List.set_cons_succ]
    have z0 := h8a.cell 5 0 rfl rfl
    have f0 := h8a.frozen 5 0 rfl
    have z1 := h8a.cell 5 1 rfl rfl
    have f1 := h8a.frozen 5 1 rfl
    have z2 := h8a.cell 5 2 rfl rfl
    have f2 := h8a.frozen 5 2 rfl
    have z3 := h8a.cell 5 3 rfl rfl
    have f3 := h8a.frozen 5 3 rfl
    have h9a := (((h8a.set 5 rfl 0 (.int .i64 (av))).set 5 rfl 1 (.int .i64 (b2))).set 5 rfl 2 (.int .i64 (100 * (1 + lv)))).set 5 rfl 3 (.int .i64 (rv))
    have h9 := h9a.step (Cls.drew _)
    refine wpAnyH_ready (rs := [3]) (by kernel_rfl) (by simp) ?_
    refine AllReadyH.cons rfl (fun K hK => ?_) AllReadyH.nil
    go_simp
    go_wp2_with fail
    refine hK.out _ _ (⟨⟨h9.cell 1 0 rfl rfl, h9.cell 1 1 rfl rfl⟩, ⟨h9.cell 0 0 rfl rfl, h9.cell 0 1 rfl rfl⟩, h9.cell 0 2 rfl rfl, h9.cell 0 3 rfl rfl⟩) (fun hHeld => ?_)
    clear hK K
    try simp only [Act.put, List.getElem_toArray, List.getElem_cons_zero, List.getElem_cons_succ, List.setIfInBounds_toArray, List.set_cons_zero, List.set_cons_succ]
    refine wpAnyH_done (by kernel_rfl) ?_ _
    have HE := hid h9
    have v0 := h9a.cell 6 0 rfl rfl
    have v1 := h9a.cell 6 1 rfl rfl
    have u0 := h9a.cell 5 0 rfl rfl
    have u1 := h9a.cell 5 1 rfl rfl
    have u2 := h9a.cell 5 2 rfl rfl
    have u3 := h9a.cell 5 3 rfl rfl
    clear h9 h8 h9a h8a H7 hHeld y0 y1 t0 t1 z0 z1 z2 z3 f0 f1 f2 f3 e0 e1 e2 e3 q0 q1
    go_wp2_with fail
    exact bodyPost_ret (v := .tuple #[.agg #[.slice B p cb, .slice E m d], .agg #[.int .i64 (av), .int .i64 (b2), .int .i64 (100 * (1 + lv)), .int .i64 (rv)]]) (by simp [results, Try.results44, go_sem, v0, v1, u0, u1, u2, u3]) rfl (drFP.mk ⟨av, b2, 100 * (1 + lv), rv⟩ ⟨⟨_, _, Led.take2 (HE.out.drop 2)⟩, HXL.out, HFL.out, hp, hm, HXS.out⟩)
  · have n0 : (x == 0) = false := by simp; exact c0
    by_cases c1 : x = 1
    · subst c1
      have HP := hid (among_blk_led [0, 5000, 5001] H6.out 4 rfl HB.out HBS.out hn (by omega) (by decide) (by decide) 3 _ rfl 3)
      go_wp2_with fail
      refine Calls.mono HP.out ?_
      rintro e w7 ⟨l2, -, rfl, h7⟩
      have H8 := hid h7
      have g1 := H8.out.cell 0 2 rfl rfl
      have g2 := H8.out.frozen 0 2 rfl
      clear h7 H6 HP
      have H7 := hid (H8.out.set 0 rfl 2 (.int .i64 l2))
      have q0 := H7.out.cell 1 0 rfl rfl
      have q1 := H7.out.cell 1 1 rfl rfl
      have e0 := H7.out.cell 0 0 rfl rfl
      have e1 := H7.out.cell 0 1 rfl rfl
      have e2 := H7.out.cell 0 2 rfl rfl
      have e3 := H7.out.cell 0 3 rfl rfl
      go_wp2_with fail
      generalize w7.setCell ⟨w5.heap.size, 2, none⟩ (.int .i64 l2) = WW at *
      refine wp_region_held_drew (S := fun w' => (w'.cell? ⟨w1.heap.size, 0, none⟩ = some (.slice B p cb) ∧ w'.cell? ⟨w1.heap.size, 1, none⟩ = some (.slice E m d)) ∧ (w'.cell? ⟨w5.heap.size, 0, none⟩ = some (.int .i64 (av)) ∧ w'.cell? ⟨w5.heap.size, 1, none⟩ = some (.int .i64 (av + 1 + bv))) ∧ w'.cell? ⟨w5.heap.size, 2, none⟩ = some (.int .i64 (l2)) ∧ w'.cell? ⟨w5.heap.size, 3, none⟩ = some (.int .i64 (rv))) (by kernel_rfl) (⟨⟨H7.out.cell 1 0 rfl rfl, H7.out.cell 1 1 rfl rfl⟩, ⟨H7.out.cell 0 0 rfl rfl, H7.out.cell 0 1 rfl rfl⟩, H7.out.cell 0 2 rfl rfl, H7.out.cell 0 3 rfl rfl⟩) (fun hHeld => ?_)
      refine wpAnyH_take (i := 0) (oi := _) (v := ?_) rfl (by kernel_rfl) (by kernel_rfl) (by kernel_rfl) (fun _ _ _ h => h) (Or.inl ⟨by rfl, ?_⟩) (by assumption) ?_
      rotate_left
      · intro w hSw; go_simp; with_reducible rfl
      simp only [Act.put, List.getElem_toArray, List.getElem_cons_zero, List.setIfInBounds_toArray, List.set_cons_zero, List.set_cons_succ]
      refine wpAnyH_take (i := 1) (oi := _) (v := ?_) rfl (by kernel_rfl) (by kernel_rfl) (by kernel_rfl) (fun _ _ _ h => h) (Or.inl ⟨by rfl, ?_⟩) (by assumption) ?_
      rotate_left
      · intro w hSw; go_simp; with_reducible rfl
      simp only [Act.put, List.getElem_toArray, List.getElem_cons_zero, List.getElem_cons_succ, List.setIfInBounds_toArray, List.set_cons_zero, List.set_cons_succ]
      have y0 := H7.out.cell 6 0 rfl rfl
      have y1 := H7.out.cell 6 1 rfl rfl
      have t0 := H7.out.frozen 6 0 rfl
      have t1 := H7.out.frozen 6 1 rfl
      have h8a := (H7.out.set 6 rfl 0 (.slice B p cb)).set 6 rfl 1 (.slice E m d)
      have h8 := h8a.step (Cls.drew _)
      refine wpAnyH_ready (rs := [2]) (by kernel_rfl) (by simp) ?_
      refine AllReadyH.cons rfl (fun K hK => ?_) AllReadyH.nil
      go_simp
      go_wp2_with fail
      refine hK.out _ _ (⟨⟨h8.cell 1 0 rfl rfl, h8.cell 1 1 rfl rfl⟩, ⟨h8.cell 0 0 rfl rfl, h8.cell 0 1 rfl rfl⟩, h8.cell 0 2 rfl rfl, h8.cell 0 3 rfl rfl⟩) (fun hHeld => ?_)
      clear hK K
      try simp only [Act.put, List.getElem_toArray, List.getElem_cons_zero, List.getElem_cons_succ, List.setIfInBounds_toArray, List.set_cons_zero, List.set_cons_succ]
      have z0 := h8a.cell 5 0 rfl rfl
      have f0 := h8a.frozen 5 0 rfl
      have z1 := h8a.cell 5 1 rfl rfl
      have f1 := h8a.frozen 5 1 rfl
      have z2 := h8a.cell 5 2 rfl rfl
      have f2 := h8a.frozen 5 2 rfl
      have z3 := h8a.cell 5 3 rfl rfl
      have f3 := h8a.frozen 5 3 rfl
      have h9a := (((h8a.set 5 rfl 0 (.int .i64 (av))).set 5 rfl 1 (.int .i64 (av + 1 + bv))).set 5 rfl 2 (.int .i64 (l2))).set 5 rfl 3 (.int .i64 (rv))
      have h9 := h9a.step (Cls.drew _)
      refine wpAnyH_ready (rs := [3]) (by kernel_rfl) (by simp) ?_
      refine AllReadyH.cons rfl (fun K hK => ?_) AllReadyH.nil
      go_simp
      go_wp2_with fail
      refine hK.out _ _ (⟨⟨h9.cell 1 0 rfl rfl, h9.cell 1 1 rfl rfl⟩, ⟨h9.cell 0 0 rfl rfl, h9.cell 0 1 rfl rfl⟩, h9.cell 0 2 rfl rfl, h9.cell 0 3 rfl rfl⟩) (fun hHeld => ?_)
      clear hK K
      try simp only [Act.put, List.getElem_toArray, List.getElem_cons_zero, List.getElem_cons_succ, List.setIfInBounds_toArray, List.set_cons_zero, List.set_cons_succ]
      refine wpAnyH_done (by kernel_rfl) ?_ _
      have HE := hid h9
      have v0 := h9a.cell 6 0 rfl rfl
      have v1 := h9a.cell 6 1 rfl rfl
      have u0 := h9a.cell 5 0 rfl rfl
      have u1 := h9a.cell 5 1 rfl rfl
      have u2 := h9a.cell 5 2 rfl rfl
      have u3 := h9a.cell 5 3 rfl rfl
      clear h9 h8 h9a h8a H7 hHeld y0 y1 t0 t1 z0 z1 z2 z3 f0 f1 f2 f3 e0 e1 e2 e3 q0 q1
      go_wp2_with fail
      exact bodyPost_ret (v := .tuple #[.agg #[.slice B p cb, .slice E m d], .agg #[.int .i64 (av), .int .i64 (av + 1 + bv), .int .i64 (l2), .int .i64 (rv)]]) (by simp [results, Try.results44, go_sem, v0, v1, u0, u1, u2, u3]) rfl (drFP.mk ⟨av, av + 1 + bv, l2, rv⟩ ⟨⟨_, _, Led.take2 (HE.out.drop 2)⟩, HXL.out, HFL.out, hp, hm, HXS.out⟩)
    · have n1 : (x == 1) = false := by simp; exact c1
      have H7 := hid (H6.out)
      have q0 := H7.out.cell 1 0 rfl rfl
      have q1 := H7.out.cell 1 1 rfl rfl
      have e0 := H7.out.cell 0 0 rfl rfl
      have e1 := H7.out.cell 0 1 rfl rfl
      have e2 := H7.out.cell 0 2 rfl rfl
      have e3 := H7.out.cell 0 3 rfl rfl
      go_wp2_with fail
      generalize w6 = WW at *
      refine wp_region_held_drew (S := fun w' => (w'.cell? ⟨w1.heap.size, 0, none⟩ = some (.slice B p cb) ∧ w'.cell? ⟨w1.heap.size, 1, none⟩ = some (.slice E m d)) ∧ (w'.cell? ⟨w5.heap.size, 0, none⟩ = some (.int .i64 (av)) ∧ w'.cell? ⟨w5.heap.size, 1, none⟩ = some (.int .i64 (av + 1 + bv))) ∧ w'.cell? ⟨w5.heap.size, 2, none⟩ = some (.int .i64 (100 * (1 + lv))) ∧ w'.cell? ⟨w5.heap.size, 3, none⟩ = some (.int .i64 (rv))) (by kernel_rfl) (⟨⟨H7.out.cell 1 0 rfl rfl, H7.out.cell 1 1 rfl rfl⟩, ⟨H7.out.cell 0 0 rfl rfl, H7.out.cell 0 1 rfl rfl⟩, H7.out.cell 0 2 rfl rfl, H7.out.cell 0 3 rfl rfl⟩) (fun hHeld => ?_)
      refine wpAnyH_take (i := 0) (oi := _) (v := ?_) rfl (by kernel_rfl) (by kernel_rfl) (by kernel_rfl) (fun _ _ _ h => h) (Or.inl ⟨by rfl, ?_⟩) (by assumption) ?_
      rotate_left
      · intro w hSw; go_simp; with_reducible rfl
      simp only [Act.put, List.getElem_toArray, List.getElem_cons_zero, List.setIfInBounds_toArray, List.set_cons_zero, List.set_cons_succ]
      refine wpAnyH_take (i := 1) (oi := _) (v := ?_) rfl (by kernel_rfl) (by kernel_rfl) (by kernel_rfl) (fun _ _ _ h => h) (Or.inl ⟨by rfl, ?_⟩) (by assumption) ?_
      rotate_left
      · intro w hSw; go_simp; with_reducible rfl
      simp only [Act.put, List.getElem_toArray, List.getElem_cons_zero, List.getElem_cons_succ, List.setIfInBounds_toArray, List.set_cons_zero, List.set_cons_succ]
      have y0 := H7.out.cell 6 0 rfl rfl
      have y1 := H7.out.cell 6 1 rfl rfl
      have t0 := H7.out.frozen 6 0 rfl
      have t1 := H7.out.frozen 6 1 rfl
      have h8a := (H7.out.set 6 rfl 0 (.slice B p cb)).set 6 rfl 1 (.slice E m d)
      have h8 := h8a.step (Cls.drew _)
      refine wpAnyH_ready (rs := [2]) (by kernel_rfl) (by simp) ?_
      refine AllReadyH.cons rfl (fun K hK => ?_) AllReadyH.nil
      go_simp
      go_wp2_with fail
      refine hK.out _ _ (⟨⟨h8.cell 1 0 rfl rfl, h8.cell 1 1 rfl rfl⟩, ⟨h8.cell 0 0 rfl rfl, h8.cell 0 1 rfl rfl⟩, h8.cell 0 2 rfl rfl, h8.cell 0 3 rfl rfl⟩) (fun hHeld => ?_)
      clear hK K
      try simp only [Act.put, List.getElem_toArray, List.getElem_cons_zero, List.getElem_cons_succ, List.setIfInBounds_toArray, List.set_cons_zero, List.set_cons_succ]
      have z0 := h8a.cell 5 0 rfl rfl
      have f0 := h8a.frozen 5 0 rfl
      have z1 := h8a.cell 5 1 rfl rfl
      have f1 := h8a.frozen 5 1 rfl
      have z2 := h8a.cell 5 2 rfl rfl
      have f2 := h8a.frozen 5 2 rfl
      have z3 := h8a.cell 5 3 rfl rfl
      have f3 := h8a.frozen 5 3 rfl
      have h9a := (((h8a.set 5 rfl 0 (.int .i64 (av))).set 5 rfl 1 (.int .i64 (av + 1 + bv))).set 5 rfl 2 (.int .i64 (100 * (1 + lv)))).set 5 rfl 3 (.int .i64 (rv))
      have h9 := h9a.step (Cls.drew _)
      refine wpAnyH_ready (rs := [3]) (by kernel_rfl) (by simp) ?_
      refine AllReadyH.cons rfl (fun K hK => ?_) AllReadyH.nil
      go_simp
      go_wp2_with fail
      refine hK.out _ _ (⟨⟨h9.cell 1 0 rfl rfl, h9.cell 1 1 rfl rfl⟩, ⟨h9.cell 0 0 rfl rfl, h9.cell 0 1 rfl rfl⟩, h9.cell 0 2 rfl rfl, h9.cell 0 3 rfl rfl⟩) (fun hHeld => ?_)
      clear hK K
      try simp only [Act.put, List.getElem_toArray, List.getElem_cons_zero, List.getElem_cons_succ, List.setIfInBounds_toArray, List.set_cons_zero, List.set_cons_succ]
      refine wpAnyH_done (by kernel_rfl) ?_ _
      have HE := hid h9
      have v0 := h9a.cell 6 0 rfl rfl
      have v1 := h9a.cell 6 1 rfl rfl
      have u0 := h9a.cell 5 0 rfl rfl
      have u1 := h9a.cell 5 1 rfl rfl
      have u2 := h9a.cell 5 2 rfl rfl
      have u3 := h9a.cell 5 3 rfl rfl
      clear h9 h8 h9a h8a H7 hHeld y0 y1 t0 t1 z0 z1 z2 z3 f0 f1 f2 f3 e0 e1 e2 e3 q0 q1
      go_wp2_with fail
      exact bodyPost_ret (v := .tuple #[.agg #[.slice B p cb, .slice E m d], .agg #[.int .i64 (av), .int .i64 (av + 1 + bv), .int .i64 (100 * (1 + lv)), .int .i64 (rv)]]) (by simp [results, Try.results44, go_sem, v0, v1, u0, u1, u2, u3]) rfl (drFP.mk ⟨av, av + 1 + bv, 100 * (1 + lv), rv⟩ ⟨⟨_, _, Led.take2 (HE.out.drop 2)⟩, HXL.out, HFL.out, hp, hm, HXS.out⟩)
end
end Go.Proofs.Ytfepilpllfiegaa
/- Lists of numbers: slices.Index, slices.Contains, l1Has, l1Rising, isSet, toIntS, walked. Conditions: none (toIntS: at most 1048576). -/
namespace Go.Proofs.Ytfepilpllfiegaa
open Go.RowKit
section
variable {B n c : Nat} {A : Option Addr} {xs : List Int}
theorem indexI_any (s : Int) (w : World) (hA : Sees elInt w B A n xs) (hn : n ≤ maxLen) :
    Calls Try.prog 131 #[.slice A n c, .int .i64 s] w fun e w' => e = .returned (.int .i64 (findI xs s)) ∧ w = w' := by
  unfold maxLen at hn
  go_enter Try.func131, Try.ntmps131
  go_wp2
  go_loop [8] (fun i => ∃ k : Nat, k ≤ n ∧ i = .int .i64 k ∧ Hid (noneTo xs s k)) (fun i => n - (intOf i).toNat)
  case atStart => exact ⟨0, Nat.zero_le _, rfl, noneTo_zero⟩
  case round =>
    obtain ⟨k, hk, rfl, hno⟩ := hrel
    by_cases hlt : k < n
    · obtain ⟨b, o, rfl, _, hx⟩ := hA.at_ hlt
      obtain ⟨x, hxk⟩ : ∃ x, xs[k]? = some x := ⟨xs[k]'(by rw [hA.len]; exact hlt), List.getElem?_eq_getElem _⟩
      have hc := hx k x hxk 0 _ rfl
      simp only [elInt, Nat.mul_one, Nat.add_zero] at hc
      clear hx
      by_cases heq : x = s
      · subst heq
        have HF := hid (findI_at hno hxk)
        clear hxk
        go_wp2
        go_ret
        exact ⟨by rw [HF.out]; rfl, rfl⟩
      · have hne : (s == x) = false := by simp; exact fun e => heq e.symm
        have HN := hid (noneTo_succ hno hxk heq)
        clear hxk hno
        go_wp2
        go_round
        case rel => exact ⟨k + 1, by omega, by go_num, HN⟩
        case measure => simp [intOf]; omega
    · have HF : Hid (findI xs s = -1) := findI_none hA.len (by obtain rfl : k = n := (by omega); exact hno.out)
      go_wp2
      go_ret
      exact ⟨by rw [HF.out]; rfl, rfl⟩
theorem containsI_any (s : Int) (w : World) (hA : Sees elInt w B A n xs) (hn : n ≤ maxLen) :
    Calls Try.prog 66 #[.slice A n c, .int .i64 s] w fun e w' => e = .returned (.bool (hasB xs s)) ∧ w = w' := by
  go_enter Try.func66, Try.ntmps66
  go_wp2_with (go_at_call 131; refine (indexI_any s _ hA hn).mono ?_; rintro e w' ⟨rfl, rfl⟩)
  go_ret
  exact ⟨rfl, rfl⟩
theorem l1Has_any (s : Int) (w : World) (hA : Sees elInt w B A n xs) (hn : n ≤ maxLen) :
    Calls Try.prog 69 #[.slice A n c, .int .i64 s] w fun e w' => e = .returned (.bool (hasB xs s)) ∧ w = w' := by
  unfold maxLen at hn
  go_enter Try.func69, Try.ntmps69
  go_wp2
  go_loop [5] (fun i => ∃ k : Nat, k ≤ n ∧ i = .int .i64 k ∧ Hid (noneTo xs s k)) (fun i => n - (intOf i).toNat)
  case atStart => exact ⟨0, Nat.zero_le _, rfl, noneTo_zero⟩
  case round =>
    obtain ⟨k, hk, rfl, hno⟩ := hrel
    by_cases hlt : k < n
    · obtain ⟨b, o, rfl, _, hx⟩ := hA.at_ hlt
      obtain ⟨x, hxk⟩ : ∃ x, xs[k]? = some x := ⟨xs[k]'(by rw [hA.len]; exact hlt), List.getElem?_eq_getElem _⟩
      have hc := hx k x hxk 0 _ rfl
      simp only [elInt, Nat.mul_one, Nat.add_zero] at hc
      clear hx
      by_cases heq : x = s
      · subst heq
        have HF : Hid (hasB xs x = true) := hasB_iff.2 (List.mem_of_getElem? hxk)
        clear hxk
        go_wp2
        go_ret
        exact ⟨by rw [HF.out]; rfl, rfl⟩
      · have hne : (x == s) = false := by simp; exact heq
        have HN := hid (noneTo_succ hno hxk heq)
        clear hxk hno
        go_wp2
        go_round
        case rel => exact ⟨k + 1, by omega, by go_num, HN⟩
        case measure => simp [intOf]; omega
    · have HF : Hid (hasB xs s = false) := by
        unfold Hid
        cases g : hasB xs s
        · rfl
        · exact absurd (hasB_iff.1 g) (noneTo_not hA.len (by obtain rfl : k = n := (by omega); exact hno.out))
      go_wp2
      go_ret
      exact ⟨by rw [HF.out]; rfl, rfl⟩
/-- Number k lies within bounds and above the one before it. -/
def riseAt (lo hi : Int) (xs : List Int) (k : Nat) : Bool := inB lo hi (xs.getD k 0) && !(decide (0 < k) && decide (xs.getD k 0 ≤ xs.getD (k - 1) 0))
def risB (lo hi : Int) (xs : List Int) : Bool := allB (riseAt lo hi xs) xs.length
set_option maxHeartbeats 1000000 in
set_option maxRecDepth 100000 in
theorem l1Rising_any (lo hi : Int) (w : World) (hA : Sees elInt w B A n xs) (hn : n ≤ 1048576) :
    Calls Try.prog 68 #[.slice A n c, .int .i64 lo, .int .i64 hi] w fun e w' => e = .returned (.bool (risB lo hi xs)) ∧ Below w.heap.size w w' := by
  have hl := hA.len
  go_enter Try.func68, Try.ntmps68
  go_wp2
  go_loopw [7] (fun i wr => ∃ k : Nat, k ≤ n ∧ i = .int .i64 k ∧ Hid (allTo (riseAt lo hi xs) k) ∧ Below w.heap.size w wr) (fun i _ => n - (intOf i).toNat)
  case atStart => exact ⟨0, Nat.zero_le _, rfl, allTo_zero _, Below.refl _ _⟩
  case round =>
    obtain ⟨k, hk, rfl, hno, hb⟩ := hrel
    by_cases hlt : k < n
    · obtain ⟨b, o, rfl, _, hx⟩ := hA.at_ hlt
      obtain ⟨x, hxk⟩ := get_of (k := k) hl hlt
      have hc := bl_cell hb (hx k x hxk 0 _ rfl)
      simp only [elInt, Nat.mul_one, Nat.add_zero] at hc
      have T0 : ∀ w', Cls wr w' → w'.cell? ⟨b, o + k, none⟩ = some (.int .i64 x) := fun _ h => h.cell hc
      have iz : (k : Int) < (n : Int) := by omega
      cases g1 : inB lo hi x
      · have HF : Hid (risB lo hi xs = false) := allB_no (k := k) (by omega) (by unfold riseAt; rw [getD_of hxk, g1]; rfl)
        clear hx hxk hno hl
        go_wp2
        refine region_cls (by kernel_rfl) (by kernel_rfl) ?_
        repeat (first
          | ((with_reducible refine quiet_pos ?_ (fun K hK => ?_))
             · rfl
             apply Exists.intro
             refine ⟨fun w' hw' => ?_, ?_⟩
             · go_simp
               first
                 | with_reducible rfl
                 | (go_at_call 78; exact hw'.same (l1In_any _ _ _ _))
             simp only [Act.put, List.setIfInBounds_toArray, List.set_cons_zero, List.set_cons_succ]
             refine hK _ ?_; clear hK K)
          | ((with_reducible refine quiet_neg ?_ (fun K hK => ?_))
             · rfl
             simp only [Act.put, List.setIfInBounds_toArray, List.set_cons_zero, List.set_cons_succ]
             refine hK _ ?_; clear hK K))
        with_reducible refine wpQuiet_nil ?_
        intro w3 hw3
        go_wp2
        go_ret
        exact ⟨by rw [HF.out]; rfl, bl_then hb hw3⟩
      · by_cases hk0 : 0 < k
        · obtain ⟨y, hyk⟩ := get_of (k := k - 1) hl (by omega)
          have hcy := bl_cell hb (hx (k - 1) y hyk 0 _ rfl)
          simp only [elInt, Nat.mul_one, Nat.add_zero] at hcy
          have i0 : decide ((0 : Nat) < k) = true := decide_eq_true hk0
          have i1 : IntKind.i64.wrap ((k : Int) - 1) = (k : Int) - 1 := IntWalk.i64_in _ (by omega)
          have i2 : (0 : Int) ≤ (k : Int) - 1 := by omega
          have i3 : ((k : Int) - 1).toNat = k - 1 := by omega
          have i4 : (k : Int) - 1 < (n : Int) := by omega
          have i5 : (1 : Int) ≤ (k : Int) := by omega
          have i6 : 1 ≤ k := by omega
          have T1 : ∀ w', Cls wr w' → w'.cell? ⟨b, o + (k - 1), none⟩ = some (.int .i64 y) := fun _ h => h.cell hcy
          cases g2 : decide (x ≤ y)
          · have HN : Hid (allTo (riseAt lo hi xs) (k + 1)) := allTo_succ hno.out (by unfold riseAt; rw [getD_of hxk, getD_of hyk, g1, g2, i0]; rfl)
            clear hx hxk hyk hno hl
            go_wp2
            refine region_cls (by kernel_rfl) (by kernel_rfl) ?_
            repeat (first
              | ((with_reducible refine quiet_pos ?_ (fun K hK => ?_))
                 · rfl
                 apply Exists.intro
                 refine ⟨fun w' hw' => ?_, ?_⟩
                 · go_simp
                   first
                     | with_reducible rfl
                     | (go_at_call 78; exact hw'.same (l1In_any _ _ _ _))
                 simp only [Act.put, List.setIfInBounds_toArray, List.set_cons_zero, List.set_cons_succ]
                 refine hK _ ?_; clear hK K)
              | ((with_reducible refine quiet_neg ?_ (fun K hK => ?_))
                 · rfl
                 simp only [Act.put, List.setIfInBounds_toArray, List.set_cons_zero, List.set_cons_succ]
                 refine hK _ ?_; clear hK K))
            with_reducible refine wpQuiet_nil ?_
            intro w3 hw3
            go_wp2
            go_roundw
            case rel => exact ⟨k + 1, by omega, by go_num, HN, bl_then hb hw3⟩
            case measure => simp [intOf]; omega
          · have HF : Hid (risB lo hi xs = false) := allB_no (k := k) (by omega) (by unfold riseAt; rw [getD_of hxk, getD_of hyk, g1, g2, i0]; rfl)
            clear hx hxk hyk hno hl
            go_wp2
            refine region_cls (by kernel_rfl) (by kernel_rfl) ?_
            repeat (first
              | ((with_reducible refine quiet_pos ?_ (fun K hK => ?_))
                 · rfl
                 apply Exists.intro
                 refine ⟨fun w' hw' => ?_, ?_⟩
                 · go_simp
                   first
                     | with_reducible rfl
                     | (go_at_call 78; exact hw'.same (l1In_any _ _ _ _))
                 simp only [Act.put, List.setIfInBounds_toArray, List.set_cons_zero, List.set_cons_succ]
                 refine hK _ ?_; clear hK K)
              | ((with_reducible refine quiet_neg ?_ (fun K hK => ?_))
                 · rfl
                 simp only [Act.put, List.setIfInBounds_toArray, List.set_cons_zero, List.set_cons_succ]
                 refine hK _ ?_; clear hK K))
            with_reducible refine wpQuiet_nil ?_
            intro w3 hw3
            go_wp2
            go_ret
            exact ⟨by rw [HF.out]; rfl, bl_then hb hw3⟩
        · have hk00 : k = 0 := by omega
          have e6 : decide (0 < k) = false := by simp; omega
          have HN : Hid (allTo (riseAt lo hi xs) (k + 1)) := allTo_succ hno.out (by unfold riseAt; rw [getD_of hxk, g1, e6]; rfl)
          clear hx hxk hno hl hk0 hk00
          go_wp2
          refine region_cls (by kernel_rfl) (by kernel_rfl) ?_
          repeat (first
            | ((with_reducible refine quiet_pos ?_ (fun K hK => ?_))
               · rfl
               apply Exists.intro
               refine ⟨fun w' hw' => ?_, ?_⟩
               · go_simp
                 first
                   | with_reducible rfl
                   | (go_at_call 78; exact hw'.same (l1In_any _ _ _ _))
               simp only [Act.put, List.setIfInBounds_toArray, List.set_cons_zero, List.set_cons_succ]
               refine hK _ ?_; clear hK K)
            | ((with_reducible refine quiet_neg ?_ (fun K hK => ?_))
               · rfl
               simp only [Act.put, List.setIfInBounds_toArray, List.set_cons_zero, List.set_cons_succ]
               refine hK _ ?_; clear hK K))
          with_reducible refine wpQuiet_nil ?_
          intro w3 hw3
          go_wp2
          go_roundw
          case rel => exact ⟨k + 1, by omega, by go_num, HN, bl_then hb hw3⟩
          case measure => simp [intOf]; omega
    · have HF : Hid (risB lo hi xs = true) := allB_yes hno.out (by omega)
      go_wp2
      go_ret
      exact ⟨by rw [HF.out]; rfl, hb⟩
set_option maxHeartbeats 1000000 in
set_option maxRecDepth 100000 in
theorem isSet_any (hi : Nat) (w : World) (hA : Sees elInt w B A n xs) (hn : n ≤ 1048576) (hh : hi ≤ 1048576) :
    Calls Try.prog 65 #[.slice A n c, .int .i64 hi] w fun e w' => e = .returned (.bool (risB 0 ((hi : Int) - 1) xs)) ∧ w = w' := by
  have hl := hA.len
  go_enter Try.func65, Try.ntmps65
  go_wp2
  go_loop [9] (fun i => ∃ k : Nat, k ≤ n ∧ i = .int .i64 k ∧ Hid (allTo (riseAt 0 ((hi : Int) - 1) xs) k)) (fun i => n - (intOf i).toNat)
  case atStart => exact ⟨0, Nat.zero_le _, rfl, allTo_zero _⟩
  case round =>
    obtain ⟨k, hk, rfl, hno⟩ := hrel
    by_cases hlt : k < n
    · obtain ⟨b, o, rfl, _, hx⟩ := hA.at_ hlt
      obtain ⟨x, hxk⟩ := get_of (k := k) hl hlt
      have hc := hx k x hxk 0 _ rfl
      simp only [elInt, Nat.mul_one, Nat.add_zero] at hc
      cases g1 : inB 0 ((hi : Int) - 1) x
      · have HF : Hid (risB 0 ((hi : Int) - 1) xs = false) := allB_no (k := k) (by omega) (by unfold riseAt; rw [getD_of hxk, g1]; rfl)
        clear hx hxk hno hl
        go_wp2_with (go_at_call 107; refine (within_any _ _ _ _).mono ?_; rintro e w' ⟨rfl, rfl⟩; rw [g1])
        go_ret
        exact ⟨by rw [HF.out]; rfl, rfl⟩
      · by_cases hk0 : 0 < k
        · obtain ⟨y, hyk⟩ := get_of (k := k - 1) hl (by omega)
          have hcy := hx (k - 1) y hyk 0 _ rfl
          simp only [elInt, Nat.mul_one, Nat.add_zero] at hcy
          have i0 : decide ((0 : Nat) < k) = true := decide_eq_true hk0
          have i1 : IntKind.i64.wrap ((k : Int) - 1) = (k : Int) - 1 := IntWalk.i64_in _ (by omega)
          have i2 : (0 : Int) ≤ (k : Int) - 1 := by omega
          have i3 : ((k : Int) - 1).toNat = k - 1 := by omega
          have i4 : (k : Int) - 1 < (n : Int) := by omega
          have i5 : (1 : Int) ≤ (k : Int) := by omega
          have i6 : 1 ≤ k := by omega
          cases g2 : decide (x ≤ y)
          · have HN : Hid (allTo (riseAt 0 ((hi : Int) - 1) xs) (k + 1)) := allTo_succ hno.out (by unfold riseAt; rw [getD_of hxk, getD_of hyk, g1, g2, i0]; rfl)
            clear hx hxk hyk hno hl
            go_wp2_with (go_at_call 107; refine (within_any _ _ _ _).mono ?_; rintro e w' ⟨rfl, rfl⟩; rw [g1])
            go_round
            case rel => exact ⟨k + 1, by omega, by go_num, HN⟩
            case measure => simp [intOf]; omega
          · have HF : Hid (risB 0 ((hi : Int) - 1) xs = false) := allB_no (k := k) (by omega) (by unfold riseAt; rw [getD_of hxk, getD_of hyk, g1, g2, i0]; rfl)
            clear hx hxk hyk hno hl
            go_wp2_with (go_at_call 107; refine (within_any _ _ _ _).mono ?_; rintro e w' ⟨rfl, rfl⟩; rw [g1])
            go_ret
            exact ⟨by rw [HF.out]; rfl, rfl⟩
        · have e6 : decide (0 < k) = false := by simp; omega
          have HN : Hid (allTo (riseAt 0 ((hi : Int) - 1) xs) (k + 1)) := allTo_succ hno.out (by unfold riseAt; rw [getD_of hxk, g1, e6]; rfl)
          clear hx hxk hno hl hk0
          go_wp2_with (go_at_call 107; refine (within_any _ _ _ _).mono ?_; rintro e w' ⟨rfl, rfl⟩; rw [g1])
          go_round
          case rel => exact ⟨k + 1, by omega, by go_num, HN⟩
          case measure => simp [intOf]; omega
    · have HF : Hid (risB 0 ((hi : Int) - 1) xs = true) := allB_yes hno.out (by omega)
      go_wp2
      go_ret
      exact ⟨by rw [HF.out]; rfl, rfl⟩
end
end Go.Proofs.Ytfepilpllfiegaa
