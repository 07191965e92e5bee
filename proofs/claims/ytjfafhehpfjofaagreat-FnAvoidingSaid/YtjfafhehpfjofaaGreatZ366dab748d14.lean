/- Lemmas and walks that the claim rests on, laid together. Conditions: none. -/
import Derived.Test.YtjfafhehpfjofaaGreatZc4555e387edf
import Derived.Test.YtjfafhehpfjofaaGreatZ0a7cb1c9072e
import Derived.Lib.SlicesCompact
import Derived.Test.YtjfafhehpfjofaaGreatRows
import Derived.Test.YtjfafhehpfjofaaGreatZed1f78547694
import Derived.Test.YtjfafhehpfjofaaGreatZ6bf9e9b909bb
/- What the law of avoiding draws: a network, two nodes, some fibers. Conditions: at most 1048576 bytes to draw from. By draws.py. -/
namespace Go.Proofs.YtjfafhehpfjofaaGreat
open Go.RowKit
def drAP (w : World) (e : Ending) (w' : World) : Prop := ∃ (B : Option Addr) (p cb : Nat) (E : Option Addr) (m d : Nat) (xs : List ByteArray) (fs : List Fib) (a b : Int) (V : Option Addr) (c : Nat) (l : List Int), e = .returned (.tuple #[.agg #[.slice B p cb, .slice E m d], .int .i64 a, .int .i64 b, .slice V l.length c]) ∧ DrN w w' B p cb E m d xs fs ∧ Sees elInt w' w'.heap.size V l.length l ∧ l.length ≤ c ∧ l.length ≤ 30
theorem drAP.mk {w w' : World} {B E V : Option Addr} {p cb m d c : Nat} {xs : List ByteArray} {fs : List Fib} {a b : Int} {l : List Int} (h : DrN w w' B p cb E m d xs fs) (hv : Sees elInt w' w'.heap.size V l.length l) (hc : l.length ≤ c) (h30 : l.length ≤ 30) : drAP w (.returned (.tuple #[.agg #[.slice B p cb, .slice E m d], .int .i64 a, .int .i64 b, .slice V l.length c])) w' := ⟨_, _, _, _, _, _, _, _, _, _, _, _, _, rfl, h, hv, hc, h30⟩
section
variable {A : Option Addr} {n c : Nat} {bs : List Int}
set_option maxHeartbeats 2000000 in
set_option maxRecDepth 100000 in
theorem drawAvoiding_any (w : World) (hb : Sees elU w w.heap.size A n bs) (hbs : ∀ x ∈ bs, 0 ≤ x ∧ x ≤ 255) (hn : n ≤ 1048576) : Calls Tryz.prog 5 #[.slice A n c] w (drAP w) := by
  have H0 := hid (((Led.nil w).blk_ w.heap.size rfl 27 #[.slice none 0 0, .slice none 0 0]).cur (w.heap.size + 1) (by simp) A n c)
  have HB := hid hb
  have HBS := hid hbs
  clear hb hbs
  go_enter Tryz.func5, Tryz.ntmps5
  go_wp2_with fail
  refine (anyNetwork_led H0.out HB.out HBS.out hn (by omega)).mono ?_
  rintro e w1 ⟨B, p, cb, E, m, d, xs, fs, rfl, hp, hm, hxl, hfl, HX, h1⟩
  have HXL := hid hxl
  have HFL := hid hfl
  have HXS := hid HX
  have H1 := hid (h1.blk_ w1.heap.size rfl 27 #[.slice B p cb, .slice E m d])
  clear h1 H0 hxl hfl HX
  obtain ⟨i0, hi, hz0, hz1, hz2⟩ := info_parts int_info
  have H2 := hid (H1.out.empty elInt 3 (w1.heap.size + 1) (by simp) w.heap.size (by have := H1.out.bl.size; simp at this; omega))
  clear H1
  go_wp2_with fail
  go_loopw [8, 9] (fun v i wr => ∃ (k K' : Nat) (l : List Int), k ≤ m ∧ i = .int .i64 k ∧ l.length ≤ k ∧ K' ≤ 1000 + 3000 + 10 * k ∧ Hid (Led w wr [tOwns elInt w.heap.size 3 v l, tBlk w1.heap.size 27 #[.slice B p cb, .slice E m d], tOwns elFib w.heap.size 64 (.slice E m d) fs, tOwns elStr w.heap.size 9 (.slice B p cb) xs, tCur A n c (w.heap.size + 1) K', tBlk w.heap.size 27 #[.slice none 0 0, .slice none 0 0]])) (fun _ i _ => m - (intOf i).toNat)
  case atStart => exact ⟨0, _, [], by omega, rfl, by simp, by omega, H2⟩
  case round =>
    clear H2
    obtain ⟨k, K', l, hk, rfl, hl, hK, HS⟩ := hrel
    obtain ⟨V, cV, rfl, hcV⟩ := HS.out.form 0 rfl
    have q0 := HS.out.cell 1 0 rfl rfl
    have q1 := HS.out.cell 1 1 rfl rfl
    by_cases hlt : k < m
    · have ip : (k : Int) < (m : Int) := by omega
      go_wp2_with fail
      refine (one_led HS.out 4 rfl HB.out HBS.out hn (by omega) 4 (by decide) (by decide)).mono ?_
      rintro e w2 ⟨t, rfl, h2⟩
      have H2 := hid (h2.blk_ w2.heap.size rfl 3 #[.int .i64 (k : Int)])
      have H2b := hid h2
      have HL := hid hl
      clear h2 HS q0 q1 hl
      cases t
      · go_wp2
        go_roundw
        case rel => exact ⟨k + 1, _, l, by omega, by go_num, by have := HL.out; omega, by omega, H2b⟩
        case measure => simp [intOf]; omega
      · go_wp2_with (first
          | (at_builtin; refine wpList_append_led rfl _ _ 28 rfl H2.out 1 rfl Tryz.underlying28 hi hz0 hz1 (by rw [hz2]; decide) rfl rfl rfl (show Sees elInt _ _ _ 1 [(k : Int)] from sees_new elInt _ _ _ _ rfl) (by have := HL.out; omega) H2.out.bl.size ?_)
          | go_in)
        intro A4 c4 w4 h4
        have H4 := hid (h4.drop 1)
        have hl4 : (l ++ [(k : Int)]).length ≤ k + 1 := by rw [List.length_append]; have := HL.out; simp; omega
        clear h4 H2 H2b
        go_wp2
        go_roundw
        case rel => exact ⟨k + 1, _, l ++ [(k : Int)], by omega, by go_num, hl4, by omega, H4⟩
        case measure => simp [intOf]; omega
    · have ip : ¬ ((k : Int) < (m : Int)) := by omega
      go_wp2_with fail
      refine (one_led HS.out 4 rfl HB.out HBS.out hn (by omega) 16 (by decide) (by decide)).mono ?_
      rintro e w2 ⟨t, rfl, h2⟩
      have H2 := hid h2
      have HL : Hid (l.length ≤ 15) := by unfold Hid; omega
      clear h2 HS q0 q1 hl
      cases t
      · skip
        have H9 := hid (H2.out)
        have q0 := H9.out.cell 1 0 rfl rfl
        have q1 := H9.out.cell 1 1 rfl rfl
        have hc9 := hcV
        have h39 := (show l.length ≤ 30 by have := HL.out; omega)
        clear H2
        go_wp2_with fail
        refine (pick_led H9.out 4 rfl HB.out HBS.out hn (by omega) (p : Int) (by omega) (by omega)).mono ?_
        rintro e w5 ⟨av, rfl, ha0, ha1, h3⟩
        have ha2 := ha1 (by omega)
        have H3 := hid h3
        clear h3 H9 q0 q1 ha1
        obtain ⟨W3, hW3⟩ : ∃ W3, W3 = w5 := ⟨_, rfl⟩
        rw [← hW3] at H3 ⊢
        clear hW3
        have iw0 : IntKind.i64.wrap ((p : Int) - 1) = (p : Int) - 1 := IntWalk.i64_in _ (by omega)
        have iw1 : IntKind.i64.wrap (av + 1) = av + 1 := IntWalk.i64_in _ (by omega)
        have ikz : ((p : Int) == 0) = false := by simp; omega
        have ikz3 : ¬ (p = 0) := by omega
        go_wp2_with fail
        refine wp_region_held_drew (S := fun w' => w'.cell? ⟨w1.heap.size, 0, none⟩ = some (.slice B p cb) ∧ w'.cell? ⟨w1.heap.size, 1, none⟩ = some (.slice E m d)) (by kernel_rfl) (⟨H3.out.cell 1 0 rfl rfl, H3.out.cell 1 1 rfl rfl⟩) (fun hHeld => ?_)
        refine wpAnyH_take (i := 0) (oi := _) (v := ?_) rfl (by kernel_rfl) (by kernel_rfl) (by kernel_rfl) (fun _ _ _ h => h) (Or.inl ⟨by rfl, ?_⟩) (by assumption) ?_
        rotate_left
        · intro w hSw; go_simp; with_reducible rfl
        simp only [Act.put, List.getElem_toArray, List.getElem_cons_zero, List.setIfInBounds_toArray, List.set_cons_zero, List.set_cons_succ]
        refine wpAnyH_take (i := 1) (oi := _) (v := ?_) rfl (by kernel_rfl) (by kernel_rfl) (by kernel_rfl) (fun _ _ _ h => h) (Or.inl ⟨by rfl, ?_⟩) (by assumption) ?_
        rotate_left
        · intro w hSw; go_simp; with_reducible rfl
        simp only [Act.put, List.getElem_toArray, List.getElem_cons_zero, List.getElem_cons_succ, List.setIfInBounds_toArray, List.set_cons_zero, List.set_cons_succ]
        refine wpAnyH_take (i := 2) (oi := _) (v := ?_) rfl (by kernel_rfl) (by kernel_rfl) (by kernel_rfl) (fun _ _ _ h => h) (Or.inl ⟨by rfl, ?_⟩) (by assumption) ?_
        rotate_left
        · intro w hSw; go_simp; with_reducible rfl
        simp only [Act.put, List.getElem_toArray, List.getElem_cons_zero, List.getElem_cons_succ, List.setIfInBounds_toArray, List.set_cons_zero, List.set_cons_succ]
        refine wpAnyH_take (i := 3) (oi := _) (v := ?_) rfl (by kernel_rfl) (by kernel_rfl) (by kernel_rfl) (fun _ _ _ h => h) (Or.inl ⟨by rfl, ?_⟩) (by assumption) ?_
        rotate_left
        · intro w hSw; go_simp; with_reducible rfl
        simp only [Act.put, List.getElem_toArray, List.getElem_cons_zero, List.getElem_cons_succ, List.setIfInBounds_toArray, List.set_cons_zero, List.set_cons_succ]
        refine wpAnyH_take (i := 4) (oi := _) (v := ?_) rfl (by kernel_rfl) (by kernel_rfl) (by kernel_rfl) (fun _ _ _ h => h) (Or.inl ⟨by rfl, ?_⟩) (by assumption) ?_
        rotate_left
        · intro w hSw; go_simp; with_reducible rfl
        simp only [Act.put, List.getElem_toArray, List.getElem_cons_zero, List.getElem_cons_succ, List.setIfInBounds_toArray, List.set_cons_zero, List.set_cons_succ]
        refine wpAnyH_take (i := 5) (oi := _) (v := ?_) rfl (by kernel_rfl) (by kernel_rfl) (by kernel_rfl) (fun _ _ _ h => h) (Or.inl ⟨by rfl, ?_⟩) (by assumption) ?_
        rotate_left
        · intro w hSw; go_simp; with_reducible rfl
        simp only [Act.put, List.getElem_toArray, List.getElem_cons_zero, List.getElem_cons_succ, List.setIfInBounds_toArray, List.set_cons_zero, List.set_cons_succ]
        refine wpAnyH_take (i := 6) (oi := _) (v := ?_) rfl (by kernel_rfl) (by kernel_rfl) (by kernel_rfl) (fun _ _ _ h => h) (Or.inl ⟨by rfl, ?_⟩) (by assumption) ?_
        rotate_left
        · intro w hSw; go_simp; with_reducible rfl
        simp only [Act.put, List.getElem_toArray, List.getElem_cons_zero, List.getElem_cons_succ, List.setIfInBounds_toArray, List.set_cons_zero, List.set_cons_succ]
        refine wpAnyH_take (i := 7) (oi := _) (v := ?_) rfl (by kernel_rfl) (by kernel_rfl) (by kernel_rfl) (fun _ _ _ h => h) (Or.inl ⟨by rfl, ?_⟩) (by assumption) ?_
        rotate_left
        · intro w hSw; go_simp; with_reducible rfl
        simp only [Act.put, List.getElem_toArray, List.getElem_cons_zero, List.getElem_cons_succ, List.setIfInBounds_toArray, List.set_cons_zero, List.set_cons_succ]
        refine wpAnyH_take (i := 8) (oi := _) (v := ?_) rfl (by kernel_rfl) (by kernel_rfl) (by kernel_rfl) (fun _ _ _ h => h) (Or.inl ⟨by rfl, ?_⟩) (by assumption) ?_
        rotate_left
        · intro w hSw; go_simp; with_reducible rfl
        simp only [Act.put, List.getElem_toArray, List.getElem_cons_zero, List.getElem_cons_succ, List.setIfInBounds_toArray, List.set_cons_zero, List.set_cons_succ]
        refine wpAnyH_take (i := 11) (oi := _) (v := ?_) rfl (by kernel_rfl) (by kernel_rfl) (by kernel_rfl) (fun _ _ _ h => h) (Or.inl ⟨by rfl, ?_⟩) (by assumption) ?_
        rotate_left
        · intro w hSw; go_simp; with_reducible rfl
        simp only [Act.put, List.getElem_toArray, List.getElem_cons_zero, List.getElem_cons_succ, List.setIfInBounds_toArray, List.set_cons_zero, List.set_cons_succ]
        refine wpAnyH_take (i := 12) (oi := _) (v := ?_) rfl (by kernel_rfl) (by kernel_rfl) (by kernel_rfl) (fun _ _ _ h => h) (Or.inl ⟨by rfl, ?_⟩) (by assumption) ?_
        rotate_left
        · intro w hSw; go_simp; with_reducible rfl
        simp only [Act.put, List.getElem_toArray, List.getElem_cons_zero, List.getElem_cons_succ, List.setIfInBounds_toArray, List.set_cons_zero, List.set_cons_succ]
        refine wpAnyH_take (i := 13) (oi := _) (v := ?_) rfl (by kernel_rfl) (by kernel_rfl) (by kernel_rfl) (fun _ _ _ h => h) (Or.inl ⟨by rfl, ?_⟩) (by assumption) ?_
        rotate_left
        · intro w hSw; go_simp; with_reducible rfl
        simp only [Act.put, List.getElem_toArray, List.getElem_cons_zero, List.getElem_cons_succ, List.setIfInBounds_toArray, List.set_cons_zero, List.set_cons_succ]
        refine wpAnyH_take (i := 15) (oi := _) (v := ?_) rfl (by kernel_rfl) (by kernel_rfl) (by kernel_rfl) (fun _ _ _ h => h) (Or.inl ⟨by rfl, ?_⟩) (by assumption) ?_
        rotate_left
        · intro w hSw; go_simp; with_reducible rfl
        simp only [Act.put, List.getElem_toArray, List.getElem_cons_zero, List.getElem_cons_succ, List.setIfInBounds_toArray, List.set_cons_zero, List.set_cons_succ]
        refine wpAnyH_ready (rs := [9]) (by kernel_rfl) (by simp) ?_
        refine AllReadyH.cons rfl (fun K hK => ?_) AllReadyH.nil
        have hd := H3.out.step (Cls.drew _)
        go_simp
        refine (pick_led hd 4 rfl HB.out HBS.out hn (by omega) ((p : Int) - 1) (by omega) (by omega)).mono ?_
        rintro e w6 ⟨pv, rfl, hp0, hp1, h4⟩
        have hp2 := hp1 (by omega)
        have iw2 : IntKind.i64.wrap (av + 1 + pv) = av + 1 + pv := IntWalk.i64_in _ (by omega)
        obtain ⟨rv, hrv⟩ : ∃ rv : Int, (av + 1 + pv) % (p : Int) = rv := ⟨_, rfl⟩
        have iq1 : (av + 1 + pv).tmod (p : Int) = rv := by rw [Int.tmod_eq_emod_of_nonneg (by omega)]; exact hrv
        have hrb := Int.emod_nonneg (av + 1 + pv) (show (p : Int) ≠ 0 by omega)
        have hrb2 := Int.emod_lt_of_pos (av + 1 + pv) (show (0 : Int) < (p : Int) by omega)
        rw [hrv] at hrb hrb2
        have iw3 : IntKind.i64.wrap rv = rv := IntWalk.i64_in _ (by omega)
        clear hp1 hd
        go_wp2_with fail
        refine hK.out _ _ (⟨h4.cell 1 0 rfl rfl, h4.cell 1 1 rfl rfl⟩) (fun hHeld => ?_)
        clear hK K
        try simp only [Act.put, List.getElem_toArray, List.getElem_cons_zero, List.getElem_cons_succ, List.setIfInBounds_toArray, List.set_cons_zero, List.set_cons_succ]
        refine wpAnyH_take (i := 10) (oi := _) (v := ?_) rfl (by kernel_rfl) (by kernel_rfl) (by kernel_rfl) (fun _ _ _ h => h) (Or.inl ⟨by rfl, ?_⟩) (by assumption) ?_
        rotate_left
        · intro w hSw; go_simp; with_reducible rfl
        simp only [Act.put, List.getElem_toArray, List.getElem_cons_zero, List.getElem_cons_succ, List.setIfInBounds_toArray, List.set_cons_zero, List.set_cons_succ]
        refine wpAnyH_take (i := 14) (oi := _) (v := ?_) rfl (by kernel_rfl) (by kernel_rfl) (by kernel_rfl) (fun _ _ _ h => h) (Or.inl ⟨by rfl, ?_⟩) (by assumption) ?_
        rotate_left
        · intro w hSw; go_simp; with_reducible rfl
        simp only [Act.put, List.getElem_toArray, List.getElem_cons_zero, List.getElem_cons_succ, List.setIfInBounds_toArray, List.set_cons_zero, List.set_cons_succ]
        have y0 := h4.cell 5 0 rfl rfl
        have y1 := h4.cell 5 1 rfl rfl
        have t0 := h4.frozen 5 0 rfl
        have t1 := h4.frozen 5 1 rfl
        have h5 := (h4.set 5 rfl 0 (.slice B p cb)).set 5 rfl 1 (.slice E m d)
        refine wpAnyH_ready (rs := [16]) (by kernel_rfl) (by simp) ?_
        refine AllReadyH.cons rfl (fun K hK => ?_) AllReadyH.nil
        go_simp
        go_wp2_with fail
        refine hK.out _ _ (⟨h5.cell 1 0 rfl rfl, h5.cell 1 1 rfl rfl⟩) (fun hHeld => ?_)
        clear hK K
        try simp only [Act.put, List.getElem_toArray, List.getElem_cons_zero, List.getElem_cons_succ, List.setIfInBounds_toArray, List.set_cons_zero, List.set_cons_succ]
        refine wpAnyH_take (i := 17) (oi := _) (v := ?_) rfl (by kernel_rfl) (by kernel_rfl) (by kernel_rfl) (fun _ _ _ h => h) (Or.inl ⟨by rfl, ?_⟩) (by assumption) ?_
        rotate_left
        · intro w hSw; go_simp; with_reducible rfl
        simp only [Act.put, List.getElem_toArray, List.getElem_cons_zero, List.getElem_cons_succ, List.setIfInBounds_toArray, List.set_cons_zero, List.set_cons_succ]
        refine wpAnyH_take (i := 18) (oi := _) (v := ?_) rfl (by kernel_rfl) (by kernel_rfl) (by kernel_rfl) (fun _ _ _ h => h) (Or.inl ⟨by rfl, ?_⟩) (by assumption) ?_
        rotate_left
        · intro w hSw; go_simp; with_reducible rfl
        simp only [Act.put, List.getElem_toArray, List.getElem_cons_zero, List.getElem_cons_succ, List.setIfInBounds_toArray, List.set_cons_zero, List.set_cons_succ]
        refine wpAnyH_take (i := 19) (oi := _) (v := ?_) rfl (by kernel_rfl) (by kernel_rfl) (by kernel_rfl) (fun _ _ _ h => h) (Or.inl ⟨by rfl, ?_⟩) (by assumption) ?_
        rotate_left
        · intro w hSw; go_simp; with_reducible rfl
        simp only [Act.put, List.getElem_toArray, List.getElem_cons_zero, List.getElem_cons_succ, List.setIfInBounds_toArray, List.set_cons_zero, List.set_cons_succ]
        refine wpAnyH_done (by kernel_rfl) ?_ _
        have HE := hid h5
        have v0 := h5.cell 5 0 rfl rfl
        have v1 := h5.cell 5 1 rfl rfl
        clear h5 h4 H3 hHeld y0 y1 t0 t1
        go_wp2_with fail
        exact bodyPost_ret (v := .tuple #[.agg #[.slice B p cb, .slice E m d], .int .i64 av, .int .i64 rv, .slice V l.length cV]) (by simp [results, Tryz.results5, go_sem, v0, v1]) rfl (drAP.mk ⟨⟨_, _, Led.take2 (HE.out.drop 2)⟩, HXL.out, HFL.out, hp, hm, HXS.out⟩ (HE.out.sees 0 rfl rfl) hc9 h39)
      · go_wp2_with fail
        refine (pick_led H2.out 4 rfl HB.out HBS.out hn (by omega) 8 (by decide) (by decide)).mono ?_
        rintro e w3 ⟨pv, rfl, hp0, hp1, h3⟩
        have hp2 := hp1 (by decide)
        have iw : IntKind.i64.wrap (pv - 1) = pv - 1 := IntWalk.i64_in _ (by omega)
        have H3 := hid (h3.blk_ w3.heap.size rfl 3 #[.int .i64 (pv - 1)])
        clear h3 H2 hp1
        go_wp2_with (first
          | (at_builtin; refine wpList_append_led rfl _ _ 28 rfl H3.out 1 rfl Tryz.underlying28 hi hz0 hz1 (by rw [hz2]; decide) rfl rfl rfl (show Sees elInt _ _ _ 1 [pv - 1] from sees_new elInt _ _ _ _ rfl) (by have := HL.out; omega) H3.out.bl.size ?_)
          | go_in)
        intro A4 c4 w4 h4
        have hlen : (l ++ [pv - 1]).length = l.length + 1 := by simp
        obtain ⟨l2, hl2⟩ : ∃ l2, l2 = l ++ [pv - 1] := ⟨_, rfl⟩
        rw [← hl2] at h4 hlen
        rw [← hlen] at h4 ⊢
        have H4 := hid (h4.drop 1)
        have hc2 : l2.length ≤ c4 := by obtain ⟨_, _, hv, h1⟩ := H4.out.form 0 rfl; injection hv with _ _ h3; omega
        have HL2 : Hid (l2.length ≤ 30) := by unfold Hid; have := HL.out; omega
        clear h4 H3 hl2 hlen hp0 hp2 iw
        have H9 := hid (H4.out)
        have q0 := H9.out.cell 1 0 rfl rfl
        have q1 := H9.out.cell 1 1 rfl rfl
        have hc9 := hc2
        have h39 := HL2.out
        go_wp2_with fail
        refine (pick_led H9.out 4 rfl HB.out HBS.out hn (by omega) (p : Int) (by omega) (by omega)).mono ?_
        rintro e w5 ⟨av, rfl, ha0, ha1, h3⟩
        have ha2 := ha1 (by omega)
        have H3 := hid h3
        clear h3 H9 q0 q1 ha1
        obtain ⟨W3, hW3⟩ : ∃ W3, W3 = w5 := ⟨_, rfl⟩
        rw [← hW3] at H3 ⊢
        clear hW3
        have iw0 : IntKind.i64.wrap ((p : Int) - 1) = (p : Int) - 1 := IntWalk.i64_in _ (by omega)
        have iw1 : IntKind.i64.wrap (av + 1) = av + 1 := IntWalk.i64_in _ (by omega)
        have ikz : ((p : Int) == 0) = false := by simp; omega
        have ikz3 : ¬ (p = 0) := by omega
        go_wp2_with fail
        refine wp_region_held_drew (S := fun w' => w'.cell? ⟨w1.heap.size, 0, none⟩ = some (.slice B p cb) ∧ w'.cell? ⟨w1.heap.size, 1, none⟩ = some (.slice E m d)) (by kernel_rfl) (⟨H3.out.cell 1 0 rfl rfl, H3.out.cell 1 1 rfl rfl⟩) (fun hHeld => ?_)
        refine wpAnyH_take (i := 0) (oi := _) (v := ?_) rfl (by kernel_rfl) (by kernel_rfl) (by kernel_rfl) (fun _ _ _ h => h) (Or.inl ⟨by rfl, ?_⟩) (by assumption) ?_
        rotate_left
        · intro w hSw; go_simp; with_reducible rfl
        simp only [Act.put, List.getElem_toArray, List.getElem_cons_zero, List.setIfInBounds_toArray, List.set_cons_zero, List.set_cons_succ]
        refine wpAnyH_take (i := 1) (oi := _) (v := ?_) rfl (by kernel_rfl) (by kernel_rfl) (by kernel_rfl) (fun _ _ _ h => h) (Or.inl ⟨by rfl, ?_⟩) (by assumption) ?_
        rotate_left
        · intro w hSw; go_simp; with_reducible rfl
        simp only [Act.put, List.getElem_toArray, List.getElem_cons_zero, List.getElem_cons_succ, List.setIfInBounds_toArray, List.set_cons_zero, List.set_cons_succ]
        refine wpAnyH_take (i := 2) (oi := _) (v := ?_) rfl (by kernel_rfl) (by kernel_rfl) (by kernel_rfl) (fun _ _ _ h => h) (Or.inl ⟨by rfl, ?_⟩) (by assumption) ?_
        rotate_left
        · intro w hSw; go_simp; with_reducible rfl
        simp only [Act.put, List.getElem_toArray, List.getElem_cons_zero, List.getElem_cons_succ, List.setIfInBounds_toArray, List.set_cons_zero, List.set_cons_succ]
        refine wpAnyH_take (i := 3) (oi := _) (v := ?_) rfl (by kernel_rfl) (by kernel_rfl) (by kernel_rfl) (fun _ _ _ h => h) (Or.inl ⟨by rfl, ?_⟩) (by assumption) ?_
        rotate_left
        · intro w hSw; go_simp; with_reducible rfl
        simp only [Act.put, List.getElem_toArray, List.getElem_cons_zero, List.getElem_cons_succ, List.setIfInBounds_toArray, List.set_cons_zero, List.set_cons_succ]
        refine wpAnyH_take (i := 4) (oi := _) (v := ?_) rfl (by kernel_rfl) (by kernel_rfl) (by kernel_rfl) (fun _ _ _ h => h) (Or.inl ⟨by rfl, ?_⟩) (by assumption) ?_
        rotate_left
        · intro w hSw; go_simp; with_reducible rfl
        simp only [Act.put, List.getElem_toArray, List.getElem_cons_zero, List.getElem_cons_succ, List.setIfInBounds_toArray, List.set_cons_zero, List.set_cons_succ]
        refine wpAnyH_take (i := 5) (oi := _) (v := ?_) rfl (by kernel_rfl) (by kernel_rfl) (by kernel_rfl) (fun _ _ _ h => h) (Or.inl ⟨by rfl, ?_⟩) (by assumption) ?_
        rotate_left
        · intro w hSw; go_simp; with_reducible rfl
        simp only [Act.put, List.getElem_toArray, List.getElem_cons_zero, List.getElem_cons_succ, List.setIfInBounds_toArray, List.set_cons_zero, List.set_cons_succ]
        refine wpAnyH_take (i := 6) (oi := _) (v := ?_) rfl (by kernel_rfl) (by kernel_rfl) (by kernel_rfl) (fun _ _ _ h => h) (Or.inl ⟨by rfl, ?_⟩) (by assumption) ?_
        rotate_left
        · intro w hSw; go_simp; with_reducible rfl
        simp only [Act.put, List.getElem_toArray, List.getElem_cons_zero, List.getElem_cons_succ, List.setIfInBounds_toArray, List.set_cons_zero, List.set_cons_succ]
        refine wpAnyH_take (i := 7) (oi := _) (v := ?_) rfl (by kernel_rfl) (by kernel_rfl) (by kernel_rfl) (fun _ _ _ h => h) (Or.inl ⟨by rfl, ?_⟩) (by assumption) ?_
        rotate_left
        · intro w hSw; go_simp; with_reducible rfl
        simp only [Act.put, List.getElem_toArray, List.getElem_cons_zero, List.getElem_cons_succ, List.setIfInBounds_toArray, List.set_cons_zero, List.set_cons_succ]
        refine wpAnyH_take (i := 8) (oi := _) (v := ?_) rfl (by kernel_rfl) (by kernel_rfl) (by kernel_rfl) (fun _ _ _ h => h) (Or.inl ⟨by rfl, ?_⟩) (by assumption) ?_
        rotate_left
        · intro w hSw; go_simp; with_reducible rfl
        simp only [Act.put, List.getElem_toArray, List.getElem_cons_zero, List.getElem_cons_succ, List.setIfInBounds_toArray, List.set_cons_zero, List.set_cons_succ]
        refine wpAnyH_take (i := 11) (oi := _) (v := ?_) rfl (by kernel_rfl) (by kernel_rfl) (by kernel_rfl) (fun _ _ _ h => h) (Or.inl ⟨by rfl, ?_⟩) (by assumption) ?_
        rotate_left
        · intro w hSw; go_simp; with_reducible rfl
        simp only [Act.put, List.getElem_toArray, List.getElem_cons_zero, List.getElem_cons_succ, List.setIfInBounds_toArray, List.set_cons_zero, List.set_cons_succ]
        refine wpAnyH_take (i := 12) (oi := _) (v := ?_) rfl (by kernel_rfl) (by kernel_rfl) (by kernel_rfl) (fun _ _ _ h => h) (Or.inl ⟨by rfl, ?_⟩) (by assumption) ?_
        rotate_left
        · intro w hSw; go_simp; with_reducible rfl
        simp only [Act.put, List.getElem_toArray, List.getElem_cons_zero, List.getElem_cons_succ, List.setIfInBounds_toArray, List.set_cons_zero, List.set_cons_succ]
        refine wpAnyH_take (i := 13) (oi := _) (v := ?_) rfl (by kernel_rfl) (by kernel_rfl) (by kernel_rfl) (fun _ _ _ h => h) (Or.inl ⟨by rfl, ?_⟩) (by assumption) ?_
        rotate_left
        · intro w hSw; go_simp; with_reducible rfl
        simp only [Act.put, List.getElem_toArray, List.getElem_cons_zero, List.getElem_cons_succ, List.setIfInBounds_toArray, List.set_cons_zero, List.set_cons_succ]
        refine wpAnyH_take (i := 15) (oi := _) (v := ?_) rfl (by kernel_rfl) (by kernel_rfl) (by kernel_rfl) (fun _ _ _ h => h) (Or.inl ⟨by rfl, ?_⟩) (by assumption) ?_
        rotate_left
        · intro w hSw; go_simp; with_reducible rfl
        simp only [Act.put, List.getElem_toArray, List.getElem_cons_zero, List.getElem_cons_succ, List.setIfInBounds_toArray, List.set_cons_zero, List.set_cons_succ]
        refine wpAnyH_ready (rs := [9]) (by kernel_rfl) (by simp) ?_
        refine AllReadyH.cons rfl (fun K hK => ?_) AllReadyH.nil
        have hd := H3.out.step (Cls.drew _)
        go_simp
        refine (pick_led hd 4 rfl HB.out HBS.out hn (by omega) ((p : Int) - 1) (by omega) (by omega)).mono ?_
        rintro e w6 ⟨pv, rfl, hp0, hp1, h4⟩
        have hp2 := hp1 (by omega)
        have iw2 : IntKind.i64.wrap (av + 1 + pv) = av + 1 + pv := IntWalk.i64_in _ (by omega)
        obtain ⟨rv, hrv⟩ : ∃ rv : Int, (av + 1 + pv) % (p : Int) = rv := ⟨_, rfl⟩
        have iq1 : (av + 1 + pv).tmod (p : Int) = rv := by rw [Int.tmod_eq_emod_of_nonneg (by omega)]; exact hrv
        have hrb := Int.emod_nonneg (av + 1 + pv) (show (p : Int) ≠ 0 by omega)
        have hrb2 := Int.emod_lt_of_pos (av + 1 + pv) (show (0 : Int) < (p : Int) by omega)
        rw [hrv] at hrb hrb2
        have iw3 : IntKind.i64.wrap rv = rv := IntWalk.i64_in _ (by omega)
        clear hp1 hd
        go_wp2_with fail
        refine hK.out _ _ (⟨h4.cell 1 0 rfl rfl, h4.cell 1 1 rfl rfl⟩) (fun hHeld => ?_)
        clear hK K
        try simp only [Act.put, List.getElem_toArray, List.getElem_cons_zero, List.getElem_cons_succ, List.setIfInBounds_toArray, List.set_cons_zero, List.set_cons_succ]
        refine wpAnyH_take (i := 10) (oi := _) (v := ?_) rfl (by kernel_rfl) (by kernel_rfl) (by kernel_rfl) (fun _ _ _ h => h) (Or.inl ⟨by rfl, ?_⟩) (by assumption) ?_
        rotate_left
        · intro w hSw; go_simp; with_reducible rfl
        simp only [Act.put, List.getElem_toArray, List.getElem_cons_zero, List.getElem_cons_succ, List.setIfInBounds_toArray, List.set_cons_zero, List.set_cons_succ]
        refine wpAnyH_take (i := 14) (oi := _) (v := ?_) rfl (by kernel_rfl) (by kernel_rfl) (by kernel_rfl) (fun _ _ _ h => h) (Or.inl ⟨by rfl, ?_⟩) (by assumption) ?_
        rotate_left
        · intro w hSw; go_simp; with_reducible rfl
        simp only [Act.put, List.getElem_toArray, List.getElem_cons_zero, List.getElem_cons_succ, List.setIfInBounds_toArray, List.set_cons_zero, List.set_cons_succ]
        have y0 := h4.cell 5 0 rfl rfl
        have y1 := h4.cell 5 1 rfl rfl
        have t0 := h4.frozen 5 0 rfl
        have t1 := h4.frozen 5 1 rfl
        have h5 := (h4.set 5 rfl 0 (.slice B p cb)).set 5 rfl 1 (.slice E m d)
        refine wpAnyH_ready (rs := [16]) (by kernel_rfl) (by simp) ?_
        refine AllReadyH.cons rfl (fun K hK => ?_) AllReadyH.nil
        go_simp
        go_wp2_with fail
        refine hK.out _ _ (⟨h5.cell 1 0 rfl rfl, h5.cell 1 1 rfl rfl⟩) (fun hHeld => ?_)
        clear hK K
        try simp only [Act.put, List.getElem_toArray, List.getElem_cons_zero, List.getElem_cons_succ, List.setIfInBounds_toArray, List.set_cons_zero, List.set_cons_succ]
        refine wpAnyH_take (i := 17) (oi := _) (v := ?_) rfl (by kernel_rfl) (by kernel_rfl) (by kernel_rfl) (fun _ _ _ h => h) (Or.inl ⟨by rfl, ?_⟩) (by assumption) ?_
        rotate_left
        · intro w hSw; go_simp; with_reducible rfl
        simp only [Act.put, List.getElem_toArray, List.getElem_cons_zero, List.getElem_cons_succ, List.setIfInBounds_toArray, List.set_cons_zero, List.set_cons_succ]
        refine wpAnyH_take (i := 18) (oi := _) (v := ?_) rfl (by kernel_rfl) (by kernel_rfl) (by kernel_rfl) (fun _ _ _ h => h) (Or.inl ⟨by rfl, ?_⟩) (by assumption) ?_
        rotate_left
        · intro w hSw; go_simp; with_reducible rfl
        simp only [Act.put, List.getElem_toArray, List.getElem_cons_zero, List.getElem_cons_succ, List.setIfInBounds_toArray, List.set_cons_zero, List.set_cons_succ]
        refine wpAnyH_take (i := 19) (oi := _) (v := ?_) rfl (by kernel_rfl) (by kernel_rfl) (by kernel_rfl) (fun _ _ _ h => h) (Or.inl ⟨by rfl, ?_⟩) (by assumption) ?_
        rotate_left
        · intro w hSw; go_simp; with_reducible rfl
        simp only [Act.put, List.getElem_toArray, List.getElem_cons_zero, List.getElem_cons_succ, List.setIfInBounds_toArray, List.set_cons_zero, List.set_cons_succ]
        refine wpAnyH_done (by kernel_rfl) ?_ _
        have HE := hid h5
        have v0 := h5.cell 5 0 rfl rfl
        have v1 := h5.cell 5 1 rfl rfl
        clear h5 h4 H3 hHeld y0 y1 t0 t1
        go_wp2_with fail
        exact bodyPost_ret (v := .tuple #[.agg #[.slice B p cb, .slice E m d], .int .i64 av, .int .i64 rv, .slice A4 l2.length c4]) (by simp [results, Tryz.results5, go_sem, v0, v1]) rfl (drAP.mk ⟨⟨_, _, Led.take2 (HE.out.drop 2)⟩, HXL.out, HFL.out, hp, hm, HXS.out⟩ (HE.out.sees 0 rfl rfl) hc9 h39)
end
end Go.Proofs.YtjfafhehpfjofaaGreat
/- What two lists have in common, in ascending order, in plain Lean. Conditions: none. -/
namespace Go.Proofs.YtjfafhehpfjofaaGreat
/-- Strictly ascending. -/
def ascL (l : List Int) : Prop := l.Pairwise (· < ·)
/-- Strictly ascending lists with the same members are one. -/
theorem asc_ext : ∀ {a b : List Int}, ascL a → ascL b → (∀ x, x ∈ a ↔ x ∈ b) → a = b := by
  intro a
  induction a with
  | nil =>
    intro b _ _ h
    cases b with
    | nil => rfl
    | cons y b => exact absurd ((h y).2 (by simp)) (by simp)
  | cons x a ih =>
    intro b ha hb h
    cases b with
    | nil => exact absurd ((h x).1 (by simp)) (by simp)
    | cons y b =>
      unfold ascL at ha hb
      rw [List.pairwise_cons] at ha hb
      have hxy : x = y := by
        have h1 : x ∈ y :: b := (h x).1 (by simp)
        have h2 : y ∈ x :: a := (h y).2 (by simp)
        rcases List.mem_cons.1 h1 with e | h1
        · exact e
        · rcases List.mem_cons.1 h2 with e | h2
          · exact e.symm
          · have := hb.1 x h1
            have := ha.1 y h2
            omega
      subst hxy
      congr 1
      refine ih ha.2 hb.2 (fun z => ?_)
      constructor
      · intro hz
        have h1 := (h z).1 (by simp [hz])
        rcases List.mem_cons.1 h1 with e | h1
        · have := ha.1 z hz; omega
        · exact h1
      · intro hz
        have h1 := (h z).2 (by simp [hz])
        rcases List.mem_cons.1 h1 with e | h1
        · have := hb.1 z hz; omega
        · exact h1
/-- A number put to its place, once. -/
def putL : List Int → Int → List Int
  | [], n => [n]
  | x :: l, n => if x < n then x :: putL l n else if x = n then x :: l else n :: x :: l
theorem putL_mem : ∀ {l : List Int} {n x : Int}, x ∈ putL l n ↔ x ∈ l ∨ x = n := by
  intro l
  induction l with
  | nil => intro n x; simp [putL]
  | cons y l ih =>
    intro n x
    unfold putL
    split
    · simp [ih, or_assoc]
    · split
      · rename_i e; subst e
        simp
        intro h; exact .inl h
      · simp
        constructor
        · rintro (h | h | h)
          · exact .inr h
          · exact .inl (.inl h)
          · exact .inl (.inr h)
        · rintro ((h | h) | h)
          · exact .inr (.inl h)
          · exact .inr (.inr h)
          · exact .inl h
theorem putL_asc : ∀ {l : List Int} {n : Int}, ascL l → ascL (putL l n) := by
  intro l
  induction l with
  | nil => intro n _; simp [putL, ascL]
  | cons y l ih =>
    intro n h
    unfold ascL at h
    rw [List.pairwise_cons] at h
    unfold putL
    split
    · rename_i hlt
      unfold ascL
      rw [List.pairwise_cons]
      refine ⟨fun z hz => ?_, ih h.2⟩
      rcases putL_mem.1 hz with hz | rfl
      · exact h.1 z hz
      · exact hlt
    · rename_i hlt
      split
      · unfold ascL; rw [List.pairwise_cons]; exact h
      · rename_i hne
        unfold ascL
        rw [List.pairwise_cons, List.pairwise_cons]
        refine ⟨fun z hz => ?_, h⟩
        rcases List.mem_cons.1 hz with rfl | hz
        · omega
        · have := h.1 z hz; omega
theorem compact_asc {l : List Int} (h : l.Pairwise (· ≤ ·)) : ascL (Lib.compact l) ∧ ∀ x, x ∈ Lib.compact l ↔ x ∈ l := by
  have hle : ∀ i j, i ≤ j → j < l.length → l[i]! ≤ l[j]! := by
    intro i j hij hj
    rcases Nat.lt_or_ge i j with hlt | hge
    · have := List.pairwise_iff_getElem.1 h i j (by omega) hj hlt
      rw [getElem!_pos l i (by omega), getElem!_pos l j hj]; exact this
    · rw [show i = j by omega]; exact Int.le_refl _
  have e : ∀ j : Nat, l.toArray[j]! = l[j]! := by
    intro j
    by_cases hj : j < l.length
    · rw [getElem!_pos l j hj, getElem!_pos l.toArray j (by simpa using hj), List.getElem_toArray]
    · rw [getElem!_neg l j hj, getElem!_neg l.toArray j (by simpa using hj)]
  constructor
  · unfold ascL Lib.compact Lib.compactUpTo
    rw [List.pairwise_map]
    refine List.Pairwise.imp_of_mem (R := fun a b => a < b) ?_ (List.Pairwise.filter _ List.pairwise_lt_range)
    intro i j hi hj hij
    have hj1 := (List.mem_filter.1 hj).2
    have hj2 : j < l.length := by simpa using (List.mem_filter.1 hj).1
    rw [e, e]
    have h1 := hle i (j - 1) (by omega) (by omega)
    have h2 := hle (j - 1) j (by omega) hj2
    unfold Lib.keeps at hj1
    rw [e, e] at hj1
    have h3 : l[j]! ≠ l[j - 1]! := by
      intro hh
      rw [hh] at hj1
      simp at hj1
      omega
    omega
  · intro x
    unfold Lib.compact Lib.compactUpTo
    rw [List.mem_map]
    constructor
    · rintro ⟨j, hj, rfl⟩
      have hj2 : j < l.length := by simpa using (List.mem_filter.1 hj).1
      rw [e, getElem!_pos l j hj2]
      exact List.getElem_mem hj2
    · intro hx
      obtain ⟨k, hk, hkx⟩ := List.mem_iff_getElem.1 hx
      have hex : ∃ j, j < l.length ∧ l[j]! = x ∧ ∀ i, i < j → l[i]! ≠ x := by
        clear hle
        induction k using Nat.strongRecOn with
        | _ k ih =>
          rcases Classical.em (∃ i, i < k ∧ l[i]! = x) with ⟨i, hi, hix⟩ | hno
          · exact ih i hi (by omega) (by rw [getElem!_pos l i (by omega)] at hix; exact hix)
          · exact ⟨k, hk, by rw [getElem!_pos l k hk]; exact hkx, fun i hi h => hno ⟨i, hi, h⟩⟩
      obtain ⟨j, hj, hjx, hmin⟩ := hex
      refine ⟨j, List.mem_filter.2 ⟨by simpa using hj, ?_⟩, by rw [e]; exact hjx⟩
      unfold Lib.keeps
      rw [e, e, hjx]
      by_cases h0 : j = 0
      · simp [h0]
      · have := hmin (j - 1) (by omega)
        exact decide_eq_true (Or.inr (fun h => this h.symm))
/-- What two lists have in common. -/
def comL (a b : List Int) : List Int := Lib.compact ((a.filter fun x => hasB b x).mergeSort fun x y => decide (x ≤ y))
theorem comL_asc (a b : List Int) : ascL (comL a b) ∧ ∀ x, x ∈ comL a b ↔ x ∈ a ∧ x ∈ b := by
  have hs : ((a.filter fun x => hasB b x).mergeSort fun x y => decide (x ≤ y)).Pairwise (· ≤ ·) := by
    have := List.pairwise_mergeSort (le := fun x y : Int => decide (x ≤ y)) (fun a b c h1 h2 => by simp at *; omega) (fun a b => by simp; omega) (a.filter fun x => hasB b x)
    exact this.imp (fun h => by simpa using h)
  obtain ⟨h1, h2⟩ := compact_asc hs
  refine ⟨h1, fun x => ?_⟩
  unfold comL
  rw [h2, List.mem_mergeSort, List.mem_filter, hasB_iff]
end Go.Proofs.YtjfafhehpfjofaaGreat
/- Sorted lists in plain Lean: one order, one list; a thing put at its place. Conditions: as each states. -/
namespace Go.Proofs.YtjfafhehpfjofaaGreat
section
variable {R : Type} {le : R → R → Prop}
/-- Two sorted lists of the same things are one. -/
theorem sorted_one (hanti : ∀ a b, le a b → le b a → a = b) : ∀ {l1 l2 : List R}, l1.Pairwise le → l2.Pairwise le → l1.Perm l2 → l1 = l2 := by
  intro l1
  induction l1 with
  | nil => intro l2 _ _ hp; exact (List.nil_perm.1 hp).symm
  | cons a l1 ih =>
    intro l2 h1 h2 hp
    cases l2 with
    | nil => exact absurd hp.length_eq (by simp)
    | cons b l2 =>
      rw [List.pairwise_cons] at h1 h2
      have ha : a ∈ b :: l2 := hp.mem_iff.1 (by simp)
      have hb : b ∈ a :: l1 := hp.mem_iff.2 (by simp)
      have e : a = b := by
        rcases List.mem_cons.1 ha with e | ha
        · exact e
        · rcases List.mem_cons.1 hb with e | hb
          · exact e.symm
          · exact hanti a b (h1.1 b hb) (h2.1 a ha)
      subst e
      rw [ih h1.2 h2.2 hp.cons_inv]
/-- A thing put at its place. -/
def putAt (l : List R) (p : Nat) (r : R) : List R := l.take p ++ r :: l.drop p
theorem putAt_len (l : List R) (p : Nat) (r : R) : (putAt l p r).length = l.length + 1 := by
  unfold putAt
  rw [List.length_append, List.length_cons, List.length_take, List.length_drop]; omega
theorem putAt_perm (l : List R) (p : Nat) (r : R) : (putAt l p r).Perm (r :: l) := by
  unfold putAt
  have h := List.perm_middle (a := r) (l₁ := l.take p) (l₂ := l.drop p)
  rwa [List.take_append_drop] at h
theorem putAt_sorted {l : List R} {p : Nat} {r : R} (h : l.Pairwise le) (h1 : ∀ e ∈ l.take p, le e r) (h2 : ∀ e ∈ l.drop p, le r e) : (putAt l p r).Pairwise le := by
  unfold putAt
  have hd := (List.take_append_drop p l).symm ▸ h
  rw [List.pairwise_append] at hd
  rw [List.pairwise_append, List.pairwise_cons]
  refine ⟨hd.1, ⟨h2, hd.2.1⟩, fun a ha b hb => ?_⟩
  rcases List.mem_cons.1 hb with e | hb
  · rw [e]; exact h1 a ha
  · exact hd.2.2 a ha b hb
/-- Where a thing is put: behind the last that is not greater. -/
theorem place_ok {l : List R} {p : Nat} {r : R} (htr : ∀ a b c, le a b → le b c → le a c) (h : l.Pairwise le) (hp : p ≤ l.length) (hb : ∀ j e, p ≤ j → l[j]? = some e → le r e) (hs : p = 0 ∨ ∃ e, l[p - 1]? = some e ∧ le e r) : (putAt l p r).Pairwise le := by
  refine putAt_sorted h (fun e he => ?_) (fun e he => ?_)
  · rcases hs with h0 | ⟨x, hx, hxr⟩
    · subst h0; simp at he
    · obtain ⟨j, hj⟩ := List.getElem?_of_mem he
      rw [List.getElem?_take] at hj
      split at hj
      · rename_i hjp
        rcases Nat.lt_or_ge j (p - 1) with hlt | hge
        · have h3 := List.pairwise_iff_getElem.1 h j (p - 1) (List.getElem?_eq_some_iff.1 hj).1 (List.getElem?_eq_some_iff.1 hx).1 hlt
          rw [(List.getElem?_eq_some_iff.1 hj).2, (List.getElem?_eq_some_iff.1 hx).2] at h3
          exact htr _ _ _ h3 hxr
        · have : j = p - 1 := by omega
          rw [this, hx] at hj
          injection hj with hj
          rw [← hj]; exact hxr
      · cases hj
  · obtain ⟨j, hj⟩ := List.getElem?_of_mem he
    rw [List.getElem?_drop] at hj
    exact hb (p + j) e (by omega) hj
/-- All put in one after another: a sorted list of them all. -/
theorem fold_put {ins : List R → R → List R} (hperm : ∀ l r, (ins l r).Perm (r :: l)) (hsort : ∀ l r, l.Pairwise le → (ins l r).Pairwise le) : ∀ (D l : List R), l.Pairwise le → (D.foldl ins l).Pairwise le ∧ (D.foldl ins l).Perm (D ++ l) := by
  intro D
  induction D with
  | nil => intro l h; exact ⟨h, List.Perm.refl _⟩
  | cons r D ih =>
    intro l h
    rw [List.foldl_cons]
    obtain ⟨h1, h2⟩ := ih (ins l r) (hsort l r h)
    refine ⟨h1, h2.trans ?_⟩
    exact ((hperm l r).append_left D).trans List.perm_middle
end
end Go.Proofs.YtjfafhehpfjofaaGreat
/- Lists of numbers: slices.Index, slices.Contains, l1Has, l1Rising, isSet, toIntS, walked. Conditions: none (toIntS: at most 1048576). -/
namespace Go.Proofs.YtjfafhehpfjofaaGreat
open Go.RowKit
section
variable {B n c : Nat} {A : Option Addr} {xs : List Int}
theorem indexI_any (s : Int) (w : World) (hA : Sees elInt w B A n xs) (hn : n ≤ maxLen) :
    Calls Tryz.prog 66 #[.slice A n c, .int .i64 s] w fun e w' => e = .returned (.int .i64 (findI xs s)) ∧ w = w' := by
  unfold maxLen at hn
  go_enter Tryz.func66, Tryz.ntmps66
  go_wp2
  go_loop [8] (fun i => ∃ k : Nat, k ≤ n ∧ i = .int .i64 k ∧ Hid (noneTo xs s k)) (fun i => n - (intOf i).toNat)
  case atStart => exact ⟨0, Nat.zero_le _, rfl, noneTo_zero⟩
  case round =>
    obtain ⟨k, hk, rfl, hno⟩ := hrel
    by_cases hlt : k < n
    · obtain ⟨b, o, rfl, _, hx⟩ := hA.at_ hlt
      obtain ⟨x, hxk⟩ : ∃ x, xs[k]? = some x := ⟨xs[k]'(by rw [hA.len]; exact hlt), List.getElem?_eq_getElem _⟩
      have hc := hx k x hxk 0 _ rfl
      simp only [elInt, Nat.mul_one, Nat.add_zero] at hc
      clear hx
      by_cases heq : x = s
      · subst heq
        have HF := hid (findI_at hno hxk)
        clear hxk
        go_wp2
        go_ret
        exact ⟨by rw [HF.out]; rfl, rfl⟩
      · have hne : (s == x) = false := by simp; exact fun e => heq e.symm
        have HN := hid (noneTo_succ hno hxk heq)
        clear hxk hno
        go_wp2
        go_round
        case rel => exact ⟨k + 1, by omega, by go_num, HN⟩
        case measure => simp [intOf]; omega
    · have HF : Hid (findI xs s = -1) := findI_none hA.len (by obtain rfl : k = n := (by omega); exact hno.out)
      go_wp2
      go_ret
      exact ⟨by rw [HF.out]; rfl, rfl⟩
theorem containsI_any (s : Int) (w : World) (hA : Sees elInt w B A n xs) (hn : n ≤ maxLen) :
    Calls Tryz.prog 41 #[.slice A n c, .int .i64 s] w fun e w' => e = .returned (.bool (hasB xs s)) ∧ w = w' := by
  go_enter Tryz.func41, Tryz.ntmps41
  go_wp2_with (go_at_call 66; refine (indexI_any s _ hA hn).mono ?_; rintro e w' ⟨rfl, rfl⟩)
  go_ret
  exact ⟨rfl, rfl⟩
theorem l1Has_any (s : Int) (w : World) (hA : Sees elInt w B A n xs) (hn : n ≤ maxLen) :
    Calls Tryz.prog 73 #[.slice A n c, .int .i64 s] w fun e w' => e = .returned (.bool (hasB xs s)) ∧ w = w' := by
  unfold maxLen at hn
  go_enter Tryz.func73, Tryz.ntmps73
  go_wp2
  go_loop [5] (fun i => ∃ k : Nat, k ≤ n ∧ i = .int .i64 k ∧ Hid (noneTo xs s k)) (fun i => n - (intOf i).toNat)
  case atStart => exact ⟨0, Nat.zero_le _, rfl, noneTo_zero⟩
  case round =>
    obtain ⟨k, hk, rfl, hno⟩ := hrel
    by_cases hlt : k < n
    · obtain ⟨b, o, rfl, _, hx⟩ := hA.at_ hlt
      obtain ⟨x, hxk⟩ : ∃ x, xs[k]? = some x := ⟨xs[k]'(by rw [hA.len]; exact hlt), List.getElem?_eq_getElem _⟩
      have hc := hx k x hxk 0 _ rfl
      simp only [elInt, Nat.mul_one, Nat.add_zero] at hc
      clear hx
      by_cases heq : x = s
      · subst heq
        have HF : Hid (hasB xs x = true) := hasB_iff.2 (List.mem_of_getElem? hxk)
        clear hxk
        go_wp2
        go_ret
        exact ⟨by rw [HF.out]; rfl, rfl⟩
      · have hne : (x == s) = false := by simp; exact heq
        have HN := hid (noneTo_succ hno hxk heq)
        clear hxk hno
        go_wp2
        go_round
        case rel => exact ⟨k + 1, by omega, by go_num, HN⟩
        case measure => simp [intOf]; omega
    · have HF : Hid (hasB xs s = false) := by
        unfold Hid
        cases g : hasB xs s
        · rfl
        · exact absurd (hasB_iff.1 g) (noneTo_not hA.len (by obtain rfl : k = n := (by omega); exact hno.out))
      go_wp2
      go_ret
      exact ⟨by rw [HF.out]; rfl, rfl⟩
/-- Number k lies within bounds and above the one before it. -/
def riseAt (lo hi : Int) (xs : List Int) (k : Nat) : Bool := inB lo hi (xs.getD k 0) && !(decide (0 < k) && decide (xs.getD k 0 ≤ xs.getD (k - 1) 0))
def risB (lo hi : Int) (xs : List Int) : Bool := allB (riseAt lo hi xs) xs.length
set_option maxHeartbeats 1000000 in
set_option maxRecDepth 100000 in
theorem l1Rising_any (lo hi : Int) (w : World) (hA : Sees elInt w B A n xs) (hn : n ≤ 1048576) :
    Calls Tryz.prog 21 #[.slice A n c, .int .i64 lo, .int .i64 hi] w fun e w' => e = .returned (.bool (risB lo hi xs)) ∧ Below w.heap.size w w' := by
  have hl := hA.len
  go_enter Tryz.func21, Tryz.ntmps21
  go_wp2
  go_loopw [7] (fun i wr => ∃ k : Nat, k ≤ n ∧ i = .int .i64 k ∧ Hid (allTo (riseAt lo hi xs) k) ∧ Below w.heap.size w wr) (fun i _ => n - (intOf i).toNat)
  case atStart => exact ⟨0, Nat.zero_le _, rfl, allTo_zero _, Below.refl _ _⟩
  case round =>
    obtain ⟨k, hk, rfl, hno, hb⟩ := hrel
    by_cases hlt : k < n
    · obtain ⟨b, o, rfl, _, hx⟩ := hA.at_ hlt
      obtain ⟨x, hxk⟩ := get_of (k := k) hl hlt
      have hc := bl_cell hb (hx k x hxk 0 _ rfl)
      simp only [elInt, Nat.mul_one, Nat.add_zero] at hc
      have T0 : ∀ w', Cls wr w' → w'.cell? ⟨b, o + k, none⟩ = some (.int .i64 x) := fun _ h => h.cell hc
      have iz : (k : Int) < (n : Int) := by omega
      cases g1 : inB lo hi x
      · have HF : Hid (risB lo hi xs = false) := allB_no (k := k) (by omega) (by unfold riseAt; rw [getD_of hxk, g1]; rfl)
        clear hx hxk hno hl
        go_wp2
        refine region_cls (by kernel_rfl) (by kernel_rfl) ?_
        repeat (first
          | ((with_reducible refine quiet_pos ?_ (fun K hK => ?_))
             · rfl
             apply Exists.intro
             refine ⟨fun w' hw' => ?_, ?_⟩
             · go_simp
               first
                 | with_reducible rfl
                 | (go_at_call 45; exact hw'.same (l1In_any _ _ _ _))
             simp only [Act.put, List.setIfInBounds_toArray, List.set_cons_zero, List.set_cons_succ]
             refine hK _ ?_; clear hK K)
          | ((with_reducible refine quiet_neg ?_ (fun K hK => ?_))
             · rfl
             simp only [Act.put, List.setIfInBounds_toArray, List.set_cons_zero, List.set_cons_succ]
             refine hK _ ?_; clear hK K))
        with_reducible refine wpQuiet_nil ?_
        intro w3 hw3
        go_wp2
        go_ret
        exact ⟨by rw [HF.out]; rfl, bl_then hb hw3⟩
      · by_cases hk0 : 0 < k
        · obtain ⟨y, hyk⟩ := get_of (k := k - 1) hl (by omega)
          have hcy := bl_cell hb (hx (k - 1) y hyk 0 _ rfl)
          simp only [elInt, Nat.mul_one, Nat.add_zero] at hcy
          have i0 : decide ((0 : Nat) < k) = true := decide_eq_true hk0
          have i1 : IntKind.i64.wrap ((k : Int) - 1) = (k : Int) - 1 := IntWalk.i64_in _ (by omega)
          have i2 : (0 : Int) ≤ (k : Int) - 1 := by omega
          have i3 : ((k : Int) - 1).toNat = k - 1 := by omega
          have i4 : (k : Int) - 1 < (n : Int) := by omega
          have i5 : (1 : Int) ≤ (k : Int) := by omega
          have i6 : 1 ≤ k := by omega
          have T1 : ∀ w', Cls wr w' → w'.cell? ⟨b, o + (k - 1), none⟩ = some (.int .i64 y) := fun _ h => h.cell hcy
          cases g2 : decide (x ≤ y)
          · have HN : Hid (allTo (riseAt lo hi xs) (k + 1)) := allTo_succ hno.out (by unfold riseAt; rw [getD_of hxk, getD_of hyk, g1, g2, i0]; rfl)
            clear hx hxk hyk hno hl
            go_wp2
            refine region_cls (by kernel_rfl) (by kernel_rfl) ?_
            repeat (first
              | ((with_reducible refine quiet_pos ?_ (fun K hK => ?_))
                 · rfl
                 apply Exists.intro
                 refine ⟨fun w' hw' => ?_, ?_⟩
                 · go_simp
                   first
                     | with_reducible rfl
                     | (go_at_call 45; exact hw'.same (l1In_any _ _ _ _))
                 simp only [Act.put, List.setIfInBounds_toArray, List.set_cons_zero, List.set_cons_succ]
                 refine hK _ ?_; clear hK K)
              | ((with_reducible refine quiet_neg ?_ (fun K hK => ?_))
                 · rfl
                 simp only [Act.put, List.setIfInBounds_toArray, List.set_cons_zero, List.set_cons_succ]
                 refine hK _ ?_; clear hK K))
            with_reducible refine wpQuiet_nil ?_
            intro w3 hw3
            go_wp2
            go_roundw
            case rel => exact ⟨k + 1, by omega, by go_num, HN, bl_then hb hw3⟩
            case measure => simp [intOf]; omega
          · have HF : Hid (risB lo hi xs = false) := allB_no (k := k) (by omega) (by unfold riseAt; rw [getD_of hxk, getD_of hyk, g1, g2, i0]; rfl)
            clear hx hxk hyk hno hl
            go_wp2
            refine region_cls (by kernel_rfl) (by kernel_rfl) ?_
            repeat (first
              | ((with_reducible refine quiet_pos ?_ (fun K hK => ?_))
                 · rfl
                 apply Exists.intro
                 refine ⟨fun w' hw' => ?_, ?_⟩
                 · go_simp
                   first
                     | with_reducible rfl
                     | (go_at_call 45; exact hw'.same (l1In_any _ _ _ _))
                 simp only [Act.put, List.setIfInBounds_toArray, List.set_cons_zero, List.set_cons_succ]
                 refine hK _ ?_; clear hK K)
              | ((with_reducible refine quiet_neg ?_ (fun K hK => ?_))
                 · rfl
                 simp only [Act.put, List.setIfInBounds_toArray, List.set_cons_zero, List.set_cons_succ]
                 refine hK _ ?_; clear hK K))
            with_reducible refine wpQuiet_nil ?_
            intro w3 hw3
            go_wp2
            go_ret
            exact ⟨by rw [HF.out]; rfl, bl_then hb hw3⟩
        · have hk00 : k = 0 := by omega
          have e6 : decide (0 < k) = false := by simp; omega
          have HN : Hid (allTo (riseAt lo hi xs) (k + 1)) := allTo_succ hno.out (by unfold riseAt; rw [getD_of hxk, g1, e6]; rfl)
          clear hx hxk hno hl hk0 hk00
          go_wp2
          refine region_cls (by kernel_rfl) (by kernel_rfl) ?_
          repeat (first
            | ((with_reducible refine quiet_pos ?_ (fun K hK => ?_))
               · rfl
               apply Exists.intro
               refine ⟨fun w' hw' => ?_, ?_⟩
               · go_simp
                 first
                   | with_reducible rfl
                   | (go_at_call 45; exact hw'.same (l1In_any _ _ _ _))
               simp only [Act.put, List.setIfInBounds_toArray, List.set_cons_zero, List.set_cons_succ]
               refine hK _ ?_; clear hK K)
            | ((with_reducible refine quiet_neg ?_ (fun K hK => ?_))
               · rfl
               simp only [Act.put, List.setIfInBounds_toArray, List.set_cons_zero, List.set_cons_succ]
               refine hK _ ?_; clear hK K))
          with_reducible refine wpQuiet_nil ?_
          intro w3 hw3
          go_wp2
          go_roundw
          case rel => exact ⟨k + 1, by omega, by go_num, HN, bl_then hb hw3⟩
          case measure => simp [intOf]; omega
    · have HF : Hid (risB lo hi xs = true) := allB_yes hno.out (by omega)
      go_wp2
      go_ret
      exact ⟨by rw [HF.out]; rfl, hb⟩
set_option maxHeartbeats 1000000 in
set_option maxRecDepth 100000 in
theorem isSet_any (hi : Nat) (w : World) (hA : Sees elInt w B A n xs) (hn : n ≤ 1048576) (hh : hi ≤ 1048576) :
    Calls Tryz.prog 16 #[.slice A n c, .int .i64 hi] w fun e w' => e = .returned (.bool (risB 0 ((hi : Int) - 1) xs)) ∧ w = w' := by
  have hl := hA.len
  go_enter Tryz.func16, Tryz.ntmps16
  go_wp2
  go_loop [9] (fun i => ∃ k : Nat, k ≤ n ∧ i = .int .i64 k ∧ Hid (allTo (riseAt 0 ((hi : Int) - 1) xs) k)) (fun i => n - (intOf i).toNat)
  case atStart => exact ⟨0, Nat.zero_le _, rfl, allTo_zero _⟩
  case round =>
    obtain ⟨k, hk, rfl, hno⟩ := hrel
    by_cases hlt : k < n
    · obtain ⟨b, o, rfl, _, hx⟩ := hA.at_ hlt
      obtain ⟨x, hxk⟩ := get_of (k := k) hl hlt
      have hc := hx k x hxk 0 _ rfl
      simp only [elInt, Nat.mul_one, Nat.add_zero] at hc
      cases g1 : inB 0 ((hi : Int) - 1) x
      · have HF : Hid (risB 0 ((hi : Int) - 1) xs = false) := allB_no (k := k) (by omega) (by unfold riseAt; rw [getD_of hxk, g1]; rfl)
        clear hx hxk hno hl
        go_wp2_with (go_at_call 39; refine (within_any _ _ _ _).mono ?_; rintro e w' ⟨rfl, rfl⟩; rw [g1])
        go_ret
        exact ⟨by rw [HF.out]; rfl, rfl⟩
      · by_cases hk0 : 0 < k
        · obtain ⟨y, hyk⟩ := get_of (k := k - 1) hl (by omega)
          have hcy := hx (k - 1) y hyk 0 _ rfl
          simp only [elInt, Nat.mul_one, Nat.add_zero] at hcy
          have i0 : decide ((0 : Nat) < k) = true := decide_eq_true hk0
          have i1 : IntKind.i64.wrap ((k : Int) - 1) = (k : Int) - 1 := IntWalk.i64_in _ (by omega)
          have i2 : (0 : Int) ≤ (k : Int) - 1 := by omega
          have i3 : ((k : Int) - 1).toNat = k - 1 := by omega
          have i4 : (k : Int) - 1 < (n : Int) := by omega
          have i5 : (1 : Int) ≤ (k : Int) := by omega
          have i6 : 1 ≤ k := by omega
          cases g2 : decide (x ≤ y)
          · have HN : Hid (allTo (riseAt 0 ((hi : Int) - 1) xs) (k + 1)) := allTo_succ hno.out (by unfold riseAt; rw [getD_of hxk, getD_of hyk, g1, g2, i0]; rfl)
            clear hx hxk hyk hno hl
            go_wp2_with (go_at_call 39; refine (within_any _ _ _ _).mono ?_; rintro e w' ⟨rfl, rfl⟩; rw [g1])
            go_round
            case rel => exact ⟨k + 1, by omega, by go_num, HN⟩
            case measure => simp [intOf]; omega
          · have HF : Hid (risB 0 ((hi : Int) - 1) xs = false) := allB_no (k := k) (by omega) (by unfold riseAt; rw [getD_of hxk, getD_of hyk, g1, g2, i0]; rfl)
            clear hx hxk hyk hno hl
            go_wp2_with (go_at_call 39; refine (within_any _ _ _ _).mono ?_; rintro e w' ⟨rfl, rfl⟩; rw [g1])
            go_ret
            exact ⟨by rw [HF.out]; rfl, rfl⟩
        · have e6 : decide (0 < k) = false := by simp; omega
          have HN : Hid (allTo (riseAt 0 ((hi : Int) - 1) xs) (k + 1)) := allTo_succ hno.out (by unfold riseAt; rw [getD_of hxk, g1, e6]; rfl)
          clear hx hxk hno hl hk0
          go_wp2_with (go_at_call 39; refine (within_any _ _ _ _).mono ?_; rintro e w' ⟨rfl, rfl⟩; rw [g1])
          go_round
          case rel => exact ⟨k + 1, by omega, by go_num, HN⟩
          case measure => simp [intOf]; omega
    · have HF : Hid (risB 0 ((hi : Int) - 1) xs = true) := allB_yes hno.out (by omega)
      go_wp2
      go_ret
      exact ⟨by rw [HF.out]; rfl, rfl⟩
end
end Go.Proofs.YtjfafhehpfjofaaGreat
/- OtherEnd of the program and of the reference, walked. Conditions: none. -/
namespace Go.Proofs.YtjfafhehpfjofaaGreat
open Go.RowKit
instance : Inhabited ByteArray := ⟨ByteArray.empty⟩
def oeF (fs : List Fib) (i v : Int) : Int := otherF (fs.getD i.toNat default) v
def oeB (xs : List ByteArray) (fs : List Fib) (i v : Int) : Bool := goodB xs fs && inB 0 ((fs.length : Int) - 1) i && !decide (oeF fs i v < 0)
def oeI (xs : List ByteArray) (fs : List Fib) (i v : Int) : Int := if oeB xs fs i v then oeF fs i v else 0
section
variable {n c m d : Nat} {A A' : Option Addr} {xs : List ByteArray} {fs : List Fib}
theorem inB_idx {i : Int} {m : Nat} (h : inB 0 ((m : Int) - 1) i = true) : 0 ≤ i ∧ i < m := by unfold inB at h; simp at h; omega
end
end Go.Proofs.YtjfafhehpfjofaaGreat
/- l4Walk and visited: the nodes of a route, walked. Conditions: none. -/
namespace Go.Proofs.YtjfafhehpfjofaaGreat
open Go.RowKit
theorem filled_one (s : Int) : Filled elInt #[.int .i64 s] [s] 1 := by
  intro j x hj hx i u hu
  obtain rfl : j = 0 := by omega
  simp at hx; subst hx
  match i, hu with
  | 0, hu => simp [elInt] at hu; subst hu; rfl
variable {n c m d kr er : Nat} {A A' R : Option Addr} {xs : List ByteArray} {fs : List Fib} {ids : List Int}
set_option maxHeartbeats 1000000 in
set_option maxRecDepth 100000 in
theorem visited_any (s : Int) (w : World) (h : NetIs w A n c A' m d xs fs) (hr : RtIs w R kr er ids) :
    Calls Tryz.prog 51 #[.agg #[.slice A n c, .slice A' m d], .agg #[.int .i64 s, .slice R kr er]] w fun e w' => ∃ v, e = .returned (.tuple #[v, .bool (rtB n fs s ids)]) ∧ Owns elInt w' w.heap.size 3 v (rtL n fs s ids) ∧ Below w.heap.size w w' := by
  obtain ⟨i0, hi, hz0, hz1, hz2⟩ := info_parts int_info
  have hb1 := bl_alloc (Below.refl w.heap.size w) (.cells #[.slice A n c, .slice A' m d] 27)
  have hb0 := bl_alloc hb1 (.cells #[.int .i64 s, .slice R kr er] 32)
  have hx0 : Blk ((w.alloc (.cells #[.slice A n c, .slice A' m d] 27)).alloc (.cells #[.int .i64 s, .slice R kr er] 32)) w.heap.size 27 #[.slice A n c, .slice A' m d] := (Blk.new _ _ _).alloc _
  have hy0 : Blk ((w.alloc (.cells #[.slice A n c, .slice A' m d] 27)).alloc (.cells #[.int .i64 s, .slice R kr er] 32)) (w.heap.size + 1) 32 #[.int .i64 s, .slice R kr er] := by
    have := Blk.new (w.alloc (.cells #[.slice A n c, .slice A' m d] 27)) 32 #[.int .i64 s, .slice R kr er]
    simpa using this
  have h0 := h.grow hb0
  have hr0 := hr.grow hb0
  have hlx := h.xlen
  have hlf := h.flen
  have hm := h.mle
  have hn := h.nle
  have hlr := hr.len
  have hkr := hr.le
  have hsz0 : ((w.alloc (.cells #[.slice A n c, .slice A' m d] 27)).alloc (.cells #[.int .i64 s, .slice R kr er] 32)).heap.size = w.heap.size + 2 := by simp
  cases g1 : inB 0 ((n : Int) - 1) s
  · have H : Hid (rtB n fs s ids = false) := by unfold Hid rtB; rw [g1]; rfl
    clear hlx hlf hlr
    go_enter Tryz.func51, Tryz.ntmps51
    go_wp2_with (go_at_call 39; refine (within_any _ _ _ _).mono ?_; rintro e w' ⟨rfl, rfl⟩; rw [g1])
    go_ret2
    exact ⟨_, by rw [H.out]; rfl, by rw [rtL_no H.out]; exact World.ownsRow_nil _ _ _ _, hb0⟩
  · by_cases hk0 : kr = 0
    · have H : Hid (rtB n fs s ids = false) := by unfold Hid rtB; rw [g1, hlr, hk0]; rfl
      have e0 : (kr == 0) = true := by simp [hk0]
      have e1 : ((kr : Int) == 0) = true := by simp [hk0]
      clear hlx hlf hlr hk0
      go_enter Tryz.func51, Tryz.ntmps51
      go_wp2_with (go_at_call 39; refine (within_any _ _ _ _).mono ?_; rintro e w' ⟨rfl, rfl⟩; rw [g1])
      go_ret2
      exact ⟨_, by rw [H.out]; rfl, by rw [rtL_no H.out]; exact World.ownsRow_nil _ _ _ _, hb0⟩
    · have e0 : (kr == 0) = false := by simp [hk0]
      have e1 : ((kr : Int) == 0) = false := by simp; omega
      have HB : Hid (rtB n fs s ids = allB (okW m fs s ids) kr) := by unfold Hid rtB; rw [g1, hlr, e0, hlf]; rfl
      clear hlx
      go_enter Tryz.func51, Tryz.ntmps51
      go_wp2_with fail
      refine (within_any _ _ _ _).mono ?_
      rintro e w' ⟨rfl, rfl⟩
      rw [g1]
      go_wp2_with fail
      go_region
      have hbe : Below ((w.alloc (.cells #[.slice A n c, .slice A' m d] 27)).alloc (.cells #[.int .i64 s, .slice R kr er] 32)).heap.size ((w.alloc (.cells #[.slice A n c, .slice A' m d] 27)).alloc (.cells #[.int .i64 s, .slice R kr er] 32)) ((((w.alloc (.cells #[.slice A n c, .slice A' m d] 27)).alloc (.cells #[.int .i64 s, .slice R kr er] 32)).alloc (.cells #[.int .i64 s] 3)).drew) := by
        repeat (first | exact Below.refl _ _ | apply Below.drew | apply bl_alloc)
      have hoe : Hid (Owns elInt ((((w.alloc (.cells #[.slice A n c, .slice A' m d] 27)).alloc (.cells #[.int .i64 s, .slice R kr er] 32)).alloc (.cells #[.int .i64 s] 3)).drew) (w.heap.size + 2) 3 (.slice (some ⟨w.heap.size + 2, 0, none⟩) 1 1) (outW fs s ids 0)) :=
        hid ((show Owns elInt (((w.alloc (.cells #[.slice A n c, .slice A' m d] 27)).alloc (.cells #[.int .i64 s, .slice R kr er] 32)).alloc (.cells #[.int .i64 s] 3)) (w.heap.size + 2) 3 (.slice (some ⟨w.heap.size + 2, 0, none⟩) 1 1) [s] from Owns.of_blk (n := 1) (cap := 1) (cur := #[.int .i64 s]) (by have := Blk.new ((w.alloc (.cells #[.slice A n c, .slice A' m d] 27)).alloc (.cells #[.int .i64 s, .slice R kr er] 32)) 3 #[.int .i64 s]; simpa using this) (Nat.le_refl _) rfl (Nat.le_refl _) rfl (by decide) (filled_one s)).below (Below.drew (Below.refl _ _)))
      have q9 : ((((w.alloc (.cells #[.slice A n c, .slice A' m d] 27)).alloc (.cells #[.int .i64 s, .slice R kr er] 32)).alloc (.cells #[.int .i64 s] 3)).drew).cell? ⟨w.heap.size + 1, 1, none⟩ = some (.slice R kr er) := by
        have := (hy0.below hbe (by omega)).cell 1
        simpa using this
      go_wp2_with fail
      generalize hw0 : ((w.alloc (.cells #[.slice A n c, .slice A' m d] 27)).alloc (.cells #[.int .i64 s, .slice R kr er] 32)) = w0 at *
      clear q9
      go_loopw [6, 7, 32] (fun v a i wr => ∃ (k : Nat) (cu : Int), k ≤ kr ∧ i = .int .i64 k ∧ a = .int .i64 cu ∧ Hid (atW fs s ids k = cu) ∧ Hid (Owns elInt wr (w.heap.size + 2) 3 v (outW fs s ids k)) ∧ Hid (allTo (okW m fs s ids) k) ∧ Below w0.heap.size w0 wr) (fun _ _ i _ => kr - (intOf i).toNat)
      case atStart => exact ⟨0, s, Nat.zero_le _, rfl, rfl, rfl, hoe, allTo_zero _, hbe⟩
      case round =>
        clear hbe hoe
        obtain ⟨k, cu, hk, rfl, rfl, hcu, hown, hall, hb⟩ := hrel
        by_cases hlt : k < kr
        · obtain ⟨b, o, rfl, _, hc⟩ := hr0.2.at_ hlt
          obtain ⟨i, hik⟩ := get_of (k := k) hlr hlt
          have hci := bl_cell hb (hc k i hik 0 _ rfl)
          simp only [elInt, Nat.mul_one, Nat.add_zero] at hci
          have p1 := (hx0.below hb (by omega)).cell 1
          simp at p1
          have hwz := hb.size
          clear hc
          cases g2 : inB 0 ((m : Int) - 1) i
          · have H : Hid (rtB n fs s ids = false) := by unfold Hid; rw [HB.out]; exact allB_no hlt (by unfold okW; rw [getD_of hik, g2]; rfl)
            clear hik hown hall
            go_wp2_with (go_at_call 39; refine (within_any _ _ _ _).mono ?_; rintro e w' ⟨rfl, rfl⟩; rw [g2])
            go_ret2
            exact ⟨_, by rw [H.out]; rfl, by rw [rtL_no H.out]; exact World.ownsRow_nil _ _ _ _, hb0.trans (hb.mono (by omega))⟩
          · obtain ⟨i0', i1'⟩ := inB_idx g2
            obtain ⟨f, hf⟩ := get_of (k := i.toNat) hlf (by omega)
            obtain ⟨bf, of, rfl, _, hcf⟩ := h0.fibs.at_ (k := i.toNat) (by omega)
            have f0 := bl_cell hb (hcf _ f hf 0 _ rfl)
            have f1 := bl_cell hb (hcf _ f hf 1 _ rfl)
            have f2 := bl_cell hb (hcf _ f hf 2 _ rfl)
            have f3 := bl_cell hb (hcf _ f hf 3 _ rfl)
            simp only [elFib, Nat.add_zero] at f0 f1 f2 f3
            have HNX' : Hid (atW fs s ids (k + 1) = otherF f cu) := by unfold Hid; rw [← hcu.out]; exact atW_succ hik hf
            have HC := hid (otherEnd_any f cu wr)
            generalize hnx : otherF f cu = nx at HC HNX'
            have HNX := HNX'
            have hkk : Hid (okW m fs s ids k = (!decide (nx < 0) && !hasB (outW fs s ids k) nx)) := by unfold Hid okW; rw [getD_of hik, g2, HNX.out]; rfl
            clear hik hf hcf hnx hcu HNX'
            go_wp2_with fail
            refine (within_any _ _ _ _).mono ?_
            rintro e w' ⟨rfl, rfl⟩
            rw [g2]
            go_wp2_with fail
            refine HC.out.mono ?_
            rintro e wy ⟨rfl, hby⟩
            have hbz := bl_then hb hby
            have hoz : Hid (Owns elInt _ _ _ _ _) := hown.out.below hby
            obtain ⟨Ao, co, rfl, _, _, hso⟩ := hoz.out.form
            rw [outW_len] at hso ⊢
            have hso := hid hso
            have hwys := hby.size
            clear HC hown f0 f1 f2 f3 p1 hci
            cases g3 : decide (nx < 0)
            · cases g4 : hasB (outW fs s ids k) nx
              · have HALL : Hid (allTo (okW m fs s ids) (k + 1)) := allTo_succ hall.out (by rw [hkk.out, g3, g4]; rfl)
                have hbG := bl_alloc hbz (.cells #[.int .i64 nx] 3)
                have hoG : Hid (Owns elInt _ _ _ _ _) := hoz.out.below (bl_alloc (Below.refl _ _) (.cells #[.int .i64 nx] 3))
                have hoG2 : Hid (∀ g, (Value.slice Ao (k + 1) co).ownBlock = some g → w0.heap.size ≤ g) := fun g hg => by have := (hoG.out.lies g (by rw [outW_len]; exact hg)).1; omega
                rw [outW_len] at hoG
                have hll := outW_len fs s ids k
                clear hkk hoz hall
                go_wp2_with fail
                refine (containsI_any nx _ hso.out (by simp only [maxLen]; omega)).mono ?_
                rintro e w' ⟨rfl, rfl⟩
                rw [g4]
                clear hso
                go_wp2_with (first
                  | (at_builtin; refine wpList_append_own _ rfl _ _ 28 rfl (w.heap.size + 2) 3 i0 (.int .i64 0) 1 8 Tryz.underlying28 hi hz0 hz1 hz2 rfl (by decide) _ (outW fs s ids k).length ((outW fs s ids k).flatMap elInt.cells) rfl hoG.out ⟨_, 0, none⟩ 1 1 [.int .i64 nx] rfl rfl (one_new _ _ _ (by simp)) (fun u hu => by simp at hu; subst hu; rfl) (by unfold maxLen; omega) (by omega) (by simp; omega) ?_)
                  | go_in)
                intro v' w1 hown' hgrow _
                have HO : Hid (Owns elInt w1 (w.heap.size + 2) 3 v' (outW fs s ids (k + 1))) := by unfold Hid; rw [outW_succ, HNX.out]; exact Owns.appended (by rw [hll]; exact hown')
                have hbN := bl_grown hbG hgrow (fun g hg => by have := (hoG2.out g hg); omega)
                clear hown' hgrow hoG hbG hoG2
                go_wp2
                go_roundw
                case rel => exact ⟨k + 1, nx, by omega, by go_num, rfl, HNX, HO, HALL, hbN⟩
                case measure => simp [intOf]; omega
              · have H : Hid (rtB n fs s ids = false) := by unfold Hid; rw [HB.out]; exact allB_no hlt (by rw [hkk.out, g3, g4]; rfl)
                clear hkk hoz hall
                go_wp2_with fail
                refine (containsI_any nx _ hso.out (by simp only [maxLen]; omega)).mono ?_
                rintro e w' ⟨rfl, rfl⟩
                rw [g4]
                go_wp2_with fail
                go_ret2
                exact ⟨_, by rw [H.out]; rfl, by rw [rtL_no H.out]; exact World.ownsRow_nil _ _ _ _, hb0.trans (hbz.mono (by omega))⟩
            · have H : Hid (rtB n fs s ids = false) := by unfold Hid; rw [HB.out]; exact allB_no hlt (by rw [hkk.out, g3]; rfl)
              clear hkk hoz hall
              go_wp2_with fail
              go_ret2
              exact ⟨_, by rw [H.out]; rfl, by rw [rtL_no H.out]; exact World.ownsRow_nil _ _ _ _, hb0.trans (hbz.mono (by omega))⟩
        · have hkm : k = kr := by omega
          have H : Hid (rtB n fs s ids = true) := by unfold Hid; rw [HB.out]; exact allB_yes (by rw [← hkm]; exact hall.out) rfl
          have HL : Hid (rtL n fs s ids = outW fs s ids kr) := (rtL_yes H.out).trans (by rw [hlr])
          rw [hkm] at hown
          clear hlt hall hcu
          go_wp2
          go_ret2
          exact ⟨_, by rw [H.out]; rfl, by rw [HL.out]; exact hown.out.base (by omega), hb0.trans (hb.mono (by omega))⟩
end Go.Proofs.YtjfafhehpfjofaaGreat
/- szStringS, walked: it takes the lengths off a number, -1 if that is too small. Conditions: the number lies in 0 .. 1048576. -/
namespace Go.Proofs.YtjfafhehpfjofaaGreat
open Go.RowKit
def lessI (left : Int) (t : Nat) : Int := if (t : Int) ≤ left then left - t else -1
def sumTo (xs : List ByteArray) (k : Nat) : Nat := ((xs.take k).map ByteArray.size).sum
def strTot (xs : List ByteArray) : Nat := xs.length + sumTo xs xs.length
theorem sumTo_succ {xs : List ByteArray} {k : Nat} {x : ByteArray} (h : xs[k]? = some x) : sumTo xs (k + 1) = sumTo xs k + x.size := by
  unfold sumTo
  obtain ⟨hk, hx⟩ := List.getElem?_eq_some_iff.1 h
  rw [List.take_succ_eq_append_getElem hk, hx, List.map_append, List.sum_append]; simp
theorem sumTo_mono {xs : List ByteArray} {j k : Nat} (h : j ≤ k) : sumTo xs j ≤ sumTo xs k := by
  unfold sumTo
  obtain ⟨d, rfl⟩ := Nat.exists_eq_add_of_le h
  rw [List.take_add, List.map_append, List.sum_append]; omega
theorem size_le_tot {xs : List ByteArray} {x : ByteArray} (h : x ∈ xs) : x.size ≤ strTot xs := by
  obtain ⟨k, hk, e⟩ := List.mem_iff_getElem.1 h
  have h1 := sumTo_succ (xs := xs) (k := k) (x := x) (by rw [List.getElem?_eq_getElem hk, e])
  have h2 := sumTo_mono (xs := xs) (j := k + 1) (k := xs.length) hk
  unfold strTot; omega
theorem lessI_neg {left : Int} {t : Nat} (h : left < t) : lessI left t = -1 := by unfold lessI; rw [if_neg (by omega)]
theorem lessI_pos {left : Int} {t : Nat} (h : (t : Int) ≤ left) : lessI left t = left - t := by unfold lessI; rw [if_pos h]
end Go.Proofs.YtjfafhehpfjofaaGreat
/- szFiberS and szNetwork, walked. Conditions: the number lies in 0 .. 1048576. -/
namespace Go.Proofs.YtjfafhehpfjofaaGreat
open Go.RowKit
theorem lessI_bd {left : Int} {t : Nat} : (lessI left t = -1 ∧ left < t) ∨ (0 ≤ lessI left t ∧ lessI left t ≤ left ∧ (t : Int) ≤ left) := by
  unfold lessI; split <;> omega
theorem lessI_lessI {left : Int} {s t : Nat} : lessI left (s + t) = if lessI left s < 0 then -1 else lessI (lessI left s) t := by
  unfold lessI; split <;> split <;> (try split) <;> omega
/-- What a network holds: names, letters, fibers. -/
def netTot {α : Type} (xs : List ByteArray) (fs : List α) : Nat := strTot xs + fs.length
end Go.Proofs.YtjfafhehpfjofaaGreat
/- How a network that can be read is opened. Conditions: none. -/
namespace Go.Proofs.YtjfafhehpfjofaaGreat
open Go.ChangeShapes Go.WideShapes Go.ChangeAt Go.RowKit Go.Deep Go.Joins
theorem cellsS : Tryz.prog.cellsOf 9 = 1 := by kernel_rfl
theorem cellsI : Tryz.prog.cellsOf 3 = 1 := by kernel_rfl
section
variable {H : Type} {enc : TypeId × Value → H} {W : World} {spare : Nat → Bool} {held : Bool}
/-- A network that came in. -/
def NetArg (W : World) (A : Option Addr) (n c : Nat) (A' : Option Addr) (m d : Nat) (xs : List ByteArray) (fs : List Fib) : Prop :=
  SlArg elStr W A n c xs (fun s => s.size ≤ maxLen) ∧ SlArg elFib W A' m d fs (fun _ => True)
end
end Go.Proofs.YtjfafhehpfjofaaGreat
