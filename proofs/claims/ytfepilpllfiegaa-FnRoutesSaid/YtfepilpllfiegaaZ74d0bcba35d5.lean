/- Lemmas and walks that the claim rests on, laid together. Conditions: none. -/
import Derived.Test.YtfepilpllfiegaaZ17f740c013a7
import Derived.Test.YtfepilpllfiegaaZ55d8a778231f
/- What the laws draw: networks. Conditions: at most 1048576 bytes to draw from. By drawn.py. -/
namespace Go.Proofs.Ytfepilpllfiegaa
open Go.RowKit
/-- The same things in another order, or some of them. -/
theorem Led.reix {w0 w : World} {L L' : List Thing} (h : Led w0 w L) (f : Nat → Nat) (hf : ∀ i j, i ≠ j → f i ≠ f j) (hL : ∀ (i : Nat) t, L'[i]? = some t → L[f i]? = some t) : Led w0 w L' :=
  ⟨h.bl, fun i t hi => h.all (f i) t (hL i t hi), fun i j a b hij ha hb => h.apart (f i) (f j) a b (hf i j hij) (hL i a ha) (hL j b hb)⟩
/-- One thing forgotten. -/
theorem Led.del {w0 w : World} {x : Thing} {R : List Thing} (P : List Thing) (h : Led w0 w (P ++ x :: R)) : Led w0 w (P ++ R) := by
  refine h.reix (fun i => if i < P.length then i else i + 1) (fun i j hij => ?_) (fun i t hi => ?_)
  · show (if i < P.length then i else i + 1) ≠ (if j < P.length then j else j + 1)
    split <;> split <;> omega
  · show (P ++ x :: R)[if i < P.length then i else i + 1]? = some t
    split
    · rename_i hlt
      rw [List.getElem?_append_left hlt] at hi ⊢
      exact hi
    · rename_i hlt
      rw [List.getElem?_append_right (by omega)] at hi ⊢
      have e : i + 1 - P.length = (i - P.length) + 1 := by omega
      rw [e, List.getElem?_cons_succ]
      exact hi
theorem Led.del1 {w0 w : World} {a x : Thing} {R : List Thing} (h : Led w0 w (a :: x :: R)) : Led w0 w (a :: R) := Led.del [a] h
theorem Led.del2 {w0 w : World} {a b x : Thing} {R : List Thing} (h : Led w0 w (a :: b :: x :: R)) : Led w0 w (a :: b :: R) := Led.del [a, b] h
theorem Led.del3 {w0 w : World} {a b c x : Thing} {R : List Thing} (h : Led w0 w (a :: b :: c :: x :: R)) : Led w0 w (a :: b :: c :: R) := Led.del [a, b, c] h
section
variable {w0 w : World} {R : List Thing} {A : Option Addr} {n c g K : Nat} {bs : List Int}
/-- The reader may be thought further on. -/
theorem Led.curUp {K' : Nat} {L : List Thing} (h : Led w0 w L) (i : Nat) (hi : L[i]? = some (tCur A n c g K)) (hK : K ≤ K') : Led w0 w (L.set i (tCur A n c g K')) :=
  h.touch i hi rfl ⟨rfl, rfl, rfl, Nat.le_refl _, fun _ _ _ => rfl⟩ (by obtain ⟨a, s, h1, h2, h3⟩ := h.get i hi; exact ⟨a, s, h1, by omega, h3⟩)
/-- What a call that draws a network gives: its rows, of the call's own, with the rest of the ledger behind them. -/
def drewN (w0 : World) (hi mm : Nat) (Q : List Thing) (e : Ending) (w' : World) : Prop :=
  ∃ (B : Option Addr) (p cb : Nat) (E : Option Addr) (m d : Nat) (xs : List ByteArray) (fs : List Fib), e = .returned (.agg #[.slice B p cb, .slice E m d]) ∧ (2 ≤ p ∧ p ≤ hi) ∧ m ≤ mm ∧ xs.length = p ∧ fs.length = m ∧ (∀ x ∈ xs, x.size ≤ 9) ∧
    Led w0 w' (tOwns elFib w0.heap.size 62 (.slice E m d) fs :: tOwns elStr w0.heap.size 9 (.slice B p cb) xs :: Q)
theorem drewN.mk {w0 w' : World} {hi mm : Nat} {Q : List Thing} {B E : Option Addr} {p cb m d : Nat} {xs : List ByteArray} {fs : List Fib} (hp : 2 ≤ p ∧ p ≤ hi) (hm : m ≤ mm) (hx : xs.length = p) (hf : fs.length = m) (hs : ∀ x ∈ xs, x.size ≤ 9)
    (h : Led w0 w' (tOwns elFib w0.heap.size 62 (.slice E m d) fs :: tOwns elStr w0.heap.size 9 (.slice B p cb) xs :: Q)) : drewN w0 hi mm Q (.returned (.agg #[.slice B p cb, .slice E m d])) w' := ⟨B, p, cb, E, m, d, xs, fs, rfl, hp, hm, hx, hf, hs, h⟩
def nmL : List ByteArray := [⟨#[97]⟩, ⟨#[98]⟩, ⟨#[99]⟩, ⟨#[100]⟩, ⟨#[101]⟩, ⟨#[102]⟩]
theorem nm_owns (w : World) {k base : Nat} (hk : k ≤ 6) (hb : base ≤ w.heap.size) : Owns elStr (w.alloc (.cells (nmL.map Value.string).toArray 9)) base 9 (.slice (some ⟨w.heap.size, 0, none⟩) k 6) (nmL.take k) := by
  refine Owns.of_blk (n := k) (cap := 6) (cur := (nmL.map Value.string).toArray) (Blk.new w _ _) hb (by rw [List.length_take]; show min k 6 = k; omega) hk rfl (by decide) (fun j x hj hx i u hu => ?_)
  rw [List.getElem?_take, if_pos hj] at hx
  match i, hu with
  | 0, hu =>
    simp [elStr] at hu
    subst hu
    simp [elStr, hx]
theorem nm_short {k : Nat} : ∀ x ∈ nmL.take k, x.size ≤ 9 := fun x hx => by
  have h : ∀ x ∈ nmL, x.size ≤ 9 := by decide
  exact h x (List.mem_of_mem_take hx)
set_option maxHeartbeats 4000000 in
set_option maxRecDepth 100000 in
theorem network_led (h : Led w0 w (tCur A n c g K :: R)) (hb : Sees elU w0 w0.heap.size A n bs) (hbs : ∀ x ∈ bs, 0 ≤ x ∧ x ≤ 255) (hn : n ≤ 1048576) (hK : K + 1000 ≤ 1099511627776) :
    Calls Try.prog 117 #[.pointer (some ⟨g, 0, none⟩)] w (drewN w0 6 9 (tCur A n c g (K + 1000) :: R)) := by
  have H0 := hid (h.blk_ w.heap.size rfl 27 #[.slice none 0 0, .slice none 0 0])
  have HB := hid hb
  have HBS := hid hbs
  clear h hb hbs
  go_enter Try.func117, Try.ntmps117
  go_wp2_with fail
  refine (pick_led H0.out 1 rfl HB.out HBS.out hn (by omega) 5 (by decide) (by decide)).mono ?_
  rintro e w1 ⟨x, rfl, hx0, hx1, h1⟩
  have hx2 := hx1 (by decide)
  obtain ⟨k, hk⟩ : ∃ k : Nat, 2 + x = (k : Int) := ⟨(2 + x).toNat, by omega⟩
  have hk2 : 2 ≤ k ∧ k ≤ 6 := by omega
  have iw : IntKind.i64.wrap (2 + x) = (k : Int) := by rw [IntWalk.i64_in _ (by omega)]; exact hk
  have ik0 : (0 : Int) ≤ (k : Int) := by omega
  have ik6 : (k : Int) ≤ 6 := by omega
  have H1 := hid h1
  clear h1 hx1 hk H0
  go_wp2_with fail
  have H2 := hid (((H1.out.owns_ (b0 := w0.heap.size) (bl_alloc (Below.refl _ _) _) (nm_owns w1 hk2.2 (Nat.le_refl _)) (Nat.le_refl _) H1.out.bl.size).blk_ (w1.heap.size + 1) (by simp) 27 #[.slice (some ⟨w1.heap.size, 0, none⟩) k 6, .slice none 0 0]).nilS elFib 62 w0.heap.size)
  clear H1
  go_loopw [5] (fun i wr => ∃ (j K' : Nat) (vF : Value) (fs : List Fib), i = .int .i64 j ∧ j ≤ k ∧ fs.length ≤ j ∧ K' ≤ K + 2 + 20 * j ∧ Hid (∀ x ∈ fs, smallF x) ∧ Hid (Led w0 wr (tOwns elFib w0.heap.size 62 vF fs :: tBlk (w1.heap.size + 1) 27 #[.slice (some ⟨w1.heap.size, 0, none⟩) k 6, vF] :: tOwns elStr w0.heap.size 9 (.slice (some ⟨w1.heap.size, 0, none⟩) k 6) (nmL.take k) :: tBlk w.heap.size 27 #[.slice none 0 0, .slice none 0 0] :: tCur A n c g K' :: R))) (fun i _ => k - (intOf i).toNat)
  case atStart => exact ⟨0, K + 2, _, [], rfl, by omega, by simp, by omega, (fun x hx => by cases hx), H2⟩
  case round =>
    clear H2
    obtain ⟨j, K', vF, fs, rfl, hj, hfl, hK', HSM, HS⟩ := hrel
    by_cases hlt : j < k
    · obtain ⟨q, hq⟩ : ∃ q : Nat, (j + 1) % k = q := ⟨_, rfl⟩
      have hqj : q ≠ j ∧ q < k := by
        have h1 := Nat.mod_lt (j + 1) (show 0 < k by omega)
        refine ⟨fun e => ?_, by omega⟩
        by_cases h2 : j + 1 < k
        · rw [Nat.mod_eq_of_lt h2] at hq; omega
        · have h3 : j + 1 = k := by omega
          rw [h3, Nat.mod_self] at hq; omega
      have iq2 : ((j : Int) + 1) % (k : Int) = (q : Int) := by rw [← hq]; rfl
      have iq1 : ((j : Int) + 1).tmod (k : Int) = (q : Int) := by rw [Int.tmod_eq_emod_of_nonneg (by omega)]; exact iq2
      have ijq : ((j : Int) == (q : Int)) = false := by simp; omega
      have ikz : ((k : Int) == 0) = false := by simp; omega
      clear hq
      obtain ⟨AF, cF, rfl, hmc⟩ := HS.out.form 0 rfl
      go_wp2_with fail
      refine (one_led HS.out 4 rfl HB.out HBS.out hn (by omega) 10 (by decide) (by decide)).mono ?_
      rintro e w2 ⟨t, rfl, h2⟩
      have H2 := hid h2
      clear h2 HS
      cases t
      · go_wp2_with fail
        obtain ⟨WW, hWW⟩ : ∃ WW, WW = w2 := ⟨_, rfl⟩
        rw [← hWW] at H2 ⊢
        clear hWW iq1 iq2 iw
        refine wp_region_heldX 18 (fun w' => w'.cell? ⟨w1.heap.size + 1, 1, none⟩ = some (.slice AF fs.length cF)) (by kernel_rfl) (H2.out.cell 1 1 rfl rfl) (fun hHeld => ?_)
        refine wpAnyX_take (i := 0) (oi := _) (v := ?_) rfl (by kernel_rfl) (by kernel_rfl) (by kernel_rfl) (by kernel_rfl) (fun _ _ _ h => h) (Or.inl ⟨by rfl, ?_⟩) (by assumption) ?_
        rotate_left
        · intro w hSw; go_simp; with_reducible rfl
        simp only [Act.put, List.getElem_toArray, List.getElem_cons_zero, List.setIfInBounds_toArray, List.set_cons_zero, List.set_cons_succ]
        refine wpAnyX_take (i := 1) (oi := _) (v := ?_) rfl (by kernel_rfl) (by kernel_rfl) (by kernel_rfl) (by kernel_rfl) (fun _ _ _ h => h) (Or.inl ⟨by rfl, ?_⟩) (by assumption) ?_
        rotate_left
        · intro w hSw; go_simp; with_reducible rfl
        simp only [Act.put, List.getElem_toArray, List.getElem_cons_zero, List.getElem_cons_succ, List.setIfInBounds_toArray, List.set_cons_zero, List.set_cons_succ]
        refine wpAnyX_take (i := 2) (oi := _) (v := ?_) rfl (by kernel_rfl) (by kernel_rfl) (by kernel_rfl) (by kernel_rfl) (fun _ _ _ h => h) (Or.inl ⟨by rfl, ?_⟩) (by assumption) ?_
        rotate_left
        · intro w hSw; go_simp; with_reducible rfl
        simp only [Act.put, List.getElem_toArray, List.getElem_cons_zero, List.getElem_cons_succ, List.setIfInBounds_toArray, List.set_cons_zero, List.set_cons_succ]
        refine wpAnyX_take (i := 3) (oi := _) (v := ?_) rfl (by kernel_rfl) (by kernel_rfl) (by kernel_rfl) (by kernel_rfl) (fun _ _ _ h => h) (Or.inl ⟨by rfl, ?_⟩) (by assumption) ?_
        rotate_left
        · intro w hSw; go_simp; with_reducible rfl
        simp only [Act.put, List.getElem_toArray, List.getElem_cons_zero, List.getElem_cons_succ, List.setIfInBounds_toArray, List.set_cons_zero, List.set_cons_succ]
        refine wpAnyX_take (i := 5) (oi := _) (v := ?_) rfl (by kernel_rfl) (by kernel_rfl) (by kernel_rfl) (by kernel_rfl) (fun _ _ _ h => h) (Or.inl ⟨by rfl, ?_⟩) (by assumption) ?_
        rotate_left
        · intro w hSw; go_simp; with_reducible rfl
        simp only [Act.put, List.getElem_toArray, List.getElem_cons_zero, List.getElem_cons_succ, List.setIfInBounds_toArray, List.set_cons_zero, List.set_cons_succ]
        refine wpAnyX_take (i := 6) (oi := _) (v := ?_) rfl (by kernel_rfl) (by kernel_rfl) (by kernel_rfl) (by kernel_rfl) (fun _ _ _ h => h) (Or.inl ⟨by rfl, ?_⟩) (by assumption) ?_
        rotate_left
        · intro w hSw; go_simp; with_reducible rfl
        simp only [Act.put, List.getElem_toArray, List.getElem_cons_zero, List.getElem_cons_succ, List.setIfInBounds_toArray, List.set_cons_zero, List.set_cons_succ]
        refine wpAnyX_take (i := 8) (oi := _) (v := ?_) rfl (by kernel_rfl) (by kernel_rfl) (by kernel_rfl) (by kernel_rfl) (fun _ _ _ h => h) (Or.inl ⟨by rfl, ?_⟩) (by assumption) ?_
        rotate_left
        · intro w hSw; go_simp; with_reducible rfl
        simp only [Act.put, List.getElem_toArray, List.getElem_cons_zero, List.getElem_cons_succ, List.setIfInBounds_toArray, List.set_cons_zero, List.set_cons_succ]
        refine wpAnyX_take (i := 12) (oi := _) (v := ?_) rfl (by kernel_rfl) (by kernel_rfl) (by kernel_rfl) (by kernel_rfl) (fun _ _ _ h => h) (Or.inl ⟨by rfl, ?_⟩) (by assumption) ?_
        rotate_left
        · intro w hSw; go_simp; with_reducible rfl
        simp only [Act.put, List.getElem_toArray, List.getElem_cons_zero, List.getElem_cons_succ, List.setIfInBounds_toArray, List.set_cons_zero, List.set_cons_succ]
        have h0 := H2.out
        have hd := h0.step (Cls.drew _)
        refine wpAnyX_ready (rs := [4, 13]) (by kernel_rfl) (by simp) ?_
        refine AllReadyX.cons rfl (fun K hK => ?_) ?_
        · skip
          go_simp
          refine (l1Least_any (j : Int) (q : Int) _).mono ?_
          rintro e w3 ⟨la, rfl, hla, rfl⟩
          go_wp2_with fail
          refine hK.out _ _ (hd.cell 1 1 rfl rfl) (fun hHeld => ?_)
          clear hK K
          try simp only [Act.put, List.getElem_toArray, List.getElem_cons_zero, List.getElem_cons_succ, List.setIfInBounds_toArray, List.set_cons_zero, List.set_cons_succ]
          refine wpAnyX_ready (rs := [7, 13]) (by kernel_rfl) (by simp) ?_
          refine AllReadyX.cons rfl (fun K hK => ?_) ?_
          · skip
            go_simp
            refine (l1Most_any (j : Int) (q : Int) _).mono ?_
            rintro e w3 ⟨mo, rfl, hmo, -, rfl⟩
            go_wp2_with fail
            refine hK.out _ _ (hd.cell 1 1 rfl rfl) (fun hHeld => ?_)
            clear hK K
            try simp only [Act.put, List.getElem_toArray, List.getElem_cons_zero, List.getElem_cons_succ, List.setIfInBounds_toArray, List.set_cons_zero, List.set_cons_succ]
            refine wpAnyX_ready (rs := [9, 13]) (by kernel_rfl) (by simp) ?_
            refine AllReadyX.cons rfl (fun K hK => ?_) ?_
            · skip
              go_simp
              refine (pick_led hd 4 rfl HB.out HBS.out hn (by omega) 8 (by decide) (by decide)).mono ?_
              rintro e w4 ⟨p, rfl, hp0, hp1, h4⟩
              have hp2 := hp1 (by decide)
              clear hp1
              have iw1 : IntKind.i64.wrap (1 + p) = 1 + p := IntWalk.i64_in _ (by omega)
              have iw2 : IntKind.i64.wrap (100 * (1 + p)) = 100 * (1 + p) := IntWalk.i64_in _ (by omega)
              go_wp2_with fail
              refine hK.out _ _ (h4.cell 1 1 rfl rfl) (fun hHeld => ?_)
              clear hK K
              try simp only [Act.put, List.getElem_toArray, List.getElem_cons_zero, List.getElem_cons_succ, List.setIfInBounds_toArray, List.set_cons_zero, List.set_cons_succ]
              refine wpAnyX_take (i := 10) (oi := _) (v := ?_) rfl (by kernel_rfl) (by kernel_rfl) (by kernel_rfl) (by kernel_rfl) (fun _ _ _ h => h) (Or.inl ⟨by rfl, ?_⟩) (by assumption) ?_
              rotate_left
              · intro w hSw; go_simp; with_reducible rfl
              simp only [Act.put, List.getElem_toArray, List.getElem_cons_zero, List.getElem_cons_succ, List.setIfInBounds_toArray, List.set_cons_zero, List.set_cons_succ]
              refine wpAnyX_take (i := 11) (oi := _) (v := ?_) rfl (by kernel_rfl) (by kernel_rfl) (by kernel_rfl) (by kernel_rfl) (fun _ _ _ h => h) (Or.inl ⟨by rfl, ?_⟩) (by assumption) ?_
              rotate_left
              · intro w hSw; go_simp; with_reducible rfl
              simp only [Act.put, List.getElem_toArray, List.getElem_cons_zero, List.getElem_cons_succ, List.setIfInBounds_toArray, List.set_cons_zero, List.set_cons_succ]
              refine wpAnyX_ready (rs := [13]) (by kernel_rfl) (by simp) ?_
              refine AllReadyX.cons rfl (fun K hK => ?_) AllReadyX.nil
              go_simp
              have h5 := h4.blk_ w4.heap.size rfl 3 #[.int .i64 0, .int .i64 0, .int .i64 0, .int .i64 1, .int .i64 2]
              go_wp2_with fail
              refine hK.out _ _ (h5.cell 2 1 rfl rfl) (fun hHeld => ?_)
              clear hK K
              try simp only [Act.put, List.getElem_toArray, List.getElem_cons_zero, List.getElem_cons_succ, List.setIfInBounds_toArray, List.set_cons_zero, List.set_cons_succ]
              refine wpAnyX_ready (rs := [14]) (by kernel_rfl) (by simp) ?_
              refine AllReadyX.cons rfl (fun K hK => ?_) AllReadyX.nil
              go_simp
              refine (among_led (xs := [0, 0, 0, 1, 2]) (cc := 5) h5 5 rfl HB.out HBS.out hn (by omega) (fun w' hl => sees_ints [0, 0, 0, 1, 2] (hl.get 0 rfl)) (by decide) (by decide)).mono ?_
              rintro e w6 ⟨rk, hrk, rfl, h6⟩
              have hrk2 : 0 ≤ rk ∧ rk ≤ 2 := by simp at hrk; omega
              clear hrk
              go_wp2_with fail
              refine hK.out _ _ (h6.cell 2 1 rfl rfl) (fun hHeld => ?_)
              clear hK K
              try simp only [Act.put, List.getElem_toArray, List.getElem_cons_zero, List.getElem_cons_succ, List.setIfInBounds_toArray, List.set_cons_zero, List.set_cons_succ]
              refine wpAnyX_take (i := 15) (oi := _) (v := ?_) rfl (by kernel_rfl) (by kernel_rfl) (by kernel_rfl) (by kernel_rfl) (fun _ _ _ h => h) (Or.inl ⟨by rfl, ?_⟩) (by assumption) ?_
              rotate_left
              · intro w hSw; go_simp; with_reducible rfl
              simp only [Act.put, List.getElem_toArray, List.getElem_cons_zero, List.getElem_cons_succ, List.setIfInBounds_toArray, List.set_cons_zero, List.set_cons_succ]
              refine wpAnyX_ready (rs := [16]) (by kernel_rfl) (by simp) ?_
              refine AllReadyX.cons rfl (fun K hK => ?_) AllReadyX.nil
              go_simp
              refine (l2Put_any (f := ⟨la, mo, 100 * (1 + p), rk⟩) _ (h6.sees 1 rfl rfl) hmc (by omega) ⟨by show 0 ≤ la ∧ la ≤ 1048576; omega, by show 0 ≤ mo ∧ mo ≤ 1048576; omega, by show 0 ≤ 100 * (1 + p) ∧ 100 * (1 + p) ≤ 1048576; omega, by show 0 ≤ rk ∧ rk ≤ 1048576; omega⟩ HSM.out).mono ?_
              rintro e w7 ⟨A7, c7, gs, rfl, hgl, hgs, ho7, hb7⟩
              have h7 := h6.owns_ (b0 := w0.heap.size) hb7 ho7 (Nat.le_refl _) h6.bl.size
              go_wp2_with fail
              refine hK.out _ _ (h7.cell 3 1 rfl rfl) (fun hHeld => ?_)
              clear hK K
              try simp only [Act.put, List.getElem_toArray, List.getElem_cons_zero, List.getElem_cons_succ, List.setIfInBounds_toArray, List.set_cons_zero, List.set_cons_succ]
              refine wpAnyX_take (i := 17) (oi := _) (v := ?_) rfl (by kernel_rfl) (by kernel_rfl) (by kernel_rfl) (by kernel_rfl) (fun _ _ _ h => h) (Or.inl ⟨by rfl, ?_⟩) (by assumption) ?_
              rotate_left
              · intro w hSw; go_simp; with_reducible rfl
              simp only [Act.put, List.getElem_toArray, List.getElem_cons_zero, List.getElem_cons_succ, List.setIfInBounds_toArray, List.set_cons_zero, List.set_cons_succ]
              have q1 := h7.cell 3 1 rfl rfl
              have z1 := h7.frozen 3 1 rfl
              have h8 := hid (Led.del1 (Led.del1 (h7.set 3 rfl 1 (.slice A7 (fs.length + 1) c7))))
              refine wpAnyX_ready (rs := [18]) (by kernel_rfl) (by simp) ?_
              refine AllReadyX.last rfl (fun K hK => ?_)
              go_simp
              go_wp2_with fail
              refine hK.out _ _ ?_
              clear hK K
              try simp only [Act.put, List.getElem_toArray, List.getElem_cons_zero, List.getElem_cons_succ, List.setIfInBounds_toArray, List.set_cons_zero, List.set_cons_succ]
              refine wpAnyX_done (by kernel_rfl) ?_ _
              have HGS := hid hgs
              clear q1 z1 h7 h6 hgs ho7 hb7 hHeld
              go_wp2
              go_roundw
              case rel => exact ⟨j + 1, _, _, gs, by go_num, by omega, by omega, by omega, HGS, h8⟩
              case measure => simp [intOf]; omega
            · skip
              refine AllReadyX.cons rfl (fun K hK => ?_) AllReadyX.nil
              go_simp
              have h5 := (h0.blk_ WW.heap.size rfl 3 #[.int .i64 0, .int .i64 0, .int .i64 0, .int .i64 1, .int .i64 2]).step (Cls.drew _)
              go_wp2_with fail
              refine hK.out _ _ (h5.cell 2 1 rfl rfl) (fun hHeld => ?_)
              clear hK K
              try simp only [Act.put, List.getElem_toArray, List.getElem_cons_zero, List.getElem_cons_succ, List.setIfInBounds_toArray, List.set_cons_zero, List.set_cons_succ]
              refine wpAnyX_ready (rs := [9]) (by kernel_rfl) (by simp) ?_
              refine AllReadyX.cons rfl (fun K hK => ?_) AllReadyX.nil
              go_simp
              refine (pick_led h5 5 rfl HB.out HBS.out hn (by omega) 8 (by decide) (by decide)).mono ?_
              rintro e w4 ⟨p, rfl, hp0, hp1, h4⟩
              have hp2 := hp1 (by decide)
              clear hp1
              have iw1 : IntKind.i64.wrap (1 + p) = 1 + p := IntWalk.i64_in _ (by omega)
              have iw2 : IntKind.i64.wrap (100 * (1 + p)) = 100 * (1 + p) := IntWalk.i64_in _ (by omega)
              go_wp2_with fail
              refine hK.out _ _ (h4.cell 2 1 rfl rfl) (fun hHeld => ?_)
              clear hK K
              try simp only [Act.put, List.getElem_toArray, List.getElem_cons_zero, List.getElem_cons_succ, List.setIfInBounds_toArray, List.set_cons_zero, List.set_cons_succ]
              refine wpAnyX_take (i := 10) (oi := _) (v := ?_) rfl (by kernel_rfl) (by kernel_rfl) (by kernel_rfl) (by kernel_rfl) (fun _ _ _ h => h) (Or.inl ⟨by rfl, ?_⟩) (by assumption) ?_
              rotate_left
              · intro w hSw; go_simp; with_reducible rfl
              simp only [Act.put, List.getElem_toArray, List.getElem_cons_zero, List.getElem_cons_succ, List.setIfInBounds_toArray, List.set_cons_zero, List.set_cons_succ]
              refine wpAnyX_take (i := 11) (oi := _) (v := ?_) rfl (by kernel_rfl) (by kernel_rfl) (by kernel_rfl) (by kernel_rfl) (fun _ _ _ h => h) (Or.inl ⟨by rfl, ?_⟩) (by assumption) ?_
              rotate_left
              · intro w hSw; go_simp; with_reducible rfl
              simp only [Act.put, List.getElem_toArray, List.getElem_cons_zero, List.getElem_cons_succ, List.setIfInBounds_toArray, List.set_cons_zero, List.set_cons_succ]
              refine wpAnyX_ready (rs := [14]) (by kernel_rfl) (by simp) ?_
              refine AllReadyX.cons rfl (fun K hK => ?_) AllReadyX.nil
              go_simp
              refine (among_led (xs := [0, 0, 0, 1, 2]) (cc := 5) h4 5 rfl HB.out HBS.out hn (by omega) (fun w' hl => sees_ints [0, 0, 0, 1, 2] (hl.get 0 rfl)) (by decide) (by decide)).mono ?_
              rintro e w6 ⟨rk, hrk, rfl, h6⟩
              have hrk2 : 0 ≤ rk ∧ rk ≤ 2 := by simp at hrk; omega
              clear hrk
              go_wp2_with fail
              refine hK.out _ _ (h6.cell 2 1 rfl rfl) (fun hHeld => ?_)
              clear hK K
              try simp only [Act.put, List.getElem_toArray, List.getElem_cons_zero, List.getElem_cons_succ, List.setIfInBounds_toArray, List.set_cons_zero, List.set_cons_succ]
              refine wpAnyX_take (i := 15) (oi := _) (v := ?_) rfl (by kernel_rfl) (by kernel_rfl) (by kernel_rfl) (by kernel_rfl) (fun _ _ _ h => h) (Or.inl ⟨by rfl, ?_⟩) (by assumption) ?_
              rotate_left
              · intro w hSw; go_simp; with_reducible rfl
              simp only [Act.put, List.getElem_toArray, List.getElem_cons_zero, List.getElem_cons_succ, List.setIfInBounds_toArray, List.set_cons_zero, List.set_cons_succ]
              refine wpAnyX_ready (rs := [16]) (by kernel_rfl) (by simp) ?_
              refine AllReadyX.cons rfl (fun K hK => ?_) AllReadyX.nil
              go_simp
              refine (l2Put_any (f := ⟨la, mo, 100 * (1 + p), rk⟩) _ (h6.sees 1 rfl rfl) hmc (by omega) ⟨by show 0 ≤ la ∧ la ≤ 1048576; omega, by show 0 ≤ mo ∧ mo ≤ 1048576; omega, by show 0 ≤ 100 * (1 + p) ∧ 100 * (1 + p) ≤ 1048576; omega, by show 0 ≤ rk ∧ rk ≤ 1048576; omega⟩ HSM.out).mono ?_
              rintro e w7 ⟨A7, c7, gs, rfl, hgl, hgs, ho7, hb7⟩
              have h7 := h6.owns_ (b0 := w0.heap.size) hb7 ho7 (Nat.le_refl _) h6.bl.size
              go_wp2_with fail
              refine hK.out _ _ (h7.cell 3 1 rfl rfl) (fun hHeld => ?_)
              clear hK K
              try simp only [Act.put, List.getElem_toArray, List.getElem_cons_zero, List.getElem_cons_succ, List.setIfInBounds_toArray, List.set_cons_zero, List.set_cons_succ]
              refine wpAnyX_take (i := 17) (oi := _) (v := ?_) rfl (by kernel_rfl) (by kernel_rfl) (by kernel_rfl) (by kernel_rfl) (fun _ _ _ h => h) (Or.inl ⟨by rfl, ?_⟩) (by assumption) ?_
              rotate_left
              · intro w hSw; go_simp; with_reducible rfl
              simp only [Act.put, List.getElem_toArray, List.getElem_cons_zero, List.getElem_cons_succ, List.setIfInBounds_toArray, List.set_cons_zero, List.set_cons_succ]
              have q1 := h7.cell 3 1 rfl rfl
              have z1 := h7.frozen 3 1 rfl
              have h8 := hid (Led.del1 (Led.del1 (h7.set 3 rfl 1 (.slice A7 (fs.length + 1) c7))))
              refine wpAnyX_ready (rs := [18]) (by kernel_rfl) (by simp) ?_
              refine AllReadyX.last rfl (fun K hK => ?_)
              go_simp
              go_wp2_with fail
              refine hK.out _ _ ?_
              clear hK K
              try simp only [Act.put, List.getElem_toArray, List.getElem_cons_zero, List.getElem_cons_succ, List.setIfInBounds_toArray, List.set_cons_zero, List.set_cons_succ]
              refine wpAnyX_done (by kernel_rfl) ?_ _
              have HGS := hid hgs
              clear q1 z1 h7 h6 hgs ho7 hb7 hHeld
              go_wp2
              go_roundw
              case rel => exact ⟨j + 1, _, _, gs, by go_num, by omega, by omega, by omega, HGS, h8⟩
              case measure => simp [intOf]; omega
          · skip
            refine AllReadyX.cons rfl (fun K hK => ?_) AllReadyX.nil
            go_simp
            have h5 := (h0.blk_ WW.heap.size rfl 3 #[.int .i64 0, .int .i64 0, .int .i64 0, .int .i64 1, .int .i64 2]).step (Cls.drew _)
            go_wp2_with fail
            refine hK.out _ _ (h5.cell 2 1 rfl rfl) (fun hHeld => ?_)
            clear hK K
            try simp only [Act.put, List.getElem_toArray, List.getElem_cons_zero, List.getElem_cons_succ, List.setIfInBounds_toArray, List.set_cons_zero, List.set_cons_succ]
            refine wpAnyX_ready (rs := [7]) (by kernel_rfl) (by simp) ?_
            refine AllReadyX.cons rfl (fun K hK => ?_) AllReadyX.nil
            go_simp
            refine (l1Most_any (j : Int) (q : Int) _).mono ?_
            rintro e w3 ⟨mo, rfl, hmo, -, rfl⟩
            go_wp2_with fail
            refine hK.out _ _ (h5.cell 2 1 rfl rfl) (fun hHeld => ?_)
            clear hK K
            try simp only [Act.put, List.getElem_toArray, List.getElem_cons_zero, List.getElem_cons_succ, List.setIfInBounds_toArray, List.set_cons_zero, List.set_cons_succ]
            refine wpAnyX_ready (rs := [9]) (by kernel_rfl) (by simp) ?_
            refine AllReadyX.cons rfl (fun K hK => ?_) AllReadyX.nil
            go_simp
            refine (pick_led h5 5 rfl HB.out HBS.out hn (by omega) 8 (by decide) (by decide)).mono ?_
            rintro e w4 ⟨p, rfl, hp0, hp1, h4⟩
            have hp2 := hp1 (by decide)
            clear hp1
            have iw1 : IntKind.i64.wrap (1 + p) = 1 + p := IntWalk.i64_in _ (by omega)
            have iw2 : IntKind.i64.wrap (100 * (1 + p)) = 100 * (1 + p) := IntWalk.i64_in _ (by omega)
            go_wp2_with fail
            refine hK.out _ _ (h4.cell 2 1 rfl rfl) (fun hHeld => ?_)
            clear hK K
            try simp only [Act.put, List.getElem_toArray, List.getElem_cons_zero, List.getElem_cons_succ, List.setIfInBounds_toArray, List.set_cons_zero, List.set_cons_succ]
            refine wpAnyX_take (i := 10) (oi := _) (v := ?_) rfl (by kernel_rfl) (by kernel_rfl) (by kernel_rfl) (by kernel_rfl) (fun _ _ _ h => h) (Or.inl ⟨by rfl, ?_⟩) (by assumption) ?_
            rotate_left
            · intro w hSw; go_simp; with_reducible rfl
            simp only [Act.put, List.getElem_toArray, List.getElem_cons_zero, List.getElem_cons_succ, List.setIfInBounds_toArray, List.set_cons_zero, List.set_cons_succ]
            refine wpAnyX_take (i := 11) (oi := _) (v := ?_) rfl (by kernel_rfl) (by kernel_rfl) (by kernel_rfl) (by kernel_rfl) (fun _ _ _ h => h) (Or.inl ⟨by rfl, ?_⟩) (by assumption) ?_
            rotate_left
            · intro w hSw; go_simp; with_reducible rfl
            simp only [Act.put, List.getElem_toArray, List.getElem_cons_zero, List.getElem_cons_succ, List.setIfInBounds_toArray, List.set_cons_zero, List.set_cons_succ]
            refine wpAnyX_ready (rs := [14]) (by kernel_rfl) (by simp) ?_
            refine AllReadyX.cons rfl (fun K hK => ?_) AllReadyX.nil
            go_simp
            refine (among_led (xs := [0, 0, 0, 1, 2]) (cc := 5) h4 5 rfl HB.out HBS.out hn (by omega) (fun w' hl => sees_ints [0, 0, 0, 1, 2] (hl.get 0 rfl)) (by decide) (by decide)).mono ?_
            rintro e w6 ⟨rk, hrk, rfl, h6⟩
            have hrk2 : 0 ≤ rk ∧ rk ≤ 2 := by simp at hrk; omega
            clear hrk
            go_wp2_with fail
            refine hK.out _ _ (h6.cell 2 1 rfl rfl) (fun hHeld => ?_)
            clear hK K
            try simp only [Act.put, List.getElem_toArray, List.getElem_cons_zero, List.getElem_cons_succ, List.setIfInBounds_toArray, List.set_cons_zero, List.set_cons_succ]
            refine wpAnyX_take (i := 15) (oi := _) (v := ?_) rfl (by kernel_rfl) (by kernel_rfl) (by kernel_rfl) (by kernel_rfl) (fun _ _ _ h => h) (Or.inl ⟨by rfl, ?_⟩) (by assumption) ?_
            rotate_left
            · intro w hSw; go_simp; with_reducible rfl
            simp only [Act.put, List.getElem_toArray, List.getElem_cons_zero, List.getElem_cons_succ, List.setIfInBounds_toArray, List.set_cons_zero, List.set_cons_succ]
            refine wpAnyX_ready (rs := [16]) (by kernel_rfl) (by simp) ?_
            refine AllReadyX.cons rfl (fun K hK => ?_) AllReadyX.nil
            go_simp
            refine (l2Put_any (f := ⟨la, mo, 100 * (1 + p), rk⟩) _ (h6.sees 1 rfl rfl) hmc (by omega) ⟨by show 0 ≤ la ∧ la ≤ 1048576; omega, by show 0 ≤ mo ∧ mo ≤ 1048576; omega, by show 0 ≤ 100 * (1 + p) ∧ 100 * (1 + p) ≤ 1048576; omega, by show 0 ≤ rk ∧ rk ≤ 1048576; omega⟩ HSM.out).mono ?_
            rintro e w7 ⟨A7, c7, gs, rfl, hgl, hgs, ho7, hb7⟩
            have h7 := h6.owns_ (b0 := w0.heap.size) hb7 ho7 (Nat.le_refl _) h6.bl.size
            go_wp2_with fail
            refine hK.out _ _ (h7.cell 3 1 rfl rfl) (fun hHeld => ?_)
            clear hK K
            try simp only [Act.put, List.getElem_toArray, List.getElem_cons_zero, List.getElem_cons_succ, List.setIfInBounds_toArray, List.set_cons_zero, List.set_cons_succ]
            refine wpAnyX_take (i := 17) (oi := _) (v := ?_) rfl (by kernel_rfl) (by kernel_rfl) (by kernel_rfl) (by kernel_rfl) (fun _ _ _ h => h) (Or.inl ⟨by rfl, ?_⟩) (by assumption) ?_
            rotate_left
            · intro w hSw; go_simp; with_reducible rfl
            simp only [Act.put, List.getElem_toArray, List.getElem_cons_zero, List.getElem_cons_succ, List.setIfInBounds_toArray, List.set_cons_zero, List.set_cons_succ]
            have q1 := h7.cell 3 1 rfl rfl
            have z1 := h7.frozen 3 1 rfl
            have h8 := hid (Led.del1 (Led.del1 (h7.set 3 rfl 1 (.slice A7 (fs.length + 1) c7))))
            refine wpAnyX_ready (rs := [18]) (by kernel_rfl) (by simp) ?_
            refine AllReadyX.last rfl (fun K hK => ?_)
            go_simp
            go_wp2_with fail
            refine hK.out _ _ ?_
            clear hK K
            try simp only [Act.put, List.getElem_toArray, List.getElem_cons_zero, List.getElem_cons_succ, List.setIfInBounds_toArray, List.set_cons_zero, List.set_cons_succ]
            refine wpAnyX_done (by kernel_rfl) ?_ _
            have HGS := hid hgs
            clear q1 z1 h7 h6 hgs ho7 hb7 hHeld
            go_wp2
            go_roundw
            case rel => exact ⟨j + 1, _, _, gs, by go_num, by omega, by omega, by omega, HGS, h8⟩
            case measure => simp [intOf]; omega
        · skip
          refine AllReadyX.cons rfl (fun K hK => ?_) AllReadyX.nil
          go_simp
          have h5 := (h0.blk_ WW.heap.size rfl 3 #[.int .i64 0, .int .i64 0, .int .i64 0, .int .i64 1, .int .i64 2]).step (Cls.drew _)
          go_wp2_with fail
          refine hK.out _ _ (h5.cell 2 1 rfl rfl) (fun hHeld => ?_)
          clear hK K
          try simp only [Act.put, List.getElem_toArray, List.getElem_cons_zero, List.getElem_cons_succ, List.setIfInBounds_toArray, List.set_cons_zero, List.set_cons_succ]
          refine wpAnyX_ready (rs := [4]) (by kernel_rfl) (by simp) ?_
          refine AllReadyX.cons rfl (fun K hK => ?_) AllReadyX.nil
          go_simp
          refine (l1Least_any (j : Int) (q : Int) _).mono ?_
          rintro e w3 ⟨la, rfl, hla, rfl⟩
          go_wp2_with fail
          refine hK.out _ _ (h5.cell 2 1 rfl rfl) (fun hHeld => ?_)
          clear hK K
          try simp only [Act.put, List.getElem_toArray, List.getElem_cons_zero, List.getElem_cons_succ, List.setIfInBounds_toArray, List.set_cons_zero, List.set_cons_succ]
          refine wpAnyX_ready (rs := [7]) (by kernel_rfl) (by simp) ?_
          refine AllReadyX.cons rfl (fun K hK => ?_) AllReadyX.nil
          go_simp
          refine (l1Most_any (j : Int) (q : Int) _).mono ?_
          rintro e w3 ⟨mo, rfl, hmo, -, rfl⟩
          go_wp2_with fail
          refine hK.out _ _ (h5.cell 2 1 rfl rfl) (fun hHeld => ?_)
          clear hK K
          try simp only [Act.put, List.getElem_toArray, List.getElem_cons_zero, List.getElem_cons_succ, List.setIfInBounds_toArray, List.set_cons_zero, List.set_cons_succ]
          refine wpAnyX_ready (rs := [9]) (by kernel_rfl) (by simp) ?_
          refine AllReadyX.cons rfl (fun K hK => ?_) AllReadyX.nil
          go_simp
          refine (pick_led h5 5 rfl HB.out HBS.out hn (by omega) 8 (by decide) (by decide)).mono ?_
          rintro e w4 ⟨p, rfl, hp0, hp1, h4⟩
          have hp2 := hp1 (by decide)
          clear hp1
          have iw1 : IntKind.i64.wrap (1 + p) = 1 + p := IntWalk.i64_in _ (by omega)
          have iw2 : IntKind.i64.wrap (100 * (1 + p)) = 100 * (1 + p) := IntWalk.i64_in _ (by omega)
          go_wp2_with fail
          refine hK.out _ _ (h4.cell 2 1 rfl rfl) (fun hHeld => ?_)
          clear hK K
          try simp only [Act.put, List.getElem_toArray, List.getElem_cons_zero, List.getElem_cons_succ, List.setIfInBounds_toArray, List.set_cons_zero, List.set_cons_succ]
          refine wpAnyX_take (i := 10) (oi := _) (v := ?_) rfl (by kernel_rfl) (by kernel_rfl) (by kernel_rfl) (by kernel_rfl) (fun _ _ _ h => h) (Or.inl ⟨by rfl, ?_⟩) (by assumption) ?_
          rotate_left
          · intro w hSw; go_simp; with_reducible rfl
          simp only [Act.put, List.getElem_toArray, List.getElem_cons_zero, List.getElem_cons_succ, List.setIfInBounds_toArray, List.set_cons_zero, List.set_cons_succ]
          refine wpAnyX_take (i := 11) (oi := _) (v := ?_) rfl (by kernel_rfl) (by kernel_rfl) (by kernel_rfl) (by kernel_rfl) (fun _ _ _ h => h) (Or.inl ⟨by rfl, ?_⟩) (by assumption) ?_
          rotate_left
          · intro w hSw; go_simp; with_reducible rfl
          simp only [Act.put, List.getElem_toArray, List.getElem_cons_zero, List.getElem_cons_succ, List.setIfInBounds_toArray, List.set_cons_zero, List.set_cons_succ]
          refine wpAnyX_ready (rs := [14]) (by kernel_rfl) (by simp) ?_
          refine AllReadyX.cons rfl (fun K hK => ?_) AllReadyX.nil
          go_simp
          refine (among_led (xs := [0, 0, 0, 1, 2]) (cc := 5) h4 5 rfl HB.out HBS.out hn (by omega) (fun w' hl => sees_ints [0, 0, 0, 1, 2] (hl.get 0 rfl)) (by decide) (by decide)).mono ?_
          rintro e w6 ⟨rk, hrk, rfl, h6⟩
          have hrk2 : 0 ≤ rk ∧ rk ≤ 2 := by simp at hrk; omega
          clear hrk
          go_wp2_with fail
          refine hK.out _ _ (h6.cell 2 1 rfl rfl) (fun hHeld => ?_)
          clear hK K
          try simp only [Act.put, List.getElem_toArray, List.getElem_cons_zero, List.getElem_cons_succ, List.setIfInBounds_toArray, List.set_cons_zero, List.set_cons_succ]
          refine wpAnyX_take (i := 15) (oi := _) (v := ?_) rfl (by kernel_rfl) (by kernel_rfl) (by kernel_rfl) (by kernel_rfl) (fun _ _ _ h => h) (Or.inl ⟨by rfl, ?_⟩) (by assumption) ?_
          rotate_left
          · intro w hSw; go_simp; with_reducible rfl
          simp only [Act.put, List.getElem_toArray, List.getElem_cons_zero, List.getElem_cons_succ, List.setIfInBounds_toArray, List.set_cons_zero, List.set_cons_succ]
          refine wpAnyX_ready (rs := [16]) (by kernel_rfl) (by simp) ?_
          refine AllReadyX.cons rfl (fun K hK => ?_) AllReadyX.nil
          go_simp
          refine (l2Put_any (f := ⟨la, mo, 100 * (1 + p), rk⟩) _ (h6.sees 1 rfl rfl) hmc (by omega) ⟨by show 0 ≤ la ∧ la ≤ 1048576; omega, by show 0 ≤ mo ∧ mo ≤ 1048576; omega, by show 0 ≤ 100 * (1 + p) ∧ 100 * (1 + p) ≤ 1048576; omega, by show 0 ≤ rk ∧ rk ≤ 1048576; omega⟩ HSM.out).mono ?_
          rintro e w7 ⟨A7, c7, gs, rfl, hgl, hgs, ho7, hb7⟩
          have h7 := h6.owns_ (b0 := w0.heap.size) hb7 ho7 (Nat.le_refl _) h6.bl.size
          go_wp2_with fail
          refine hK.out _ _ (h7.cell 3 1 rfl rfl) (fun hHeld => ?_)
          clear hK K
          try simp only [Act.put, List.getElem_toArray, List.getElem_cons_zero, List.getElem_cons_succ, List.setIfInBounds_toArray, List.set_cons_zero, List.set_cons_succ]
          refine wpAnyX_take (i := 17) (oi := _) (v := ?_) rfl (by kernel_rfl) (by kernel_rfl) (by kernel_rfl) (by kernel_rfl) (fun _ _ _ h => h) (Or.inl ⟨by rfl, ?_⟩) (by assumption) ?_
          rotate_left
          · intro w hSw; go_simp; with_reducible rfl
          simp only [Act.put, List.getElem_toArray, List.getElem_cons_zero, List.getElem_cons_succ, List.setIfInBounds_toArray, List.set_cons_zero, List.set_cons_succ]
          have q1 := h7.cell 3 1 rfl rfl
          have z1 := h7.frozen 3 1 rfl
          have h8 := hid (Led.del1 (Led.del1 (h7.set 3 rfl 1 (.slice A7 (fs.length + 1) c7))))
          refine wpAnyX_ready (rs := [18]) (by kernel_rfl) (by simp) ?_
          refine AllReadyX.last rfl (fun K hK => ?_)
          go_simp
          go_wp2_with fail
          refine hK.out _ _ ?_
          clear hK K
          try simp only [Act.put, List.getElem_toArray, List.getElem_cons_zero, List.getElem_cons_succ, List.setIfInBounds_toArray, List.set_cons_zero, List.set_cons_succ]
          refine wpAnyX_done (by kernel_rfl) ?_ _
          have HGS := hid hgs
          clear q1 z1 h7 h6 hgs ho7 hb7 hHeld
          go_wp2
          go_roundw
          case rel => exact ⟨j + 1, _, _, gs, by go_num, by omega, by omega, by omega, HGS, h8⟩
          case measure => simp [intOf]; omega
      · go_wp2
        go_roundw
        case rel => exact ⟨j + 1, _, _, fs, by go_num, by omega, by omega, by omega, HSM, H2⟩
        case measure => simp [intOf]; omega
    · have hfl6 : fs.length ≤ 6 := by omega
      have hK6 : K' ≤ K + 122 := by omega
      clear hfl hK'
      go_wp2_with fail
      refine (pick_led HS.out 4 rfl HB.out HBS.out hn (by omega) 4 (by decide) (by decide)).mono ?_
      rintro e w2 ⟨x2, rfl, hy0, hy1, h2⟩
      have hy2 := hy1 (by decide)
      obtain ⟨mm, rfl⟩ : ∃ mm : Nat, x2 = (mm : Int) := ⟨x2.toNat, by omega⟩
      have H2 := hid h2
      clear h2 HS hy1
      go_wp2_with fail
      go_loopw [7] (fun i wr => ∃ (t K' : Nat) (vF : Value) (fs : List Fib), i = .int .i64 t ∧ t ≤ 3 ∧ fs.length + t ≤ 9 ∧ K' + 20 * t ≤ K + 300 ∧ Hid (∀ x ∈ fs, smallF x) ∧ Hid (Led w0 wr (tOwns elFib w0.heap.size 62 vF fs :: tBlk (w1.heap.size + 1) 27 #[.slice (some ⟨w1.heap.size, 0, none⟩) k 6, vF] :: tOwns elStr w0.heap.size 9 (.slice (some ⟨w1.heap.size, 0, none⟩) k 6) (nmL.take k) :: tBlk w.heap.size 27 #[.slice none 0 0, .slice none 0 0] :: tCur A n c g K' :: R))) (fun i _ => (intOf i).toNat)
      case atStart => exact ⟨mm, K' + 2, _, fs, rfl, by omega, by omega, by omega, HSM, H2⟩
      case round =>
        clear H2 HSM hfl6 hK6
        obtain ⟨t, K', vF, fs, rfl, ht, hfl, hK', HSM, HS⟩ := hrel
        obtain ⟨AF, cF, rfl, hmc⟩ := HS.out.form 0 rfl
        by_cases hlt : (t : Int) > 0
        · go_wp2_with fail
          refine (pick_led HS.out 4 rfl HB.out HBS.out hn (by omega) (k : Int) (by omega) (by omega)).mono ?_
          rintro e w3 ⟨ia, rfl, ha0, ha1, h3⟩
          have ha2 := ha1 (by omega)
          have H3 := hid h3
          clear h3 ha1 HS
          go_wp2_with fail
          refine (pick_led H3.out 4 rfl HB.out HBS.out hn (by omega) (k : Int) (by omega) (by omega)).mono ?_
          rintro e w4 ⟨ja, rfl, hb0, hb1, h4⟩
          have hb2 := hb1 (by omega)
          have H4 := hid h4
          clear h4 hb1 H3
          obtain ⟨WW, hWW⟩ : ∃ WW, WW = w4 := ⟨_, rfl⟩
          rw [← hWW] at H4 ⊢
          clear hWW iw
          by_cases hij : ia = ja
          · have hne : (ia != ja) = false := by rw [hij]; simp
            clear hij
            go_wp2
            go_roundw
            case rel => exact ⟨t - 1, _, _, fs, by go_num, by omega, by omega, by omega, HSM, H4⟩
            case measure => simp [intOf]; omega
          · have hne : (ia != ja) = true := by simp [hij]
            clear hij
            go_wp2_with fail
            refine wp_region_heldX 18 (fun w' => w'.cell? ⟨w1.heap.size + 1, 1, none⟩ = some (.slice AF fs.length cF)) (by kernel_rfl) (H4.out.cell 1 1 rfl rfl) (fun hHeld => ?_)
            refine wpAnyX_take (i := 0) (oi := _) (v := ?_) rfl (by kernel_rfl) (by kernel_rfl) (by kernel_rfl) (by kernel_rfl) (fun _ _ _ h => h) (Or.inl ⟨by rfl, ?_⟩) (by assumption) ?_
            rotate_left
            · intro w hSw; go_simp; with_reducible rfl
            simp only [Act.put, List.getElem_toArray, List.getElem_cons_zero, List.setIfInBounds_toArray, List.set_cons_zero, List.set_cons_succ]
            refine wpAnyX_take (i := 1) (oi := _) (v := ?_) rfl (by kernel_rfl) (by kernel_rfl) (by kernel_rfl) (by kernel_rfl) (fun _ _ _ h => h) (Or.inl ⟨by rfl, ?_⟩) (by assumption) ?_
            rotate_left
            · intro w hSw; go_simp; with_reducible rfl
            simp only [Act.put, List.getElem_toArray, List.getElem_cons_zero, List.getElem_cons_succ, List.setIfInBounds_toArray, List.set_cons_zero, List.set_cons_succ]
            refine wpAnyX_take (i := 2) (oi := _) (v := ?_) rfl (by kernel_rfl) (by kernel_rfl) (by kernel_rfl) (by kernel_rfl) (fun _ _ _ h => h) (Or.inl ⟨by rfl, ?_⟩) (by assumption) ?_
            rotate_left
            · intro w hSw; go_simp; with_reducible rfl
            simp only [Act.put, List.getElem_toArray, List.getElem_cons_zero, List.getElem_cons_succ, List.setIfInBounds_toArray, List.set_cons_zero, List.set_cons_succ]
            refine wpAnyX_take (i := 3) (oi := _) (v := ?_) rfl (by kernel_rfl) (by kernel_rfl) (by kernel_rfl) (by kernel_rfl) (fun _ _ _ h => h) (Or.inl ⟨by rfl, ?_⟩) (by assumption) ?_
            rotate_left
            · intro w hSw; go_simp; with_reducible rfl
            simp only [Act.put, List.getElem_toArray, List.getElem_cons_zero, List.getElem_cons_succ, List.setIfInBounds_toArray, List.set_cons_zero, List.set_cons_succ]
            refine wpAnyX_take (i := 5) (oi := _) (v := ?_) rfl (by kernel_rfl) (by kernel_rfl) (by kernel_rfl) (by kernel_rfl) (fun _ _ _ h => h) (Or.inl ⟨by rfl, ?_⟩) (by assumption) ?_
            rotate_left
            · intro w hSw; go_simp; with_reducible rfl
            simp only [Act.put, List.getElem_toArray, List.getElem_cons_zero, List.getElem_cons_succ, List.setIfInBounds_toArray, List.set_cons_zero, List.set_cons_succ]
            refine wpAnyX_take (i := 6) (oi := _) (v := ?_) rfl (by kernel_rfl) (by kernel_rfl) (by kernel_rfl) (by kernel_rfl) (fun _ _ _ h => h) (Or.inl ⟨by rfl, ?_⟩) (by assumption) ?_
            rotate_left
            · intro w hSw; go_simp; with_reducible rfl
            simp only [Act.put, List.getElem_toArray, List.getElem_cons_zero, List.getElem_cons_succ, List.setIfInBounds_toArray, List.set_cons_zero, List.set_cons_succ]
            refine wpAnyX_take (i := 8) (oi := _) (v := ?_) rfl (by kernel_rfl) (by kernel_rfl) (by kernel_rfl) (by kernel_rfl) (fun _ _ _ h => h) (Or.inl ⟨by rfl, ?_⟩) (by assumption) ?_
            rotate_left
            · intro w hSw; go_simp; with_reducible rfl
            simp only [Act.put, List.getElem_toArray, List.getElem_cons_zero, List.getElem_cons_succ, List.setIfInBounds_toArray, List.set_cons_zero, List.set_cons_succ]
            refine wpAnyX_take (i := 12) (oi := _) (v := ?_) rfl (by kernel_rfl) (by kernel_rfl) (by kernel_rfl) (by kernel_rfl) (fun _ _ _ h => h) (Or.inl ⟨by rfl, ?_⟩) (by assumption) ?_
            rotate_left
            · intro w hSw; go_simp; with_reducible rfl
            simp only [Act.put, List.getElem_toArray, List.getElem_cons_zero, List.getElem_cons_succ, List.setIfInBounds_toArray, List.set_cons_zero, List.set_cons_succ]
            have h0 := H4.out
            have hd := h0.step (Cls.drew _)
            refine wpAnyX_ready (rs := [4, 13]) (by kernel_rfl) (by simp) ?_
            refine AllReadyX.cons rfl (fun K hK => ?_) ?_
            · skip
              go_simp
              refine (l1Least_any ia ja _).mono ?_
              rintro e w3 ⟨la, rfl, hla, rfl⟩
              go_wp2_with fail
              refine hK.out _ _ (hd.cell 1 1 rfl rfl) (fun hHeld => ?_)
              clear hK K
              try simp only [Act.put, List.getElem_toArray, List.getElem_cons_zero, List.getElem_cons_succ, List.setIfInBounds_toArray, List.set_cons_zero, List.set_cons_succ]
              refine wpAnyX_ready (rs := [7, 13]) (by kernel_rfl) (by simp) ?_
              refine AllReadyX.cons rfl (fun K hK => ?_) ?_
              · skip
                go_simp
                refine (l1Most_any ia ja _).mono ?_
                rintro e w3 ⟨mo, rfl, hmo, -, rfl⟩
                go_wp2_with fail
                refine hK.out _ _ (hd.cell 1 1 rfl rfl) (fun hHeld => ?_)
                clear hK K
                try simp only [Act.put, List.getElem_toArray, List.getElem_cons_zero, List.getElem_cons_succ, List.setIfInBounds_toArray, List.set_cons_zero, List.set_cons_succ]
                refine wpAnyX_ready (rs := [9, 13]) (by kernel_rfl) (by simp) ?_
                refine AllReadyX.cons rfl (fun K hK => ?_) ?_
                · skip
                  go_simp
                  refine (pick_led hd 4 rfl HB.out HBS.out hn (by omega) 8 (by decide) (by decide)).mono ?_
                  rintro e w4 ⟨p, rfl, hp0, hp1, h4⟩
                  have hp2 := hp1 (by decide)
                  clear hp1
                  have iw1 : IntKind.i64.wrap (1 + p) = 1 + p := IntWalk.i64_in _ (by omega)
                  have iw2 : IntKind.i64.wrap (100 * (1 + p)) = 100 * (1 + p) := IntWalk.i64_in _ (by omega)
                  go_wp2_with fail
                  refine hK.out _ _ (h4.cell 1 1 rfl rfl) (fun hHeld => ?_)
                  clear hK K
                  try simp only [Act.put, List.getElem_toArray, List.getElem_cons_zero, List.getElem_cons_succ, List.setIfInBounds_toArray, List.set_cons_zero, List.set_cons_succ]
                  refine wpAnyX_take (i := 10) (oi := _) (v := ?_) rfl (by kernel_rfl) (by kernel_rfl) (by kernel_rfl) (by kernel_rfl) (fun _ _ _ h => h) (Or.inl ⟨by rfl, ?_⟩) (by assumption) ?_
                  rotate_left
                  · intro w hSw; go_simp; with_reducible rfl
                  simp only [Act.put, List.getElem_toArray, List.getElem_cons_zero, List.getElem_cons_succ, List.setIfInBounds_toArray, List.set_cons_zero, List.set_cons_succ]
                  refine wpAnyX_take (i := 11) (oi := _) (v := ?_) rfl (by kernel_rfl) (by kernel_rfl) (by kernel_rfl) (by kernel_rfl) (fun _ _ _ h => h) (Or.inl ⟨by rfl, ?_⟩) (by assumption) ?_
                  rotate_left
                  · intro w hSw; go_simp; with_reducible rfl
                  simp only [Act.put, List.getElem_toArray, List.getElem_cons_zero, List.getElem_cons_succ, List.setIfInBounds_toArray, List.set_cons_zero, List.set_cons_succ]
                  refine wpAnyX_ready (rs := [13]) (by kernel_rfl) (by simp) ?_
                  refine AllReadyX.cons rfl (fun K hK => ?_) AllReadyX.nil
                  go_simp
                  have h5 := h4.blk_ w4.heap.size rfl 3 #[.int .i64 0, .int .i64 0, .int .i64 0, .int .i64 1, .int .i64 2]
                  go_wp2_with fail
                  refine hK.out _ _ (h5.cell 2 1 rfl rfl) (fun hHeld => ?_)
                  clear hK K
                  try simp only [Act.put, List.getElem_toArray, List.getElem_cons_zero, List.getElem_cons_succ, List.setIfInBounds_toArray, List.set_cons_zero, List.set_cons_succ]
                  refine wpAnyX_ready (rs := [14]) (by kernel_rfl) (by simp) ?_
                  refine AllReadyX.cons rfl (fun K hK => ?_) AllReadyX.nil
                  go_simp
                  refine (among_led (xs := [0, 0, 0, 1, 2]) (cc := 5) h5 5 rfl HB.out HBS.out hn (by omega) (fun w' hl => sees_ints [0, 0, 0, 1, 2] (hl.get 0 rfl)) (by decide) (by decide)).mono ?_
                  rintro e w6 ⟨rk, hrk, rfl, h6⟩
                  have hrk2 : 0 ≤ rk ∧ rk ≤ 2 := by simp at hrk; omega
                  clear hrk
                  go_wp2_with fail
                  refine hK.out _ _ (h6.cell 2 1 rfl rfl) (fun hHeld => ?_)
                  clear hK K
                  try simp only [Act.put, List.getElem_toArray, List.getElem_cons_zero, List.getElem_cons_succ, List.setIfInBounds_toArray, List.set_cons_zero, List.set_cons_succ]
                  refine wpAnyX_take (i := 15) (oi := _) (v := ?_) rfl (by kernel_rfl) (by kernel_rfl) (by kernel_rfl) (by kernel_rfl) (fun _ _ _ h => h) (Or.inl ⟨by rfl, ?_⟩) (by assumption) ?_
                  rotate_left
                  · intro w hSw; go_simp; with_reducible rfl
                  simp only [Act.put, List.getElem_toArray, List.getElem_cons_zero, List.getElem_cons_succ, List.setIfInBounds_toArray, List.set_cons_zero, List.set_cons_succ]
                  refine wpAnyX_ready (rs := [16]) (by kernel_rfl) (by simp) ?_
                  refine AllReadyX.cons rfl (fun K hK => ?_) AllReadyX.nil
                  go_simp
                  refine (l2Put_any (f := ⟨la, mo, 100 * (1 + p), rk⟩) _ (h6.sees 1 rfl rfl) hmc (by omega) ⟨by show 0 ≤ la ∧ la ≤ 1048576; omega, by show 0 ≤ mo ∧ mo ≤ 1048576; omega, by show 0 ≤ 100 * (1 + p) ∧ 100 * (1 + p) ≤ 1048576; omega, by show 0 ≤ rk ∧ rk ≤ 1048576; omega⟩ HSM.out).mono ?_
                  rintro e w7 ⟨A7, c7, gs, rfl, hgl, hgs, ho7, hb7⟩
                  have h7 := h6.owns_ (b0 := w0.heap.size) hb7 ho7 (Nat.le_refl _) h6.bl.size
                  go_wp2_with fail
                  refine hK.out _ _ (h7.cell 3 1 rfl rfl) (fun hHeld => ?_)
                  clear hK K
                  try simp only [Act.put, List.getElem_toArray, List.getElem_cons_zero, List.getElem_cons_succ, List.setIfInBounds_toArray, List.set_cons_zero, List.set_cons_succ]
                  refine wpAnyX_take (i := 17) (oi := _) (v := ?_) rfl (by kernel_rfl) (by kernel_rfl) (by kernel_rfl) (by kernel_rfl) (fun _ _ _ h => h) (Or.inl ⟨by rfl, ?_⟩) (by assumption) ?_
                  rotate_left
                  · intro w hSw; go_simp; with_reducible rfl
                  simp only [Act.put, List.getElem_toArray, List.getElem_cons_zero, List.getElem_cons_succ, List.setIfInBounds_toArray, List.set_cons_zero, List.set_cons_succ]
                  have q1 := h7.cell 3 1 rfl rfl
                  have z1 := h7.frozen 3 1 rfl
                  have h8 := hid (Led.del1 (Led.del1 (h7.set 3 rfl 1 (.slice A7 (fs.length + 1) c7))))
                  refine wpAnyX_ready (rs := [18]) (by kernel_rfl) (by simp) ?_
                  refine AllReadyX.last rfl (fun K hK => ?_)
                  go_simp
                  go_wp2_with fail
                  refine hK.out _ _ ?_
                  clear hK K
                  try simp only [Act.put, List.getElem_toArray, List.getElem_cons_zero, List.getElem_cons_succ, List.setIfInBounds_toArray, List.set_cons_zero, List.set_cons_succ]
                  refine wpAnyX_done (by kernel_rfl) ?_ _
                  have HGS := hid hgs
                  clear q1 z1 h7 h6 hgs ho7 hb7 hHeld
                  go_wp2
                  go_roundw
                  case rel => exact ⟨t - 1, _, _, gs, by go_num, by omega, by omega, by omega, HGS, h8⟩
                  case measure => simp [intOf]; omega
                · skip
                  refine AllReadyX.cons rfl (fun K hK => ?_) AllReadyX.nil
                  go_simp
                  have h5 := (h0.blk_ WW.heap.size rfl 3 #[.int .i64 0, .int .i64 0, .int .i64 0, .int .i64 1, .int .i64 2]).step (Cls.drew _)
                  go_wp2_with fail
                  refine hK.out _ _ (h5.cell 2 1 rfl rfl) (fun hHeld => ?_)
                  clear hK K
                  try simp only [Act.put, List.getElem_toArray, List.getElem_cons_zero, List.getElem_cons_succ, List.setIfInBounds_toArray, List.set_cons_zero, List.set_cons_succ]
                  refine wpAnyX_ready (rs := [9]) (by kernel_rfl) (by simp) ?_
                  refine AllReadyX.cons rfl (fun K hK => ?_) AllReadyX.nil
                  go_simp
                  refine (pick_led h5 5 rfl HB.out HBS.out hn (by omega) 8 (by decide) (by decide)).mono ?_
                  rintro e w4 ⟨p, rfl, hp0, hp1, h4⟩
                  have hp2 := hp1 (by decide)
                  clear hp1
                  have iw1 : IntKind.i64.wrap (1 + p) = 1 + p := IntWalk.i64_in _ (by omega)
                  have iw2 : IntKind.i64.wrap (100 * (1 + p)) = 100 * (1 + p) := IntWalk.i64_in _ (by omega)
                  go_wp2_with fail
                  refine hK.out _ _ (h4.cell 2 1 rfl rfl) (fun hHeld => ?_)
                  clear hK K
                  try simp only [Act.put, List.getElem_toArray, List.getElem_cons_zero, List.getElem_cons_succ, List.setIfInBounds_toArray, List.set_cons_zero, List.set_cons_succ]
                  refine wpAnyX_take (i := 10) (oi := _) (v := ?_) rfl (by kernel_rfl) (by kernel_rfl) (by kernel_rfl) (by kernel_rfl) (fun _ _ _ h => h) (Or.inl ⟨by rfl, ?_⟩) (by assumption) ?_
                  rotate_left
                  · intro w hSw; go_simp; with_reducible rfl
                  simp only [Act.put, List.getElem_toArray, List.getElem_cons_zero, List.getElem_cons_succ, List.setIfInBounds_toArray, List.set_cons_zero, List.set_cons_succ]
                  refine wpAnyX_take (i := 11) (oi := _) (v := ?_) rfl (by kernel_rfl) (by kernel_rfl) (by kernel_rfl) (by kernel_rfl) (fun _ _ _ h => h) (Or.inl ⟨by rfl, ?_⟩) (by assumption) ?_
                  rotate_left
                  · intro w hSw; go_simp; with_reducible rfl
                  simp only [Act.put, List.getElem_toArray, List.getElem_cons_zero, List.getElem_cons_succ, List.setIfInBounds_toArray, List.set_cons_zero, List.set_cons_succ]
                  refine wpAnyX_ready (rs := [14]) (by kernel_rfl) (by simp) ?_
                  refine AllReadyX.cons rfl (fun K hK => ?_) AllReadyX.nil
                  go_simp
                  refine (among_led (xs := [0, 0, 0, 1, 2]) (cc := 5) h4 5 rfl HB.out HBS.out hn (by omega) (fun w' hl => sees_ints [0, 0, 0, 1, 2] (hl.get 0 rfl)) (by decide) (by decide)).mono ?_
                  rintro e w6 ⟨rk, hrk, rfl, h6⟩
                  have hrk2 : 0 ≤ rk ∧ rk ≤ 2 := by simp at hrk; omega
                  clear hrk
                  go_wp2_with fail
                  refine hK.out _ _ (h6.cell 2 1 rfl rfl) (fun hHeld => ?_)
                  clear hK K
                  try simp only [Act.put, List.getElem_toArray, List.getElem_cons_zero, List.getElem_cons_succ, List.setIfInBounds_toArray, List.set_cons_zero, List.set_cons_succ]
                  refine wpAnyX_take (i := 15) (oi := _) (v := ?_) rfl (by kernel_rfl) (by kernel_rfl) (by kernel_rfl) (by kernel_rfl) (fun _ _ _ h => h) (Or.inl ⟨by rfl, ?_⟩) (by assumption) ?_
                  rotate_left
                  · intro w hSw; go_simp; with_reducible rfl
                  simp only [Act.put, List.getElem_toArray, List.getElem_cons_zero, List.getElem_cons_succ, List.setIfInBounds_toArray, List.set_cons_zero, List.set_cons_succ]
                  refine wpAnyX_ready (rs := [16]) (by kernel_rfl) (by simp) ?_
                  refine AllReadyX.cons rfl (fun K hK => ?_) AllReadyX.nil
                  go_simp
                  refine (l2Put_any (f := ⟨la, mo, 100 * (1 + p), rk⟩) _ (h6.sees 1 rfl rfl) hmc (by omega) ⟨by show 0 ≤ la ∧ la ≤ 1048576; omega, by show 0 ≤ mo ∧ mo ≤ 1048576; omega, by show 0 ≤ 100 * (1 + p) ∧ 100 * (1 + p) ≤ 1048576; omega, by show 0 ≤ rk ∧ rk ≤ 1048576; omega⟩ HSM.out).mono ?_
                  rintro e w7 ⟨A7, c7, gs, rfl, hgl, hgs, ho7, hb7⟩
                  have h7 := h6.owns_ (b0 := w0.heap.size) hb7 ho7 (Nat.le_refl _) h6.bl.size
                  go_wp2_with fail
                  refine hK.out _ _ (h7.cell 3 1 rfl rfl) (fun hHeld => ?_)
                  clear hK K
                  try simp only [Act.put, List.getElem_toArray, List.getElem_cons_zero, List.getElem_cons_succ, List.setIfInBounds_toArray, List.set_cons_zero, List.set_cons_succ]
                  refine wpAnyX_take (i := 17) (oi := _) (v := ?_) rfl (by kernel_rfl) (by kernel_rfl) (by kernel_rfl) (by kernel_rfl) (fun _ _ _ h => h) (Or.inl ⟨by rfl, ?_⟩) (by assumption) ?_
                  rotate_left
                  · intro w hSw; go_simp; with_reducible rfl
                  simp only [Act.put, List.getElem_toArray, List.getElem_cons_zero, List.getElem_cons_succ, List.setIfInBounds_toArray, List.set_cons_zero, List.set_cons_succ]
                  have q1 := h7.cell 3 1 rfl rfl
                  have z1 := h7.frozen 3 1 rfl
                  have h8 := hid (Led.del1 (Led.del1 (h7.set 3 rfl 1 (.slice A7 (fs.length + 1) c7))))
                  refine wpAnyX_ready (rs := [18]) (by kernel_rfl) (by simp) ?_
                  refine AllReadyX.last rfl (fun K hK => ?_)
                  go_simp
                  go_wp2_with fail
                  refine hK.out _ _ ?_
                  clear hK K
                  try simp only [Act.put, List.getElem_toArray, List.getElem_cons_zero, List.getElem_cons_succ, List.setIfInBounds_toArray, List.set_cons_zero, List.set_cons_succ]
                  refine wpAnyX_done (by kernel_rfl) ?_ _
                  have HGS := hid hgs
                  clear q1 z1 h7 h6 hgs ho7 hb7 hHeld
                  go_wp2
                  go_roundw
                  case rel => exact ⟨t - 1, _, _, gs, by go_num, by omega, by omega, by omega, HGS, h8⟩
                  case measure => simp [intOf]; omega
              · skip
                refine AllReadyX.cons rfl (fun K hK => ?_) AllReadyX.nil
                go_simp
                have h5 := (h0.blk_ WW.heap.size rfl 3 #[.int .i64 0, .int .i64 0, .int .i64 0, .int .i64 1, .int .i64 2]).step (Cls.drew _)
                go_wp2_with fail
                refine hK.out _ _ (h5.cell 2 1 rfl rfl) (fun hHeld => ?_)
                clear hK K
                try simp only [Act.put, List.getElem_toArray, List.getElem_cons_zero, List.getElem_cons_succ, List.setIfInBounds_toArray, List.set_cons_zero, List.set_cons_succ]
                refine wpAnyX_ready (rs := [7]) (by kernel_rfl) (by simp) ?_
                refine AllReadyX.cons rfl (fun K hK => ?_) AllReadyX.nil
                go_simp
                refine (l1Most_any ia ja _).mono ?_
                rintro e w3 ⟨mo, rfl, hmo, -, rfl⟩
                go_wp2_with fail
                refine hK.out _ _ (h5.cell 2 1 rfl rfl) (fun hHeld => ?_)
                clear hK K
                try simp only [Act.put, List.getElem_toArray, List.getElem_cons_zero, List.getElem_cons_succ, List.setIfInBounds_toArray, List.set_cons_zero, List.set_cons_succ]
                refine wpAnyX_ready (rs := [9]) (by kernel_rfl) (by simp) ?_
                refine AllReadyX.cons rfl (fun K hK => ?_) AllReadyX.nil
                go_simp
                refine (pick_led h5 5 rfl HB.out HBS.out hn (by omega) 8 (by decide) (by decide)).mono ?_
                rintro e w4 ⟨p, rfl, hp0, hp1, h4⟩
                have hp2 := hp1 (by decide)
                clear hp1
                have iw1 : IntKind.i64.wrap (1 + p) = 1 + p := IntWalk.i64_in _ (by omega)
                have iw2 : IntKind.i64.wrap (100 * (1 + p)) = 100 * (1 + p) := IntWalk.i64_in _ (by omega)
                go_wp2_with fail
                refine hK.out _ _ (h4.cell 2 1 rfl rfl) (fun hHeld => ?_)
                clear hK K
                try simp only [Act.put, List.getElem_toArray, List.getElem_cons_zero, List.getElem_cons_succ, List.setIfInBounds_toArray, List.set_cons_zero, List.set_cons_succ]
                refine wpAnyX_take (i := 10) (oi := _) (v := ?_) rfl (by kernel_rfl) (by kernel_rfl) (by kernel_rfl) (by kernel_rfl) (fun _ _ _ h => h) (Or.inl ⟨by rfl, ?_⟩) (by assumption) ?_
                rotate_left
                · intro w hSw; go_simp; with_reducible rfl
                simp only [Act.put, List.getElem_toArray, List.getElem_cons_zero, List.getElem_cons_succ, List.setIfInBounds_toArray, List.set_cons_zero, List.set_cons_succ]
                refine wpAnyX_take (i := 11) (oi := _) (v := ?_) rfl (by kernel_rfl) (by kernel_rfl) (by kernel_rfl) (by kernel_rfl) (fun _ _ _ h => h) (Or.inl ⟨by rfl, ?_⟩) (by assumption) ?_
                rotate_left
                · intro w hSw; go_simp; with_reducible rfl
                simp only [Act.put, List.getElem_toArray, List.getElem_cons_zero, List.getElem_cons_succ, List.setIfInBounds_toArray, List.set_cons_zero, List.set_cons_succ]
                refine wpAnyX_ready (rs := [14]) (by kernel_rfl) (by simp) ?_
                refine AllReadyX.cons rfl (fun K hK => ?_) AllReadyX.nil
                go_simp
                refine (among_led (xs := [0, 0, 0, 1, 2]) (cc := 5) h4 5 rfl HB.out HBS.out hn (by omega) (fun w' hl => sees_ints [0, 0, 0, 1, 2] (hl.get 0 rfl)) (by decide) (by decide)).mono ?_
                rintro e w6 ⟨rk, hrk, rfl, h6⟩
                have hrk2 : 0 ≤ rk ∧ rk ≤ 2 := by simp at hrk; omega
                clear hrk
                go_wp2_with fail
                refine hK.out _ _ (h6.cell 2 1 rfl rfl) (fun hHeld => ?_)
                clear hK K
                try simp only [Act.put, List.getElem_toArray, List.getElem_cons_zero, List.getElem_cons_succ, List.setIfInBounds_toArray, List.set_cons_zero, List.set_cons_succ]
                refine wpAnyX_take (i := 15) (oi := _) (v := ?_) rfl (by kernel_rfl) (by kernel_rfl) (by kernel_rfl) (by kernel_rfl) (fun _ _ _ h => h) (Or.inl ⟨by rfl, ?_⟩) (by assumption) ?_
                rotate_left
                · intro w hSw; go_simp; with_reducible rfl
                simp only [Act.put, List.getElem_toArray, List.getElem_cons_zero, List.getElem_cons_succ, List.setIfInBounds_toArray, List.set_cons_zero, List.set_cons_succ]
                refine wpAnyX_ready (rs := [16]) (by kernel_rfl) (by simp) ?_
                refine AllReadyX.cons rfl (fun K hK => ?_) AllReadyX.nil
                go_simp
                refine (l2Put_any (f := ⟨la, mo, 100 * (1 + p), rk⟩) _ (h6.sees 1 rfl rfl) hmc (by omega) ⟨by show 0 ≤ la ∧ la ≤ 1048576; omega, by show 0 ≤ mo ∧ mo ≤ 1048576; omega, by show 0 ≤ 100 * (1 + p) ∧ 100 * (1 + p) ≤ 1048576; omega, by show 0 ≤ rk ∧ rk ≤ 1048576; omega⟩ HSM.out).mono ?_
                rintro e w7 ⟨A7, c7, gs, rfl, hgl, hgs, ho7, hb7⟩
                have h7 := h6.owns_ (b0 := w0.heap.size) hb7 ho7 (Nat.le_refl _) h6.bl.size
                go_wp2_with fail
                refine hK.out _ _ (h7.cell 3 1 rfl rfl) (fun hHeld => ?_)
                clear hK K
                try simp only [Act.put, List.getElem_toArray, List.getElem_cons_zero, List.getElem_cons_succ, List.setIfInBounds_toArray, List.set_cons_zero, List.set_cons_succ]
                refine wpAnyX_take (i := 17) (oi := _) (v := ?_) rfl (by kernel_rfl) (by kernel_rfl) (by kernel_rfl) (by kernel_rfl) (fun _ _ _ h => h) (Or.inl ⟨by rfl, ?_⟩) (by assumption) ?_
                rotate_left
                · intro w hSw; go_simp; with_reducible rfl
                simp only [Act.put, List.getElem_toArray, List.getElem_cons_zero, List.getElem_cons_succ, List.setIfInBounds_toArray, List.set_cons_zero, List.set_cons_succ]
                have q1 := h7.cell 3 1 rfl rfl
                have z1 := h7.frozen 3 1 rfl
                have h8 := hid (Led.del1 (Led.del1 (h7.set 3 rfl 1 (.slice A7 (fs.length + 1) c7))))
                refine wpAnyX_ready (rs := [18]) (by kernel_rfl) (by simp) ?_
                refine AllReadyX.last rfl (fun K hK => ?_)
                go_simp
                go_wp2_with fail
                refine hK.out _ _ ?_
                clear hK K
                try simp only [Act.put, List.getElem_toArray, List.getElem_cons_zero, List.getElem_cons_succ, List.setIfInBounds_toArray, List.set_cons_zero, List.set_cons_succ]
                refine wpAnyX_done (by kernel_rfl) ?_ _
                have HGS := hid hgs
                clear q1 z1 h7 h6 hgs ho7 hb7 hHeld
                go_wp2
                go_roundw
                case rel => exact ⟨t - 1, _, _, gs, by go_num, by omega, by omega, by omega, HGS, h8⟩
                case measure => simp [intOf]; omega
            · skip
              refine AllReadyX.cons rfl (fun K hK => ?_) AllReadyX.nil
              go_simp
              have h5 := (h0.blk_ WW.heap.size rfl 3 #[.int .i64 0, .int .i64 0, .int .i64 0, .int .i64 1, .int .i64 2]).step (Cls.drew _)
              go_wp2_with fail
              refine hK.out _ _ (h5.cell 2 1 rfl rfl) (fun hHeld => ?_)
              clear hK K
              try simp only [Act.put, List.getElem_toArray, List.getElem_cons_zero, List.getElem_cons_succ, List.setIfInBounds_toArray, List.set_cons_zero, List.set_cons_succ]
              refine wpAnyX_ready (rs := [4]) (by kernel_rfl) (by simp) ?_
              refine AllReadyX.cons rfl (fun K hK => ?_) AllReadyX.nil
              go_simp
              refine (l1Least_any ia ja _).mono ?_
              rintro e w3 ⟨la, rfl, hla, rfl⟩
              go_wp2_with fail
              refine hK.out _ _ (h5.cell 2 1 rfl rfl) (fun hHeld => ?_)
              clear hK K
              try simp only [Act.put, List.getElem_toArray, List.getElem_cons_zero, List.getElem_cons_succ, List.setIfInBounds_toArray, List.set_cons_zero, List.set_cons_succ]
              refine wpAnyX_ready (rs := [7]) (by kernel_rfl) (by simp) ?_
              refine AllReadyX.cons rfl (fun K hK => ?_) AllReadyX.nil
              go_simp
              refine (l1Most_any ia ja _).mono ?_
              rintro e w3 ⟨mo, rfl, hmo, -, rfl⟩
              go_wp2_with fail
              refine hK.out _ _ (h5.cell 2 1 rfl rfl) (fun hHeld => ?_)
              clear hK K
              try simp only [Act.put, List.getElem_toArray, List.getElem_cons_zero, List.getElem_cons_succ, List.setIfInBounds_toArray, List.set_cons_zero, List.set_cons_succ]
              refine wpAnyX_ready (rs := [9]) (by kernel_rfl) (by simp) ?_
              refine AllReadyX.cons rfl (fun K hK => ?_) AllReadyX.nil
              go_simp
              refine (pick_led h5 5 rfl HB.out HBS.out hn (by omega) 8 (by decide) (by decide)).mono ?_
              rintro e w4 ⟨p, rfl, hp0, hp1, h4⟩
              have hp2 := hp1 (by decide)
              clear hp1
              have iw1 : IntKind.i64.wrap (1 + p) = 1 + p := IntWalk.i64_in _ (by omega)
              have iw2 : IntKind.i64.wrap (100 * (1 + p)) = 100 * (1 + p) := IntWalk.i64_in _ (by omega)
              go_wp2_with fail
              refine hK.out _ _ (h4.cell 2 1 rfl rfl) (fun hHeld => ?_)
              clear hK K
              try simp only [Act.put, List.getElem_toArray, List.getElem_cons_zero, List.getElem_cons_succ, List.setIfInBounds_toArray, List.set_cons_zero, List.set_cons_succ]
              refine wpAnyX_take (i := 10) (oi := _) (v := ?_) rfl (by kernel_rfl) (by kernel_rfl) (by kernel_rfl) (by kernel_rfl) (fun _ _ _ h => h) (Or.inl ⟨by rfl, ?_⟩) (by assumption) ?_
              rotate_left
              · intro w hSw; go_simp; with_reducible rfl
              simp only [Act.put, List.getElem_toArray, List.getElem_cons_zero, List.getElem_cons_succ, List.setIfInBounds_toArray, List.set_cons_zero, List.set_cons_succ]
              refine wpAnyX_take (i := 11) (oi := _) (v := ?_) rfl (by kernel_rfl) (by kernel_rfl) (by kernel_rfl) (by kernel_rfl) (fun _ _ _ h => h) (Or.inl ⟨by rfl, ?_⟩) (by assumption) ?_
              rotate_left
              · intro w hSw; go_simp; with_reducible rfl
              simp only [Act.put, List.getElem_toArray, List.getElem_cons_zero, List.getElem_cons_succ, List.setIfInBounds_toArray, List.set_cons_zero, List.set_cons_succ]
              refine wpAnyX_ready (rs := [14]) (by kernel_rfl) (by simp) ?_
              refine AllReadyX.cons rfl (fun K hK => ?_) AllReadyX.nil
              go_simp
              refine (among_led (xs := [0, 0, 0, 1, 2]) (cc := 5) h4 5 rfl HB.out HBS.out hn (by omega) (fun w' hl => sees_ints [0, 0, 0, 1, 2] (hl.get 0 rfl)) (by decide) (by decide)).mono ?_
              rintro e w6 ⟨rk, hrk, rfl, h6⟩
              have hrk2 : 0 ≤ rk ∧ rk ≤ 2 := by simp at hrk; omega
              clear hrk
              go_wp2_with fail
              refine hK.out _ _ (h6.cell 2 1 rfl rfl) (fun hHeld => ?_)
              clear hK K
              try simp only [Act.put, List.getElem_toArray, List.getElem_cons_zero, List.getElem_cons_succ, List.setIfInBounds_toArray, List.set_cons_zero, List.set_cons_succ]
              refine wpAnyX_take (i := 15) (oi := _) (v := ?_) rfl (by kernel_rfl) (by kernel_rfl) (by kernel_rfl) (by kernel_rfl) (fun _ _ _ h => h) (Or.inl ⟨by rfl, ?_⟩) (by assumption) ?_
              rotate_left
              · intro w hSw; go_simp; with_reducible rfl
              simp only [Act.put, List.getElem_toArray, List.getElem_cons_zero, List.getElem_cons_succ, List.setIfInBounds_toArray, List.set_cons_zero, List.set_cons_succ]
              refine wpAnyX_ready (rs := [16]) (by kernel_rfl) (by simp) ?_
              refine AllReadyX.cons rfl (fun K hK => ?_) AllReadyX.nil
              go_simp
              refine (l2Put_any (f := ⟨la, mo, 100 * (1 + p), rk⟩) _ (h6.sees 1 rfl rfl) hmc (by omega) ⟨by show 0 ≤ la ∧ la ≤ 1048576; omega, by show 0 ≤ mo ∧ mo ≤ 1048576; omega, by show 0 ≤ 100 * (1 + p) ∧ 100 * (1 + p) ≤ 1048576; omega, by show 0 ≤ rk ∧ rk ≤ 1048576; omega⟩ HSM.out).mono ?_
              rintro e w7 ⟨A7, c7, gs, rfl, hgl, hgs, ho7, hb7⟩
              have h7 := h6.owns_ (b0 := w0.heap.size) hb7 ho7 (Nat.le_refl _) h6.bl.size
              go_wp2_with fail
              refine hK.out _ _ (h7.cell 3 1 rfl rfl) (fun hHeld => ?_)
              clear hK K
              try simp only [Act.put, List.getElem_toArray, List.getElem_cons_zero, List.getElem_cons_succ, List.setIfInBounds_toArray, List.set_cons_zero, List.set_cons_succ]
              refine wpAnyX_take (i := 17) (oi := _) (v := ?_) rfl (by kernel_rfl) (by kernel_rfl) (by kernel_rfl) (by kernel_rfl) (fun _ _ _ h => h) (Or.inl ⟨by rfl, ?_⟩) (by assumption) ?_
              rotate_left
              · intro w hSw; go_simp; with_reducible rfl
              simp only [Act.put, List.getElem_toArray, List.getElem_cons_zero, List.getElem_cons_succ, List.setIfInBounds_toArray, List.set_cons_zero, List.set_cons_succ]
              have q1 := h7.cell 3 1 rfl rfl
              have z1 := h7.frozen 3 1 rfl
              have h8 := hid (Led.del1 (Led.del1 (h7.set 3 rfl 1 (.slice A7 (fs.length + 1) c7))))
              refine wpAnyX_ready (rs := [18]) (by kernel_rfl) (by simp) ?_
              refine AllReadyX.last rfl (fun K hK => ?_)
              go_simp
              go_wp2_with fail
              refine hK.out _ _ ?_
              clear hK K
              try simp only [Act.put, List.getElem_toArray, List.getElem_cons_zero, List.getElem_cons_succ, List.setIfInBounds_toArray, List.set_cons_zero, List.set_cons_succ]
              refine wpAnyX_done (by kernel_rfl) ?_ _
              have HGS := hid hgs
              clear q1 z1 h7 h6 hgs ho7 hb7 hHeld
              go_wp2
              go_roundw
              case rel => exact ⟨t - 1, _, _, gs, by go_num, by omega, by omega, by omega, HGS, h8⟩
              case measure => simp [intOf]; omega
        · have q0 := HS.out.cell 1 0 rfl rfl
          have q1 := HS.out.cell 1 1 rfl rfl
          have y0 := HS.out.cell 3 0 rfl rfl
          have y1 := HS.out.cell 3 1 rfl rfl
          have z0 := HS.out.frozen 3 0 rfl
          have z1 := HS.out.frozen 3 1 rfl
          have HE := hid (((Led.del1 (Led.del3 ((HS.out.set 3 rfl 0 (.slice (some ⟨w1.heap.size, 0, none⟩) k 6)).set 3 rfl 1 (.slice AF fs.length cF))))).curUp (K' := K + 1000) 2 rfl (by omega))
          have hfl9 : fs.length ≤ 9 := by omega
          clear HS hK' iw
          go_wp2_with fail
          exact bodyPost_ret (v := .agg #[.slice (some ⟨w1.heap.size, 0, none⟩) k 6, .slice AF fs.length cF]) (by simp [results, Try.results117, go_sem, y0, y1]) rfl
            (drewN.mk hk2 hfl9 (by rw [List.length_take]; show min k 6 = k; omega) rfl nm_short HE.out)
end
end Go.Proofs.Ytfepilpllfiegaa
