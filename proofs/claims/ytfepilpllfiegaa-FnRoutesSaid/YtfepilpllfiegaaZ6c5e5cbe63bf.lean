/- Lemmas and walks that the claim rests on, laid together. Conditions: none. -/
import Derived.Test.YtfepilpllfiegaaZ5f3a9e2c6d48
import Derived.Test.YtfepilpllfiegaaZ55d8a778231f
import Derived.Test.YtfepilpllfiegaaZca6a11a8a0df
import Derived.Test.YtfepilpllfiegaaZ76d53a57e3da
/- What the law of joining draws: a network and two routes. Conditions: at most 1048576 bytes to draw from. By drawj.py. -/
namespace Go.Proofs.Ytfepilpllfiegaa
open Go.RowKit
theorem Led.del4 {w0 w : World} {a b c d x : Thing} {R : List Thing} (h : Led w0 w (a :: b :: c :: d :: x :: R)) : Led w0 w (a :: b :: c :: d :: R) := Led.del [a, b, c, d] h
theorem Sees.back0 {α : Type} {E : El α} {w : World} {B b n k : Nat} {l : List α} (h : Sees E w B (some ⟨b, 0, none⟩) n l) (hz : E.sz = 1) (hk : k ≤ n) : Sees E w B (some ⟨b, k, none⟩) (n - k) (l.drop k) := by
  have hh := h.backG hz hk
  rwa [Nat.zero_add] at hh
theorem Led.mid2 {w0 w : World} {a b c : Thing} {R : List Thing} (h : Led w0 w (a :: b :: c :: R)) : Led w0 w (b :: a :: R) := Led.del [b, a] (h.swap)
theorem Led.front3 {w0 w : World} {a b x y z : Thing} {R : List Thing} (h : Led w0 w (a :: b :: x :: y :: z :: R)) : Led w0 w (x :: y :: z :: a :: b :: R) := by
  refine h.reix (fun i => if i < 3 then i + 2 else if i < 5 then i - 3 else i) (fun i j hij => ?_) (fun i t hi => ?_)
  · show (if i < 3 then i + 2 else if i < 5 then i - 3 else i) ≠ (if j < 3 then j + 2 else if j < 5 then j - 3 else j)
    split <;> split <;> (try split) <;> (try split) <;> omega
  · match i, hi with
    | 0, hi => exact hi
    | 1, hi => exact hi
    | 2, hi => exact hi
    | 3, hi => exact hi
    | 4, hi => exact hi
    | i + 5, hi =>
      show (a :: b :: x :: y :: z :: R)[if i + 5 < 3 then i + 5 + 2 else if i + 5 < 5 then i + 5 - 3 else i + 5]? = some t
      rw [if_neg (by omega), if_neg (by omega)]
      exact hi
theorem Led.flip03 {w0 w : World} {a b c d : Thing} {R : List Thing} (h : Led w0 w (a :: b :: c :: d :: R)) : Led w0 w (d :: b :: c :: a :: R) := by
  refine h.reix (fun i => if i = 0 then 3 else if i = 3 then 0 else i) (fun i j hij => ?_) (fun i t hi => ?_)
  · show (if i = 0 then 3 else if i = 3 then 0 else i) ≠ (if j = 0 then 3 else if j = 3 then 0 else j)
    split <;> split <;> (try split) <;> (try split) <;> omega
  · match i, hi with
    | 0, hi => exact hi
    | 1, hi => exact hi
    | 2, hi => exact hi
    | 3, hi => exact hi
    | i + 4, hi =>
      show (a :: b :: c :: d :: R)[if i + 4 = 0 then 3 else if i + 4 = 3 then 0 else i + 4]? = some t
      rw [if_neg (by omega), if_neg (by omega)]
      exact hi
section
variable {w0 w : World} {R : List Thing} {A : Option Addr} {n c g K : Nat} {bs : List Int} {B E : Option Addr} {p cb m d b1 b2 : Nat} {xs : List ByteArray} {fs : List Fib}
set_option maxHeartbeats 4000000 in
set_option maxRecDepth 100000 in
theorem anyRoute_led (h : Led w0 w (tCur A n c g K :: tOwns elFib b1 62 (.slice E m d) fs :: tOwns elStr b2 9 (.slice B p cb) xs :: R)) (hb : Sees elU w0 w0.heap.size A n bs) (hbs : ∀ x ∈ bs, 0 ≤ x ∧ x ≤ 255) (hn : n ≤ 1048576) (hK : K + 4000 ≤ 1099511627776)
    (hx : xs.length = p) (hf : fs.length = m) (hp : 2 ≤ p ∧ p ≤ 10) (hm : m ≤ 15) (hs : ∀ x ∈ xs, x.size ≤ 9) :
    Calls Try.prog 94 #[.pointer (some ⟨g, 0, none⟩), .agg #[.slice B p cb, .slice E m d]] w (routeP w0 6 (tCur A n c g (K + 2000) :: tOwns elFib b1 62 (.slice E m d) fs :: tOwns elStr b2 9 (.slice B p cb) xs :: R)) := by
  have H0 := hid (Led.front3 ((h.blk_ w.heap.size rfl 27 #[.slice B p cb, .slice E m d]).blk_ (w.heap.size + 1) (by simp) 35 #[.int .i64 0, .slice none 0 0]))
  have HB := hid hb
  have HBS := hid hbs
  obtain ⟨i0, hi, hz0, hz1, hz2⟩ := info_parts int_info
  have q0 := H0.out.cell 4 0 rfl rfl
  have q1 := H0.out.cell 4 1 rfl rfl
  clear h hb hbs
  go_enter Try.func94, Try.ntmps94
  go_wp2_with fail
  refine (route_led H0.out HB.out HBS.out hn (by omega) hx hf hp hm hs).mono ?_
  rintro e w1 ⟨sv, V, cV, ids, rfl, hl, h1⟩
  have H1 := hid (h1.blk_ w1.heap.size rfl 35 #[.int .i64 sv, .slice V ids.length cV])
  clear h1 H0 q0 q1
  -- ledger: [rr, ids, cur, fib, str, rbox, nbox | R]
  go_wp2_with fail
  refine (pick_led H1.out 2 rfl HB.out HBS.out hn (by omega) 16 (by decide) (by decide)).mono ?_
  rintro e w2 ⟨x, rfl, hx0, hx1, h2⟩
  have H2 := hid h2
  obtain ⟨gr, hgr⟩ : ∃ gr, gr = w1.heap.size := ⟨_, rfl⟩
  rw [← hgr] at H2 ⊢
  clear h2 H1 hx1 hx0 hgr
  by_cases c0 : x = 0
  · subst c0
    go_wp2_with fail
    refine (pick_led H2.out 2 rfl HB.out HBS.out hn (by omega) 8 (by decide) (by decide)).mono ?_
    rintro e w3 ⟨pv, rfl, hp0, hp1, h3⟩
    have hp2 := hp1 (by decide)
    have iw : IntKind.i64.wrap (pv - 1) = pv - 1 := IntWalk.i64_in _ (by omega)
    have H3 := hid h3
    clear hp1 h3 H2
    have c0 := H3.out.cell 0 0 rfl rfl
    have z0 := H3.out.frozen 0 0 rfl
    have HT := hid (H3.out.set 0 rfl 0 (.int .i64 (pv - 1)))
    have r0 := HT.out.cell 0 0 rfl rfl
    have r1 := HT.out.cell 0 1 rfl rfl
    have y0 := HT.out.cell 5 0 rfl rfl
    have y1 := HT.out.cell 5 1 rfl rfl
    have t0 := HT.out.frozen 5 0 rfl
    have t1 := HT.out.frozen 5 1 rfl
    have HE := hid ((Led.del4 (Led.del4 (((HT.out.set 5 rfl 0 (.int .i64 (pv - 1))).set 5 rfl 1 (.slice V ids.length cV)).drop 1))).curUp (K' := K + 2000) 1 rfl (by omega))
    have hlb := (show ids.length ≤ 6 by omega)
    clear HT
    go_wp2_with fail
    exact bodyPost_ret (v := .agg #[.int .i64 (pv - 1), .slice V ids.length cV]) (by simp [results, Try.results94, go_sem, y0, y1]) rfl (routeP.mk hlb HE.out)
  · have n0 : (x == 0) = false := by simp; exact c0
    by_cases c1 : x = 1
    · subst c1
      go_wp2_with fail
      refine wp_region_heldX 8 (fun w' => w'.cell? ⟨gr, 1, none⟩ = some (.slice V ids.length cV)) (by kernel_rfl) (H2.out.cell 0 1 rfl rfl) (fun hHeld => ?_)
      refine wpAnyX_take (i := 0) (oi := _) (v := ?_) rfl (by kernel_rfl) (by kernel_rfl) (by kernel_rfl) (by kernel_rfl) (fun _ _ _ h => h) (Or.inl ⟨by rfl, ?_⟩) (by assumption) ?_
      rotate_left
      · intro w hSw; go_simp; with_reducible rfl
      simp only [Act.put, List.getElem_toArray, List.getElem_cons_zero, List.setIfInBounds_toArray, List.set_cons_zero, List.set_cons_succ]
      refine wpAnyX_take (i := 1) (oi := _) (v := ?_) rfl (by kernel_rfl) (by kernel_rfl) (by kernel_rfl) (by kernel_rfl) (fun _ _ _ h => h) (Or.inl ⟨by rfl, ?_⟩) (by assumption) ?_
      rotate_left
      · intro w hSw; go_simp; with_reducible rfl
      simp only [Act.put, List.getElem_toArray, List.getElem_cons_zero, List.getElem_cons_succ, List.setIfInBounds_toArray, List.set_cons_zero, List.set_cons_succ]
      refine wpAnyX_take (i := 2) (oi := _) (v := ?_) rfl (by kernel_rfl) (by kernel_rfl) (by kernel_rfl) (by kernel_rfl) (fun _ _ _ h => h) (Or.inl ⟨by rfl, ?_⟩) (by assumption) ?_
      rotate_left
      · intro w hSw; go_simp; with_reducible rfl
      simp only [Act.put, List.getElem_toArray, List.getElem_cons_zero, List.getElem_cons_succ, List.setIfInBounds_toArray, List.set_cons_zero, List.set_cons_succ]
      refine wpAnyX_ready (rs := [3]) (by kernel_rfl) (by simp) ?_
      refine AllReadyX.cons rfl (fun K hK => ?_) AllReadyX.nil
      have hd := H2.out.step (Cls.drew _)
      go_simp
      refine (pick_led hd 2 rfl HB.out HBS.out hn (by omega) 8 (by decide) (by decide)).mono ?_
      rintro e w3 ⟨pv, rfl, hp0, hp1, h3⟩
      have hp2 := hp1 (by decide)
      have iw : IntKind.i64.wrap (pv - 1) = pv - 1 := IntWalk.i64_in _ (by omega)
      clear hp1
      go_wp2_with fail
      refine hK.out _ _ (h3.cell 0 1 rfl rfl) (fun hHeld => ?_)
      clear hK K
      try simp only [Act.put, List.getElem_toArray, List.getElem_cons_zero, List.getElem_cons_succ, List.setIfInBounds_toArray, List.set_cons_zero, List.set_cons_succ]
      refine wpAnyX_take (i := 4) (oi := _) (v := ?_) rfl (by kernel_rfl) (by kernel_rfl) (by kernel_rfl) (by kernel_rfl) (fun _ _ _ h => h) (Or.inl ⟨by rfl, ?_⟩) (by assumption) ?_
      rotate_left
      · intro w hSw; go_simp; with_reducible rfl
      simp only [Act.put, List.getElem_toArray, List.getElem_cons_zero, List.getElem_cons_succ, List.setIfInBounds_toArray, List.set_cons_zero, List.set_cons_succ]
      refine wpAnyX_ready (rs := [5]) (by kernel_rfl) (by simp) ?_
      refine AllReadyX.cons rfl (fun K hK => ?_) AllReadyX.nil
      have h4 := h3.blk_ w3.heap.size rfl 3 #[.int .i64 (pv - 1)]
      go_simp
      go_wp2_with fail
      refine hK.out _ _ (h4.cell 1 1 rfl rfl) (fun hHeld => ?_)
      clear hK K
      try simp only [Act.put, List.getElem_toArray, List.getElem_cons_zero, List.getElem_cons_succ, List.setIfInBounds_toArray, List.set_cons_zero, List.set_cons_succ]
      refine wpAnyX_ready (rs := [6]) (by kernel_rfl) (by simp) ?_
      refine AllReadyX.cons rfl (fun K hK => ?_) AllReadyX.nil
      refine step_append_led rfl _ _ 33 rfl h4 2 rfl Try.underlying33 hi hz0 hz1 (by rw [hz2]; decide) rfl rfl rfl (show Sees elInt _ _ _ 1 [pv - 1] from sees_new elInt _ _ _ _ rfl) (by omega) h4.bl.size ?_
      intro A5 c5 w5 h5
      obtain ⟨ids2, hids2⟩ : ∃ ids2, ids2 = ids ++ [pv - 1] := ⟨_, rfl⟩
      have hl2 : ids2.length = ids.length + 1 := by rw [hids2]; simp
      rw [← hids2, ← hl2] at h5
      rw [← hl2]
      have HL2 := hid hl2
      clear hl2 hids2
      refine hK.out _ _ (h5.cell 1 1 rfl rfl) (fun hHeld => ?_)
      clear hK K
      try simp only [Act.put, List.getElem_toArray, List.getElem_cons_zero, List.getElem_cons_succ, List.setIfInBounds_toArray, List.set_cons_zero, List.set_cons_succ]
      refine wpAnyX_take (i := 7) (oi := _) (v := ?_) rfl (by kernel_rfl) (by kernel_rfl) (by kernel_rfl) (by kernel_rfl) (fun _ _ _ h => h) (Or.inl ⟨by rfl, ?_⟩) (by assumption) ?_
      rotate_left
      · intro w hSw; go_simp; with_reducible rfl
      simp only [Act.put, List.getElem_toArray, List.getElem_cons_zero, List.getElem_cons_succ, List.setIfInBounds_toArray, List.set_cons_zero, List.set_cons_succ]
      have c1 := h5.cell 1 1 rfl rfl
      have z1 := h5.frozen 1 1 rfl
      have h6 := hid ((h5.set 1 rfl 1 (.slice A5 ids2.length c5)).drop 1)
      refine wpAnyX_ready (rs := [8]) (by kernel_rfl) (by simp) ?_
      refine AllReadyX.last rfl (fun K hK => ?_)
      go_simp
      go_wp2_with fail
      refine hK.out _ _ ?_
      clear hK K
      try simp only [Act.put, List.getElem_toArray, List.getElem_cons_zero, List.getElem_cons_succ, List.setIfInBounds_toArray, List.set_cons_zero, List.set_cons_succ]
      refine wpAnyX_done (by kernel_rfl) ?_ _
      clear c1 z1 h5 h4 h3 hd hHeld H2
      generalize w5.setCell ⟨gr, 1, none⟩ (.slice A5 ids2.length c5) = WZ at *
      have HT := hid (h6.out)
      have r0 := HT.out.cell 0 0 rfl rfl
      have r1 := HT.out.cell 0 1 rfl rfl
      have y0 := HT.out.cell 5 0 rfl rfl
      have y1 := HT.out.cell 5 1 rfl rfl
      have t0 := HT.out.frozen 5 0 rfl
      have t1 := HT.out.frozen 5 1 rfl
      have HE := hid ((Led.del4 (Led.del4 (((HT.out.set 5 rfl 0 (.int .i64 (sv))).set 5 rfl 1 (.slice A5 ids2.length c5)).drop 1))).curUp (K' := K + 2000) 1 rfl (by omega))
      have hlb := (show ids2.length ≤ 6 by have := HL2.out; omega)
      clear HT
      go_wp2_with fail
      exact bodyPost_ret (v := .agg #[.int .i64 (sv), .slice A5 ids2.length c5]) (by simp [results, Try.results94, go_sem, y0, y1]) rfl (routeP.mk hlb HE.out)
    · have n1 : (x == 1) = false := by simp; exact c1
      by_cases c2 : x = 2
      · subst c2
        have h3 := ((H2.out.drop 2).empty elInt 3 w2.heap.size rfl w0.heap.size H2.out.bl.size)
        have hx3 := (H2.out.empty elInt 3 w2.heap.size rfl w0.heap.size H2.out.bl.size)
        have H3 : Hid (Led w0 (w2.alloc (.cells #[] 3)) (tBlk gr 35 #[.int .i64 sv, .slice V ids.length cV] :: tOwns elInt w0.heap.size 3 (.slice (some ⟨w2.heap.size, 0, none⟩) 0 0) [] :: tCur A n c g (K + 1000 + 2) :: tOwns elFib b1 62 (.slice E m d) fs :: tOwns elStr b2 9 (.slice B p cb) xs :: tBlk (w.heap.size + 1) 35 #[.int .i64 0, .slice none 0 0] :: tBlk w.heap.size 27 #[.slice B p cb, .slice E m d] :: R)) := Led.mid2 hx3
        clear h3 hx3 H2
        have c1 := H3.out.cell 0 1 rfl rfl
        have z1 := H3.out.frozen 0 1 rfl
        have HT := hid (H3.out.set 0 rfl 1 (.slice (some ⟨w2.heap.size, 0, none⟩) 0 0))
        have r0 := HT.out.cell 0 0 rfl rfl
        have r1 := HT.out.cell 0 1 rfl rfl
        have y0 := HT.out.cell 5 0 rfl rfl
        have y1 := HT.out.cell 5 1 rfl rfl
        have t0 := HT.out.frozen 5 0 rfl
        have t1 := HT.out.frozen 5 1 rfl
        have HE := hid ((Led.del4 (Led.del4 (((HT.out.set 5 rfl 0 (.int .i64 (sv))).set 5 rfl 1 (.slice (some ⟨w2.heap.size, 0, none⟩) 0 0)).drop 1))).curUp (K' := K + 2000) 1 rfl (by omega))
        have hlb := (show ([] : List Int).length ≤ 6 by decide)
        clear HT
        go_wp2_with fail
        exact bodyPost_ret (v := .agg #[.int .i64 (sv), .slice (some ⟨w2.heap.size, 0, none⟩) 0 0]) (by simp [results, Try.results94, go_sem, y0, y1]) rfl (routeP.mk hlb HE.out)
      · have n2 : (x == 2) = false := by simp; exact c2
        by_cases c3 : x = 3
        · subst c3
          by_cases hgt : (ids.length : Int) > 1
          · skip
            obtain ⟨gV, cW, hv⟩ := H2.out.row_ 1 rfl rfl (by omega)
            injection hv with hv1 _ hv3
            subst hv1; subst hv3
            obtain ⟨k1, hk1⟩ : ∃ k1, k1 + 1 = ids.length := ⟨ids.length - 1, by omega⟩
            have iw : IntKind.i64.wrap ((ids.length : Int) - 1) = (k1 : Int) := by rw [IntWalk.i64_in _ (by omega)]; omega
            have i1 : (k1 : Int) < (ids.length : Int) := by omega
            have i2 : k1 < ids.length := by omega
            have i3 : (0 : Int) ≤ (k1 : Int) := by omega
            obtain ⟨lv, hlv⟩ : ∃ lv, ids[k1]? = some lv := ⟨ids[k1]'i2, List.getElem?_eq_getElem _⟩
            have xc := (H2.out.sees (E := elInt) 1 rfl rfl).cell hlv (j := 0) rfl
            simp only [elInt, Nat.zero_add, Nat.mul_one, Nat.add_zero] at xc
            have r1 := H2.out.cell 0 1 rfl rfl
            clear hk1 hlv
            go_wp2_with fail
            refine wp_region_heldX 13 (fun w' => w'.cell? ⟨gr, 1, none⟩ = some (.slice (some ⟨gV, 0, none⟩) ids.length cV)) (by kernel_rfl) (H2.out.cell 0 1 rfl rfl) (fun hHeld => ?_)
            refine wpAnyX_take (i := 0) (oi := _) (v := ?_) rfl (by kernel_rfl) (by kernel_rfl) (by kernel_rfl) (by kernel_rfl) (fun _ _ _ h => h) (Or.inl ⟨by rfl, ?_⟩) (by assumption) ?_
            rotate_left
            · intro w hSw; go_simp; with_reducible rfl
            simp only [Act.put, List.getElem_toArray, List.getElem_cons_zero, List.setIfInBounds_toArray, List.set_cons_zero, List.set_cons_succ]
            refine wpAnyX_take (i := 1) (oi := _) (v := ?_) rfl (by kernel_rfl) (by kernel_rfl) (by kernel_rfl) (by kernel_rfl) (fun _ _ _ h => h) (Or.inl ⟨by rfl, ?_⟩) (by assumption) ?_
            rotate_left
            · intro w hSw; go_simp; with_reducible rfl
            simp only [Act.put, List.getElem_toArray, List.getElem_cons_zero, List.getElem_cons_succ, List.setIfInBounds_toArray, List.set_cons_zero, List.set_cons_succ]
            refine wpAnyX_take (i := 2) (oi := _) (v := ?_) rfl (by kernel_rfl) (by kernel_rfl) (by kernel_rfl) (by kernel_rfl) (fun _ _ _ h => h) (Or.inl ⟨by rfl, ?_⟩) (by assumption) ?_
            rotate_left
            · intro w hSw; go_simp; with_reducible rfl
            simp only [Act.put, List.getElem_toArray, List.getElem_cons_zero, List.getElem_cons_succ, List.setIfInBounds_toArray, List.set_cons_zero, List.set_cons_succ]
            refine wpAnyX_take (i := 3) (oi := _) (v := ?_) rfl (by kernel_rfl) (by kernel_rfl) (by kernel_rfl) (by kernel_rfl) (fun _ _ _ h => h) (Or.inl ⟨by rfl, ?_⟩) (by assumption) ?_
            rotate_left
            · intro w hSw; go_simp; with_reducible rfl
            simp only [Act.put, List.getElem_toArray, List.getElem_cons_zero, List.getElem_cons_succ, List.setIfInBounds_toArray, List.set_cons_zero, List.set_cons_succ]
            refine wpAnyX_take (i := 4) (oi := _) (v := ?_) rfl (by kernel_rfl) (by kernel_rfl) (by kernel_rfl) (by kernel_rfl) (fun _ _ _ h => h) (Or.inl ⟨by rfl, ?_⟩) (by assumption) ?_
            rotate_left
            · intro w hSw; go_simp; with_reducible rfl
            simp only [Act.put, List.getElem_toArray, List.getElem_cons_zero, List.getElem_cons_succ, List.setIfInBounds_toArray, List.set_cons_zero, List.set_cons_succ]
            refine wpAnyX_take (i := 5) (oi := _) (v := ?_) rfl (by kernel_rfl) (by kernel_rfl) (by kernel_rfl) (by kernel_rfl) (fun _ _ _ h => h) (Or.inl ⟨by rfl, ?_⟩) (by assumption) ?_
            rotate_left
            · intro w hSw; go_simp; with_reducible rfl
            simp only [Act.put, List.getElem_toArray, List.getElem_cons_zero, List.getElem_cons_succ, List.setIfInBounds_toArray, List.set_cons_zero, List.set_cons_succ]
            refine wpAnyX_take (i := 6) (oi := _) (v := ?_) rfl (by kernel_rfl) (by kernel_rfl) (by kernel_rfl) (by kernel_rfl) (fun _ _ _ h => h) (Or.inl ⟨by rfl, ?_⟩) (by assumption) ?_
            rotate_left
            · intro w hSw; go_simp; with_reducible rfl
            simp only [Act.put, List.getElem_toArray, List.getElem_cons_zero, List.getElem_cons_succ, List.setIfInBounds_toArray, List.set_cons_zero, List.set_cons_succ]
            refine wpAnyX_take (i := 7) (oi := _) (v := ?_) rfl (by kernel_rfl) (by kernel_rfl) (by kernel_rfl) (by kernel_rfl) (fun _ _ _ h => h) (Or.inl ⟨by rfl, ?_⟩) (by assumption) ?_
            rotate_left
            · intro w hSw; go_simp; with_reducible rfl
            simp only [Act.put, List.getElem_toArray, List.getElem_cons_zero, List.getElem_cons_succ, List.setIfInBounds_toArray, List.set_cons_zero, List.set_cons_succ]
            refine wpAnyX_take (i := 8) (oi := _) (v := ?_) rfl (by kernel_rfl) (by kernel_rfl) (by kernel_rfl) (by kernel_rfl) (fun _ _ _ h => h) (Or.inl ⟨by rfl, ?_⟩) (by assumption) ?_
            rotate_left
            · intro w hSw; go_simp; with_reducible rfl
            simp only [Act.put, List.getElem_toArray, List.getElem_cons_zero, List.getElem_cons_succ, List.setIfInBounds_toArray, List.set_cons_zero, List.set_cons_succ]
            refine wpAnyX_ready (rs := [9]) (by kernel_rfl) (by simp) ?_
            refine AllReadyX.cons rfl (fun K hK => ?_) AllReadyX.nil
            go_simp
            go_wp2_with fail
            refine hK.out _ _ (H2.out.cell 0 1 rfl rfl) (fun hHeld => ?_)
            clear hK K
            try simp only [Act.put, List.getElem_toArray, List.getElem_cons_zero, List.getElem_cons_succ, List.setIfInBounds_toArray, List.set_cons_zero, List.set_cons_succ]
            refine wpAnyX_ready (rs := [10]) (by kernel_rfl) (by simp) ?_
            refine AllReadyX.cons rfl (fun K hK => ?_) AllReadyX.nil
            have h4 := (H2.out.blk_ w2.heap.size rfl 3 #[.int .i64 lv]).step (Cls.drew _)
            go_simp
            go_wp2_with fail
            refine hK.out _ _ (h4.cell 1 1 rfl rfl) (fun hHeld => ?_)
            clear hK K
            try simp only [Act.put, List.getElem_toArray, List.getElem_cons_zero, List.getElem_cons_succ, List.setIfInBounds_toArray, List.set_cons_zero, List.set_cons_succ]
            refine wpAnyX_ready (rs := [11]) (by kernel_rfl) (by simp) ?_
            refine AllReadyX.cons rfl (fun K hK => ?_) AllReadyX.nil
            refine step_append_led rfl _ _ 33 rfl h4 2 rfl Try.underlying33 hi hz0 hz1 (by rw [hz2]; decide) rfl rfl rfl (show Sees elInt _ _ _ 1 [lv] from (sees_new elInt w2 lv 3 w2.heap.size rfl).drewN 1) (by omega) h4.bl.size ?_
            intro A5 c5 w5 h5
            obtain ⟨ids2, hids2⟩ : ∃ ids2, ids2 = ids ++ [lv] := ⟨_, rfl⟩
            have hl2 : ids2.length = ids.length + 1 := by rw [hids2]; simp
            rw [← hids2, ← hl2] at h5
            rw [← hl2]
            have HL2 := hid hl2
            clear hl2 hids2
            refine hK.out _ _ (h5.cell 1 1 rfl rfl) (fun hHeld => ?_)
            clear hK K
            try simp only [Act.put, List.getElem_toArray, List.getElem_cons_zero, List.getElem_cons_succ, List.setIfInBounds_toArray, List.set_cons_zero, List.set_cons_succ]
            refine wpAnyX_take (i := 12) (oi := _) (v := ?_) rfl (by kernel_rfl) (by kernel_rfl) (by kernel_rfl) (by kernel_rfl) (fun _ _ _ h => h) (Or.inl ⟨by rfl, ?_⟩) (by assumption) ?_
            rotate_left
            · intro w hSw; go_simp; with_reducible rfl
            simp only [Act.put, List.getElem_toArray, List.getElem_cons_zero, List.getElem_cons_succ, List.setIfInBounds_toArray, List.set_cons_zero, List.set_cons_succ]
            have c1 := h5.cell 1 1 rfl rfl
            have z1 := h5.frozen 1 1 rfl
            have h6 := hid ((h5.set 1 rfl 1 (.slice A5 ids2.length c5)).drop 1)
            refine wpAnyX_ready (rs := [13]) (by kernel_rfl) (by simp) ?_
            refine AllReadyX.last rfl (fun K hK => ?_)
            go_simp
            go_wp2_with fail
            refine hK.out _ _ ?_
            clear hK K
            try simp only [Act.put, List.getElem_toArray, List.getElem_cons_zero, List.getElem_cons_succ, List.setIfInBounds_toArray, List.set_cons_zero, List.set_cons_succ]
            refine wpAnyX_done (by kernel_rfl) ?_ _
            clear c1 z1 h5 h4 hHeld H2 xc r1
            generalize w5.setCell ⟨gr, 1, none⟩ (.slice A5 ids2.length c5) = WZ at *
            have HT := hid (h6.out)
            have r0 := HT.out.cell 0 0 rfl rfl
            have r1 := HT.out.cell 0 1 rfl rfl
            have y0 := HT.out.cell 5 0 rfl rfl
            have y1 := HT.out.cell 5 1 rfl rfl
            have t0 := HT.out.frozen 5 0 rfl
            have t1 := HT.out.frozen 5 1 rfl
            have HE := hid ((Led.del4 (Led.del4 (((HT.out.set 5 rfl 0 (.int .i64 (sv))).set 5 rfl 1 (.slice A5 ids2.length c5)).drop 1))).curUp (K' := K + 2000) 1 rfl (by omega))
            have hlb := (show ids2.length ≤ 6 by have := HL2.out; omega)
            clear HT
            go_wp2_with fail
            exact bodyPost_ret (v := .agg #[.int .i64 (sv), .slice A5 ids2.length c5]) (by simp [results, Try.results94, go_sem, y0, y1]) rfl (routeP.mk hlb HE.out)
          · have r1 := H2.out.cell 0 1 rfl rfl
            have HT := hid (H2.out)
            have r0 := HT.out.cell 0 0 rfl rfl
            have r1 := HT.out.cell 0 1 rfl rfl
            have y0 := HT.out.cell 5 0 rfl rfl
            have y1 := HT.out.cell 5 1 rfl rfl
            have t0 := HT.out.frozen 5 0 rfl
            have t1 := HT.out.frozen 5 1 rfl
            have HE := hid ((Led.del4 (Led.del4 (((HT.out.set 5 rfl 0 (.int .i64 (sv))).set 5 rfl 1 (.slice V ids.length cV)).drop 1))).curUp (K' := K + 2000) 1 rfl (by omega))
            have hlb := (show ids.length ≤ 6 by omega)
            clear HT
            go_wp2_with fail
            exact bodyPost_ret (v := .agg #[.int .i64 (sv), .slice V ids.length cV]) (by simp [results, Try.results94, go_sem, y0, y1]) rfl (routeP.mk hlb HE.out)
        · have n3 : (x == 3) = false := by simp; exact c3
          have HT := hid (H2.out)
          have r0 := HT.out.cell 0 0 rfl rfl
          have r1 := HT.out.cell 0 1 rfl rfl
          have y0 := HT.out.cell 5 0 rfl rfl
          have y1 := HT.out.cell 5 1 rfl rfl
          have t0 := HT.out.frozen 5 0 rfl
          have t1 := HT.out.frozen 5 1 rfl
          have HE := hid ((Led.del4 (Led.del4 (((HT.out.set 5 rfl 0 (.int .i64 (sv))).set 5 rfl 1 (.slice V ids.length cV)).drop 1))).curUp (K' := K + 2000) 1 rfl (by omega))
          have hlb := (show ids.length ≤ 6 by omega)
          clear HT
          go_wp2_with fail
          exact bodyPost_ret (v := .agg #[.int .i64 (sv), .slice V ids.length cV]) (by simp [results, Try.results94, go_sem, y0, y1]) rfl (routeP.mk hlb HE.out)
/-- What the law of joining draws. -/
def drJP (w : World) (e : Ending) (w' : World) : Prop := ∃ (B : Option Addr) (p cb : Nat) (E : Option Addr) (m d : Nat) (xs : List ByteArray) (fs : List Fib) (s : Int) (V : Option Addr) (cV : Nat) (ids : List Int) (t : Int) (U : Option Addr) (cU : Nat) (jds : List Int),
  e = .returned (.tuple #[.agg #[.slice B p cb, .slice E m d], .agg #[.int .i64 s, .slice V ids.length cV], .agg #[.int .i64 t, .slice U jds.length cU]]) ∧ DrN w w' B p cb E m d xs fs ∧ RtIs w' V ids.length cV ids ∧ RtIs w' U jds.length cU jds ∧ ids.length ≤ 10 ∧ jds.length ≤ 10
theorem drJP.mk {w w' : World} {B E V U : Option Addr} {p cb m d cV cU : Nat} {xs : List ByteArray} {fs : List Fib} {s t : Int} {ids jds : List Int} (h : DrN w w' B p cb E m d xs fs) (h1 : RtIs w' V ids.length cV ids) (h2 : RtIs w' U jds.length cU jds) (h3 : ids.length ≤ 10) (h4 : jds.length ≤ 10) :
    drJP w (.returned (.tuple #[.agg #[.slice B p cb, .slice E m d], .agg #[.int .i64 s, .slice V ids.length cV], .agg #[.int .i64 t, .slice U jds.length cU]])) w' := ⟨_, _, _, _, _, _, _, _, _, _, _, _, _, _, _, _, rfl, h, h1, h2, h3, h4⟩
set_option maxHeartbeats 4000000 in
set_option maxRecDepth 100000 in
theorem drawJoin_rt (w : World) (hb : Sees elU w w.heap.size A n bs) (hbs : ∀ x ∈ bs, 0 ≤ x ∧ x ≤ 255) (hn : n ≤ 1048576) : Calls Try.prog 38 #[.slice A n c] w (drJP w) := by
  have H0 := hid ((((((Led.nil w).blk_ w.heap.size rfl 27 #[.slice none 0 0, .slice none 0 0]).blk_ (w.heap.size + 1) (by simp) 35 #[.int .i64 0, .slice none 0 0]).blk_ (w.heap.size + 1 + 1) (by simp) 35 #[.int .i64 0, .slice none 0 0])).cur (w.heap.size + 1 + 1 + 1) (by simp) A n c)
  have HB := hid hb
  have HBS := hid hbs
  clear hb hbs
  go_enter Try.func38, Try.ntmps38
  go_wp2_with fail
  refine (anyNetwork_led H0.out HB.out HBS.out hn (by omega)).mono ?_
  rintro e w1 ⟨B, p, cb, E, m, d, xs, fs, rfl, hp, hm, hxl, hfl, HX, h1⟩
  have HXL := hid hxl
  have HFL := hid hfl
  have HXS := hid HX
  have H1 := hid (Led.flip03 (h1.blk_ w1.heap.size rfl 27 #[.slice B p cb, .slice E m d]))
  clear h1 H0 hxl hfl HX
  -- ledger: [cur, fib, str, nbox, rB, rA, rN]
  have q0 := H1.out.cell 3 0 rfl rfl
  have q1 := H1.out.cell 3 1 rfl rfl
  go_wp2_with fail
  refine (anyRoute_led H1.out HB.out HBS.out hn (by omega) HXL.out HFL.out hp hm HXS.out).mono ?_
  rintro e w2 ⟨sv, V, cV, ids, rfl, hl6, h2⟩
  have H2 := hid (h2.blk_ w2.heap.size rfl 35 #[.int .i64 sv, .slice V ids.length cV])
  clear h2 H1 q0 q1
  -- ledger: [rr, ids, cur, fib, str, nbox, rB, rA, rN]
  have r0 := H2.out.cell 0 0 rfl rfl
  have r1 := H2.out.cell 0 1 rfl rfl
  have q0 := H2.out.cell 5 0 rfl rfl
  have q1 := H2.out.cell 5 1 rfl rfl
  by_cases hk1 : (ids.length : Int) > 1
  · have HG := hid (l4Good_any (er := cV) sv _ (H2.out.netOf 3 4 rfl rfl HXL.out HFL.out hp.2 hm HXS.out) (H2.out.rt 1 rfl (by omega)))
    obtain ⟨gd, hgd⟩ : ∃ gd, gd = routeB xs fs sv ids := ⟨_, rfl⟩
    rw [← hgd] at HG
    have HGD := hid hgd
    clear hgd
    go_wp2_with fail
    refine HG.out.mono ?_
    rintro e w3 ⟨rfl, hb⟩
    have H3 := hid (H2.out.step hb)
    clear hb H2 HG r0 r1 q0 q1
    cases gd
    · skip
      go_wp2_with fail
      refine wp_region_held_drew (S := fun w' => (w'.cell? ⟨w1.heap.size, 0, none⟩ = some (.slice B p cb) ∧ w'.cell? ⟨w1.heap.size, 1, none⟩ = some (.slice E m d)) ∧ w'.cell? ⟨w2.heap.size, 0, none⟩ = some (.int .i64 sv) ∧ w'.cell? ⟨w2.heap.size, 1, none⟩ = some (.slice V ids.length cV)) (by kernel_rfl) (⟨⟨H3.out.cell 5 0 rfl rfl, H3.out.cell 5 1 rfl rfl⟩, H3.out.cell 0 0 rfl rfl, H3.out.cell 0 1 rfl rfl⟩) (fun hHeld => ?_)
      refine wpAnyH_take (i := 0) (oi := _) (v := ?_) rfl (by kernel_rfl) (by kernel_rfl) (by kernel_rfl) (fun _ _ _ h => h) (Or.inl ⟨by rfl, ?_⟩) (by assumption) ?_
      rotate_left
      · intro w hSw; go_simp; with_reducible rfl
      simp only [Act.put, List.getElem_toArray, List.getElem_cons_zero, List.setIfInBounds_toArray, List.set_cons_zero, List.set_cons_succ]
      refine wpAnyH_take (i := 1) (oi := _) (v := ?_) rfl (by kernel_rfl) (by kernel_rfl) (by kernel_rfl) (fun _ _ _ h => h) (Or.inl ⟨by rfl, ?_⟩) (by assumption) ?_
      rotate_left
      · intro w hSw; go_simp; with_reducible rfl
      simp only [Act.put, List.getElem_toArray, List.getElem_cons_zero, List.getElem_cons_succ, List.setIfInBounds_toArray, List.set_cons_zero, List.set_cons_succ]
      refine wpAnyH_take (i := 2) (oi := _) (v := ?_) rfl (by kernel_rfl) (by kernel_rfl) (by kernel_rfl) (fun _ _ _ h => h) (Or.inl ⟨by rfl, ?_⟩) (by assumption) ?_
      rotate_left
      · intro w hSw; go_simp; with_reducible rfl
      simp only [Act.put, List.getElem_toArray, List.getElem_cons_zero, List.getElem_cons_succ, List.setIfInBounds_toArray, List.set_cons_zero, List.set_cons_succ]
      refine wpAnyH_take (i := 3) (oi := _) (v := ?_) rfl (by kernel_rfl) (by kernel_rfl) (by kernel_rfl) (fun _ _ _ h => h) (Or.inl ⟨by rfl, ?_⟩) (by assumption) ?_
      rotate_left
      · intro w hSw; go_simp; with_reducible rfl
      simp only [Act.put, List.getElem_toArray, List.getElem_cons_zero, List.getElem_cons_succ, List.setIfInBounds_toArray, List.set_cons_zero, List.set_cons_succ]
      refine wpAnyH_ready (rs := [4]) (by kernel_rfl) (by simp) ?_
      refine AllReadyH.cons rfl (fun K hK => ?_) AllReadyH.nil
      have hd := Led.front3 (H3.out.step (Cls.drew _))
      go_simp
      refine (anyRoute_led hd HB.out HBS.out hn (by omega) HXL.out HFL.out hp hm HXS.out).mono ?_
      rintro e w8 ⟨tv, U, cU, jds, rfl, hj6, h8⟩
      go_wp2_with fail
      refine hK.out _ _ (⟨⟨h8.cell 6 0 rfl rfl, h8.cell 6 1 rfl rfl⟩, h8.cell 4 0 rfl rfl, h8.cell 4 1 rfl rfl⟩) (fun hHeld => ?_)
      clear hK K
      try simp only [Act.put, List.getElem_toArray, List.getElem_cons_zero, List.getElem_cons_succ, List.setIfInBounds_toArray, List.set_cons_zero, List.set_cons_succ]
      have y0 := h8.cell 9 0 rfl rfl
      have y1 := h8.cell 9 1 rfl rfl
      have t0 := h8.frozen 9 0 rfl
      have t1 := h8.frozen 9 1 rfl
      have k1 := (h8.set 9 rfl 0 (.slice B p cb)).set 9 rfl 1 (.slice E m d)
      refine wpAnyH_ready (rs := [5]) (by kernel_rfl) (by simp) ?_
      refine AllReadyH.cons rfl (fun K hK => ?_) AllReadyH.nil
      go_simp
      go_wp2_with fail
      refine hK.out _ _ (⟨⟨k1.cell 6 0 rfl rfl, k1.cell 6 1 rfl rfl⟩, k1.cell 4 0 rfl rfl, k1.cell 4 1 rfl rfl⟩) (fun hHeld => ?_)
      clear hK K
      try simp only [Act.put, List.getElem_toArray, List.getElem_cons_zero, List.getElem_cons_succ, List.setIfInBounds_toArray, List.set_cons_zero, List.set_cons_succ]
      have a0 := k1.cell 8 0 rfl rfl
      have a1 := k1.cell 8 1 rfl rfl
      have b0 := k1.frozen 8 0 rfl
      have b1 := k1.frozen 8 1 rfl
      have k2 := (k1.set 8 rfl 0 (.int .i64 sv)).set 8 rfl 1 (.slice V ids.length cV)
      refine wpAnyH_ready (rs := [6]) (by kernel_rfl) (by simp) ?_
      refine AllReadyH.cons rfl (fun K hK => ?_) AllReadyH.nil
      go_simp
      go_wp2_with fail
      refine hK.out _ _ (⟨⟨k2.cell 6 0 rfl rfl, k2.cell 6 1 rfl rfl⟩, k2.cell 4 0 rfl rfl, k2.cell 4 1 rfl rfl⟩) (fun hHeld => ?_)
      clear hK K
      try simp only [Act.put, List.getElem_toArray, List.getElem_cons_zero, List.getElem_cons_succ, List.setIfInBounds_toArray, List.set_cons_zero, List.set_cons_succ]
      have c0 := k2.cell 7 0 rfl rfl
      have c1 := k2.cell 7 1 rfl rfl
      have d0 := k2.frozen 7 0 rfl
      have d1 := k2.frozen 7 1 rfl
      have k3 := (k2.set 7 rfl 0 (.int .i64 tv)).set 7 rfl 1 (.slice U jds.length cU)
      refine wpAnyH_ready (rs := [7]) (by kernel_rfl) (by simp) ?_
      refine AllReadyH.cons rfl (fun K hK => ?_) AllReadyH.nil
      go_simp
      go_wp2_with fail
      refine hK.out _ _ (⟨⟨k3.cell 6 0 rfl rfl, k3.cell 6 1 rfl rfl⟩, k3.cell 4 0 rfl rfl, k3.cell 4 1 rfl rfl⟩) (fun hHeld => ?_)
      clear hK K
      try simp only [Act.put, List.getElem_toArray, List.getElem_cons_zero, List.getElem_cons_succ, List.setIfInBounds_toArray, List.set_cons_zero, List.set_cons_succ]
      refine wpAnyH_done (by kernel_rfl) ?_ _
      have HE := hid k3
      have n0 := k3.cell 9 0 rfl rfl
      have n1 := k3.cell 9 1 rfl rfl
      have e0 := k3.cell 8 0 rfl rfl
      have e1 := k3.cell 8 1 rfl rfl
      have f0 := k3.cell 7 0 rfl rfl
      have f1 := k3.cell 7 1 rfl rfl
      clear k1 k2 k3 y0 y1 t0 t1 a0 a1 b0 b1 c0 c1 d0 d1 hHeld
      go_wp2_with fail
      exact bodyPost_ret (v := .tuple #[.agg #[.slice B p cb, .slice E m d], .agg #[.int .i64 sv, .slice V ids.length cV], .agg #[.int .i64 tv, .slice U jds.length cU]]) (by simp [results, Try.results38, go_sem, n0, n1, e0, e1, f0, f1]) rfl (drJP.mk ⟨⟨_, _, Led.take2 (HE.out.drop 2)⟩, HXL.out, HFL.out, hp, hm, HXS.out⟩ (HE.out.rt 5 rfl (by omega)) (HE.out.rt 0 rfl (by omega)) (by omega) (by omega))
    · go_wp2_with fail
      refine (one_led H3.out 2 rfl HB.out HBS.out hn (by omega) 4 (by decide) (by decide)).mono ?_
      rintro e w4 ⟨t4, rfl, h4⟩
      have H4 := hid h4
      clear h4 H3
      cases t4
      · skip
        have iwk : IntKind.i64.wrap ((ids.length : Int) - 1) = (ids.length : Int) - 1 := IntWalk.i64_in _ (by omega)
        go_wp2_with fail
        refine (pick_led H4.out 2 rfl HB.out HBS.out hn (by omega) ((ids.length : Int) - 1) (by omega) (by omega)).mono ?_
        rintro e w5 ⟨mv, rfl, hm0, hm1, h5⟩
        have hm2 := hm1 (by omega)
        obtain ⟨q, hq⟩ : ∃ q : Nat, 1 + mv = (q : Int) := ⟨(1 + mv).toNat, by omega⟩
        have iwq : IntKind.i64.wrap (1 + mv) = (q : Int) := by rw [IntWalk.i64_in _ (by omega)]; exact hq
        have hq1 : 1 ≤ q ∧ q < ids.length := by omega
        have H5 := hid h5
        clear hm1 h5 H4 hq hm0 hm2
        obtain ⟨gV, cW, hv⟩ := H5.out.row_ 1 rfl rfl (by omega)
        injection hv with hv1 _ hv3
        subst hv1; subst hv3
        have hcV : ids.length ≤ cV := by obtain ⟨_, _, hv, h1⟩ := H5.out.form 1 rfl; injection hv with _ _ h3; omega
        have i0 : (0 : Int) ≤ (q : Int) := by omega
        have i1 : (q : Int) ≤ (ids.length : Int) := by omega
        have i2 : (q : Int) ≤ (cV : Int) := by omega
        have i3 : (ids.length : Int) ≤ (cV : Int) := by omega
        have i4 : ¬ (cV = q) := by omega
        have i5 : q ≤ ids.length := by omega
        have hrt : rtB xs.length fs sv ids = true := (routeB_good HGD.out.symm).2
        have HRT := hid hrt
        rw [HXL.out] at HRT
        have HTl : Hid ((ids.take q).length = q) := by unfold Hid; rw [List.length_take]; omega
        have HDl : Hid ((ids.drop q).length = ids.length - q) := by unfold Hid; rw [List.length_drop]
        clear hrt
        go_wp2_with fail
        refine wp_region_held_drew (S := fun w' => (w'.cell? ⟨w1.heap.size, 0, none⟩ = some (.slice B p cb) ∧ w'.cell? ⟨w1.heap.size, 1, none⟩ = some (.slice E m d)) ∧ w'.cell? ⟨w2.heap.size, 0, none⟩ = some (.int .i64 sv) ∧ w'.cell? ⟨w2.heap.size, 1, none⟩ = some (.slice (some ⟨gV, 0, none⟩) ids.length cV)) (by kernel_rfl) (⟨⟨H5.out.cell 5 0 rfl rfl, H5.out.cell 5 1 rfl rfl⟩, H5.out.cell 0 0 rfl rfl, H5.out.cell 0 1 rfl rfl⟩) (fun hHeld => ?_)
        refine wpAnyH_take (i := 0) (oi := _) (v := ?_) rfl (by kernel_rfl) (by kernel_rfl) (by kernel_rfl) (fun _ _ _ h => h) (Or.inl ⟨by rfl, ?_⟩) (by assumption) ?_
        rotate_left
        · intro w hSw; go_simp; with_reducible rfl
        simp only [Act.put, List.getElem_toArray, List.getElem_cons_zero, List.setIfInBounds_toArray, List.set_cons_zero, List.set_cons_succ]
        refine wpAnyH_take (i := 1) (oi := _) (v := ?_) rfl (by kernel_rfl) (by kernel_rfl) (by kernel_rfl) (fun _ _ _ h => h) (Or.inl ⟨by rfl, ?_⟩) (by assumption) ?_
        rotate_left
        · intro w hSw; go_simp; with_reducible rfl
        simp only [Act.put, List.getElem_toArray, List.getElem_cons_zero, List.getElem_cons_succ, List.setIfInBounds_toArray, List.set_cons_zero, List.set_cons_succ]
        refine wpAnyH_take (i := 2) (oi := _) (v := ?_) rfl (by kernel_rfl) (by kernel_rfl) (by kernel_rfl) (fun _ _ _ h => h) (Or.inl ⟨by rfl, ?_⟩) (by assumption) ?_
        rotate_left
        · intro w hSw; go_simp; with_reducible rfl
        simp only [Act.put, List.getElem_toArray, List.getElem_cons_zero, List.getElem_cons_succ, List.setIfInBounds_toArray, List.set_cons_zero, List.set_cons_succ]
        refine wpAnyH_take (i := 3) (oi := _) (v := ?_) rfl (by kernel_rfl) (by kernel_rfl) (by kernel_rfl) (fun _ _ _ h => h) (Or.inl ⟨by rfl, ?_⟩) (by assumption) ?_
        rotate_left
        · intro w hSw; go_simp; with_reducible rfl
        simp only [Act.put, List.getElem_toArray, List.getElem_cons_zero, List.getElem_cons_succ, List.setIfInBounds_toArray, List.set_cons_zero, List.set_cons_succ]
        refine wpAnyH_take (i := 4) (oi := _) (v := ?_) rfl (by kernel_rfl) (by kernel_rfl) (by kernel_rfl) (fun _ _ _ h => h) (Or.inl ⟨by rfl, ?_⟩) (by assumption) ?_
        rotate_left
        · intro w hSw; go_simp; with_reducible rfl
        simp only [Act.put, List.getElem_toArray, List.getElem_cons_zero, List.getElem_cons_succ, List.setIfInBounds_toArray, List.set_cons_zero, List.set_cons_succ]
        refine wpAnyH_take (i := 5) (oi := _) (v := ?_) rfl (by kernel_rfl) (by kernel_rfl) (by kernel_rfl) (fun _ _ _ h => h) (Or.inl ⟨by rfl, ?_⟩) (by assumption) ?_
        rotate_left
        · intro w hSw; go_simp; with_reducible rfl
        simp only [Act.put, List.getElem_toArray, List.getElem_cons_zero, List.getElem_cons_succ, List.setIfInBounds_toArray, List.set_cons_zero, List.set_cons_succ]
        refine wpAnyH_take (i := 6) (oi := _) (v := ?_) rfl (by kernel_rfl) (by kernel_rfl) (by kernel_rfl) (fun _ _ _ h => h) (Or.inl ⟨by rfl, ?_⟩) (by assumption) ?_
        rotate_left
        · intro w hSw; go_simp; with_reducible rfl
        simp only [Act.put, List.getElem_toArray, List.getElem_cons_zero, List.getElem_cons_succ, List.setIfInBounds_toArray, List.set_cons_zero, List.set_cons_succ]
        refine wpAnyH_take (i := 9) (oi := _) (v := ?_) rfl (by kernel_rfl) (by kernel_rfl) (by kernel_rfl) (fun _ _ _ h => h) (Or.inl ⟨by rfl, ?_⟩) (by assumption) ?_
        rotate_left
        · intro w hSw; go_simp; with_reducible rfl
        simp only [Act.put, List.getElem_toArray, List.getElem_cons_zero, List.getElem_cons_succ, List.setIfInBounds_toArray, List.set_cons_zero, List.set_cons_succ]
        refine wpAnyH_take (i := 10) (oi := _) (v := ?_) rfl (by kernel_rfl) (by kernel_rfl) (by kernel_rfl) (fun _ _ _ h => h) (Or.inl ⟨by rfl, ?_⟩) (by assumption) ?_
        rotate_left
        · intro w hSw; go_simp; with_reducible rfl
        simp only [Act.put, List.getElem_toArray, List.getElem_cons_zero, List.getElem_cons_succ, List.setIfInBounds_toArray, List.set_cons_zero, List.set_cons_succ]
        refine wpAnyH_take (i := 12) (oi := _) (v := ?_) rfl (by kernel_rfl) (by kernel_rfl) (by kernel_rfl) (fun _ _ _ h => h) (Or.inl ⟨by rfl, ?_⟩) (by assumption) ?_
        rotate_left
        · intro w hSw; go_simp; with_reducible rfl
        simp only [Act.put, List.getElem_toArray, List.getElem_cons_zero, List.getElem_cons_succ, List.setIfInBounds_toArray, List.set_cons_zero, List.set_cons_succ]
        refine wpAnyH_take (i := 15) (oi := _) (v := ?_) rfl (by kernel_rfl) (by kernel_rfl) (by kernel_rfl) (fun _ _ _ h => h) (Or.inl ⟨by rfl, ?_⟩) (by assumption) ?_
        rotate_left
        · intro w hSw; go_simp; with_reducible rfl
        simp only [Act.put, List.getElem_toArray, List.getElem_cons_zero, List.getElem_cons_succ, List.setIfInBounds_toArray, List.set_cons_zero, List.set_cons_succ]
        refine wpAnyH_take (i := 16) (oi := _) (v := ?_) rfl (by kernel_rfl) (by kernel_rfl) (by kernel_rfl) (fun _ _ _ h => h) (Or.inl ⟨by rfl, ?_⟩) (by assumption) ?_
        rotate_left
        · intro w hSw; go_simp; with_reducible rfl
        simp only [Act.put, List.getElem_toArray, List.getElem_cons_zero, List.getElem_cons_succ, List.setIfInBounds_toArray, List.set_cons_zero, List.set_cons_succ]
        refine wpAnyH_take (i := 17) (oi := _) (v := ?_) rfl (by kernel_rfl) (by kernel_rfl) (by kernel_rfl) (fun _ _ _ h => h) (Or.inl ⟨by rfl, ?_⟩) (by assumption) ?_
        rotate_left
        · intro w hSw; go_simp; with_reducible rfl
        simp only [Act.put, List.getElem_toArray, List.getElem_cons_zero, List.getElem_cons_succ, List.setIfInBounds_toArray, List.set_cons_zero, List.set_cons_succ]
        refine wpAnyH_take (i := 18) (oi := _) (v := ?_) rfl (by kernel_rfl) (by kernel_rfl) (by kernel_rfl) (fun _ _ _ h => h) (Or.inl ⟨by rfl, ?_⟩) (by assumption) ?_
        rotate_left
        · intro w hSw; go_simp; with_reducible rfl
        simp only [Act.put, List.getElem_toArray, List.getElem_cons_zero, List.getElem_cons_succ, List.setIfInBounds_toArray, List.set_cons_zero, List.set_cons_succ]
        refine wpAnyH_ready (rs := [7]) (by kernel_rfl) (by simp) ?_
        refine AllReadyH.cons rfl (fun K hK => ?_) AllReadyH.nil
        have hd := H5.out.step (Cls.drew _)
        go_simp
        refine (l1Own_any _ ((hd.sees (E := elInt) 1 rfl rfl).take i5) (by omega)).mono ?_
        rintro e w7 ⟨v7, rfl, ho7, hb7⟩
        have h7 := hd.owns_ (b0 := w.heap.size) hb7 ho7 (Nat.le_refl _) hd.bl.size
        obtain ⟨A7, c7, hv7, _⟩ := h7.form 0 rfl
        obtain ⟨T7, hT7⟩ : ∃ T7, T7 = ids.take q := ⟨_, rfl⟩
        rw [← hT7] at h7 hv7 HTl
        subst hv7
        have hT10 : T7.length ≤ 10 := by have := HTl.out; omega
        have HT10 := hid hT10
        clear hT7 ho7 hb7 hd hT10
        go_wp2_with fail
        refine hK.out _ _ (⟨⟨h7.cell 6 0 rfl rfl, h7.cell 6 1 rfl rfl⟩, h7.cell 1 0 rfl rfl, h7.cell 1 1 rfl rfl⟩) (fun hHeld => ?_)
        clear hK K
        try simp only [Act.put, List.getElem_toArray, List.getElem_cons_zero, List.getElem_cons_succ, List.setIfInBounds_toArray, List.set_cons_zero, List.set_cons_succ]
        refine wpAnyH_take (i := 8) (oi := _) (v := ?_) rfl (by kernel_rfl) (by kernel_rfl) (by kernel_rfl) (fun _ _ _ h => h) (Or.inl ⟨by rfl, ?_⟩) (by assumption) ?_
        rotate_left
        · intro w hSw; go_simp; with_reducible rfl
        simp only [Act.put, List.getElem_toArray, List.getElem_cons_zero, List.getElem_cons_succ, List.setIfInBounds_toArray, List.set_cons_zero, List.set_cons_succ]
        refine wpAnyH_ready (rs := [11]) (by kernel_rfl) (by simp) ?_
        refine AllReadyH.cons rfl (fun K hK => ?_) AllReadyH.nil
        go_simp
        refine (l4Nodes_any (s := sv) _ (h7.netOf 4 5 rfl rfl HXL.out HFL.out hp.2 hm HXS.out) (h7.rt 2 rfl (by omega)) HRT.out).mono ?_
        rintro e w8 ⟨v8, rfl, ho8, hb8⟩
        have h8 := h7.owns_ (b0 := w.heap.size) hb8 ho8 (Nat.le_refl _) h7.bl.size
        have hNl : (outW fs sv ids ids.length).length = ids.length + 1 := outW_len _ _ _ _
        obtain ⟨NL, hNL⟩ : ∃ NL, NL = outW fs sv ids ids.length := ⟨_, rfl⟩
        rw [← hNL] at h8 hNl
        obtain ⟨n8, hn8⟩ : ∃ n8, n8 = NL.length := ⟨_, rfl⟩
        have HN8 : Hid (NL.length = n8) := hn8.symm
        have j1 : q < n8 := by omega
        have j2 : (q : Int) < (n8 : Int) := by omega
        obtain ⟨g8, c8, hv8⟩ := h8.row_ 0 rfl HN8.out (by omega)
        subst hv8
        obtain ⟨tv, htv⟩ : ∃ tv, NL[q]? = some tv := ⟨NL[q]'(by rw [HN8.out]; exact j1), List.getElem?_eq_getElem _⟩
        have HTV := hid htv
        clear hNL hNl hn8 htv ho8 hb8 h7
        go_wp2_with fail
        refine hK.out _ _ (⟨⟨h8.cell 7 0 rfl rfl, h8.cell 7 1 rfl rfl⟩, h8.cell 2 0 rfl rfl, h8.cell 2 1 rfl rfl⟩) (fun hHeld => ?_)
        clear hK K
        try simp only [Act.put, List.getElem_toArray, List.getElem_cons_zero, List.getElem_cons_succ, List.setIfInBounds_toArray, List.set_cons_zero, List.set_cons_succ]
        refine wpAnyH_take (i := 13) (oi := _) (v := ?_) rfl (by kernel_rfl) (by kernel_rfl) (by kernel_rfl) (fun _ _ _ h => h) (Or.inl ⟨by rfl, ?_⟩) (by assumption) ?_
        rotate_left
        · intro w hSw; go_simp; with_reducible rfl
        simp only [Act.put, List.getElem_toArray, List.getElem_cons_zero, List.getElem_cons_succ, List.setIfInBounds_toArray, List.set_cons_zero, List.set_cons_succ]
        have tc := (h8.sees (E := elInt) 0 rfl HN8.out.symm).cell HTV.out (j := 0) rfl
        simp only [elInt, Nat.zero_add, Nat.mul_one, Nat.add_zero] at tc
        refine wpAnyH_ready (rs := [14, 19]) (by kernel_rfl) (by simp) ?_
        refine AllReadyH.cons rfl (fun K hK => ?_) ?_
        · skip
          go_simp
          go_wp2_with fail
          refine hK.out _ _ (⟨⟨h8.cell 7 0 rfl rfl, h8.cell 7 1 rfl rfl⟩, h8.cell 2 0 rfl rfl, h8.cell 2 1 rfl rfl⟩) (fun hHeld => ?_)
          clear hK K
          try simp only [Act.put, List.getElem_toArray, List.getElem_cons_zero, List.getElem_cons_succ, List.setIfInBounds_toArray, List.set_cons_zero, List.set_cons_succ]
          refine wpAnyH_ready (rs := [19]) (by kernel_rfl) (by simp) ?_
          refine AllReadyH.cons rfl (fun K hK => ?_) AllReadyH.nil
          go_simp
          refine (l1Own_any _ ((h8.sees (E := elInt) 3 rfl rfl).back0 rfl i5) (by omega)).mono ?_
          rintro e w9 ⟨v9, rfl, ho9, hb9⟩
          have h9 := h8.owns_ (b0 := w.heap.size) hb9 ho9 (Nat.le_refl _) h8.bl.size
          obtain ⟨A9, c9, hv9, _⟩ := h9.form 0 rfl
          obtain ⟨T9, hT9⟩ : ∃ T9, T9 = ids.drop q := ⟨_, rfl⟩
          rw [← hT9] at h9 hv9 HDl
          subst hv9
          have hT9l : T9.length ≤ 10 := by have := HDl.out; omega
          have HT9 := hid hT9l
          have tc9 := (h9.sees (E := elInt) 1 rfl HN8.out.symm).cell HTV.out (j := 0) rfl
          simp only [elInt, Nat.zero_add, Nat.mul_one, Nat.add_zero] at tc9
          clear hT9 ho9 hb9 hT9l
          go_wp2_with fail
          refine hK.out _ _ (⟨⟨h9.cell 8 0 rfl rfl, h9.cell 8 1 rfl rfl⟩, h9.cell 3 0 rfl rfl, h9.cell 3 1 rfl rfl⟩) (fun hHeld => ?_)
          clear hK K
          try simp only [Act.put, List.getElem_toArray, List.getElem_cons_zero, List.getElem_cons_succ, List.setIfInBounds_toArray, List.set_cons_zero, List.set_cons_succ]
          refine wpAnyH_take (i := 20) (oi := _) (v := ?_) rfl (by kernel_rfl) (by kernel_rfl) (by kernel_rfl) (fun _ _ _ h => h) (Or.inl ⟨by rfl, ?_⟩) (by assumption) ?_
          rotate_left
          · intro w hSw; go_simp; with_reducible rfl
          simp only [Act.put, List.getElem_toArray, List.getElem_cons_zero, List.getElem_cons_succ, List.setIfInBounds_toArray, List.set_cons_zero, List.set_cons_succ]
          have y0 := h9.cell 11 0 rfl rfl
          have y1 := h9.cell 11 1 rfl rfl
          have t0 := h9.frozen 11 0 rfl
          have t1 := h9.frozen 11 1 rfl
          have k1 := (h9.set 11 rfl 0 (.slice B p cb)).set 11 rfl 1 (.slice E m d)
          refine wpAnyH_ready (rs := [21]) (by kernel_rfl) (by simp) ?_
          refine AllReadyH.cons rfl (fun K hK => ?_) AllReadyH.nil
          go_simp
          go_wp2_with fail
          refine hK.out _ _ (⟨⟨k1.cell 8 0 rfl rfl, k1.cell 8 1 rfl rfl⟩, k1.cell 3 0 rfl rfl, k1.cell 3 1 rfl rfl⟩) (fun hHeld => ?_)
          clear hK K
          try simp only [Act.put, List.getElem_toArray, List.getElem_cons_zero, List.getElem_cons_succ, List.setIfInBounds_toArray, List.set_cons_zero, List.set_cons_succ]
          have a0 := k1.cell 10 0 rfl rfl
          have a1 := k1.cell 10 1 rfl rfl
          have b0 := k1.frozen 10 0 rfl
          have b1 := k1.frozen 10 1 rfl
          have k2 := (k1.set 10 rfl 0 (.int .i64 sv)).set 10 rfl 1 (.slice A7 T7.length c7)
          refine wpAnyH_ready (rs := [22]) (by kernel_rfl) (by simp) ?_
          refine AllReadyH.cons rfl (fun K hK => ?_) AllReadyH.nil
          go_simp
          go_wp2_with fail
          refine hK.out _ _ (⟨⟨k2.cell 8 0 rfl rfl, k2.cell 8 1 rfl rfl⟩, k2.cell 3 0 rfl rfl, k2.cell 3 1 rfl rfl⟩) (fun hHeld => ?_)
          clear hK K
          try simp only [Act.put, List.getElem_toArray, List.getElem_cons_zero, List.getElem_cons_succ, List.setIfInBounds_toArray, List.set_cons_zero, List.set_cons_succ]
          have c0 := k2.cell 9 0 rfl rfl
          have c1 := k2.cell 9 1 rfl rfl
          have d0 := k2.frozen 9 0 rfl
          have d1 := k2.frozen 9 1 rfl
          have k3 := (k2.set 9 rfl 0 (.int .i64 tv)).set 9 rfl 1 (.slice A9 T9.length c9)
          refine wpAnyH_ready (rs := [23]) (by kernel_rfl) (by simp) ?_
          refine AllReadyH.cons rfl (fun K hK => ?_) AllReadyH.nil
          go_simp
          go_wp2_with fail
          refine hK.out _ _ (⟨⟨k3.cell 8 0 rfl rfl, k3.cell 8 1 rfl rfl⟩, k3.cell 3 0 rfl rfl, k3.cell 3 1 rfl rfl⟩) (fun hHeld => ?_)
          clear hK K
          try simp only [Act.put, List.getElem_toArray, List.getElem_cons_zero, List.getElem_cons_succ, List.setIfInBounds_toArray, List.set_cons_zero, List.set_cons_succ]
          refine wpAnyH_done (by kernel_rfl) ?_ _
          have HE := hid k3
          have n0 := k3.cell 11 0 rfl rfl
          have n1 := k3.cell 11 1 rfl rfl
          have e0 := k3.cell 10 0 rfl rfl
          have e1 := k3.cell 10 1 rfl rfl
          have f0 := k3.cell 9 0 rfl rfl
          have f1 := k3.cell 9 1 rfl rfl
          clear k1 k2 k3 y0 y1 t0 t1 a0 a1 b0 b1 c0 c1 d0 d1 hHeld
          go_wp2_with fail
          exact bodyPost_ret (v := .tuple #[.agg #[.slice B p cb, .slice E m d], .agg #[.int .i64 sv, .slice A7 T7.length c7], .agg #[.int .i64 tv, .slice A9 T9.length c9]]) (by simp [results, Try.results38, go_sem, n0, n1, e0, e1, f0, f1]) rfl (drJP.mk ⟨⟨_, _, Led.take2 (HE.out.drop 6)⟩, HXL.out, HFL.out, hp, hm, HXS.out⟩ (HE.out.rt 2 rfl (by have := HT10.out; omega)) (HE.out.rt 0 rfl (by have := HT9.out; omega)) HT10.out HT9.out)
        · skip
          refine AllReadyH.cons rfl (fun K hK => ?_) AllReadyH.nil
          go_simp
          refine (l1Own_any _ ((h8.sees (E := elInt) 3 rfl rfl).back0 rfl i5) (by omega)).mono ?_
          rintro e w9 ⟨v9, rfl, ho9, hb9⟩
          have h9 := h8.owns_ (b0 := w.heap.size) hb9 ho9 (Nat.le_refl _) h8.bl.size
          obtain ⟨A9, c9, hv9, _⟩ := h9.form 0 rfl
          obtain ⟨T9, hT9⟩ : ∃ T9, T9 = ids.drop q := ⟨_, rfl⟩
          rw [← hT9] at h9 hv9 HDl
          subst hv9
          have hT9l : T9.length ≤ 10 := by have := HDl.out; omega
          have HT9 := hid hT9l
          have tc9 := (h9.sees (E := elInt) 1 rfl HN8.out.symm).cell HTV.out (j := 0) rfl
          simp only [elInt, Nat.zero_add, Nat.mul_one, Nat.add_zero] at tc9
          clear hT9 ho9 hb9 hT9l
          go_wp2_with fail
          refine hK.out _ _ (⟨⟨h9.cell 8 0 rfl rfl, h9.cell 8 1 rfl rfl⟩, h9.cell 3 0 rfl rfl, h9.cell 3 1 rfl rfl⟩) (fun hHeld => ?_)
          clear hK K
          try simp only [Act.put, List.getElem_toArray, List.getElem_cons_zero, List.getElem_cons_succ, List.setIfInBounds_toArray, List.set_cons_zero, List.set_cons_succ]
          refine wpAnyH_ready (rs := [14, 21]) (by kernel_rfl) (by simp) ?_
          refine AllReadyH.cons rfl (fun K hK => ?_) ?_
          · skip
            have tl := (h9.sees (E := elInt) 1 rfl HN8.out.symm).cell HTV.out (j := 0) rfl
            simp only [elInt, Nat.zero_add, Nat.mul_one, Nat.add_zero] at tl
            go_simp
            go_wp2_with fail
            refine hK.out _ _ (⟨⟨h9.cell 8 0 rfl rfl, h9.cell 8 1 rfl rfl⟩, h9.cell 3 0 rfl rfl, h9.cell 3 1 rfl rfl⟩) (fun hHeld => ?_)
            clear hK K
            try simp only [Act.put, List.getElem_toArray, List.getElem_cons_zero, List.getElem_cons_succ, List.setIfInBounds_toArray, List.set_cons_zero, List.set_cons_succ]
            clear tl
            refine wpAnyH_take (i := 20) (oi := _) (v := ?_) rfl (by kernel_rfl) (by kernel_rfl) (by kernel_rfl) (fun _ _ _ h => h) (Or.inl ⟨by rfl, ?_⟩) (by assumption) ?_
            rotate_left
            · intro w hSw; go_simp; with_reducible rfl
            simp only [Act.put, List.getElem_toArray, List.getElem_cons_zero, List.getElem_cons_succ, List.setIfInBounds_toArray, List.set_cons_zero, List.set_cons_succ]
            have y0 := h9.cell 11 0 rfl rfl
            have y1 := h9.cell 11 1 rfl rfl
            have t0 := h9.frozen 11 0 rfl
            have t1 := h9.frozen 11 1 rfl
            have k1 := (h9.set 11 rfl 0 (.slice B p cb)).set 11 rfl 1 (.slice E m d)
            refine wpAnyH_ready (rs := [21]) (by kernel_rfl) (by simp) ?_
            refine AllReadyH.cons rfl (fun K hK => ?_) AllReadyH.nil
            go_simp
            go_wp2_with fail
            refine hK.out _ _ (⟨⟨k1.cell 8 0 rfl rfl, k1.cell 8 1 rfl rfl⟩, k1.cell 3 0 rfl rfl, k1.cell 3 1 rfl rfl⟩) (fun hHeld => ?_)
            clear hK K
            try simp only [Act.put, List.getElem_toArray, List.getElem_cons_zero, List.getElem_cons_succ, List.setIfInBounds_toArray, List.set_cons_zero, List.set_cons_succ]
            have a0 := k1.cell 10 0 rfl rfl
            have a1 := k1.cell 10 1 rfl rfl
            have b0 := k1.frozen 10 0 rfl
            have b1 := k1.frozen 10 1 rfl
            have k2 := (k1.set 10 rfl 0 (.int .i64 sv)).set 10 rfl 1 (.slice A7 T7.length c7)
            refine wpAnyH_ready (rs := [22]) (by kernel_rfl) (by simp) ?_
            refine AllReadyH.cons rfl (fun K hK => ?_) AllReadyH.nil
            go_simp
            go_wp2_with fail
            refine hK.out _ _ (⟨⟨k2.cell 8 0 rfl rfl, k2.cell 8 1 rfl rfl⟩, k2.cell 3 0 rfl rfl, k2.cell 3 1 rfl rfl⟩) (fun hHeld => ?_)
            clear hK K
            try simp only [Act.put, List.getElem_toArray, List.getElem_cons_zero, List.getElem_cons_succ, List.setIfInBounds_toArray, List.set_cons_zero, List.set_cons_succ]
            have c0 := k2.cell 9 0 rfl rfl
            have c1 := k2.cell 9 1 rfl rfl
            have d0 := k2.frozen 9 0 rfl
            have d1 := k2.frozen 9 1 rfl
            have k3 := (k2.set 9 rfl 0 (.int .i64 tv)).set 9 rfl 1 (.slice A9 T9.length c9)
            refine wpAnyH_ready (rs := [23]) (by kernel_rfl) (by simp) ?_
            refine AllReadyH.cons rfl (fun K hK => ?_) AllReadyH.nil
            go_simp
            go_wp2_with fail
            refine hK.out _ _ (⟨⟨k3.cell 8 0 rfl rfl, k3.cell 8 1 rfl rfl⟩, k3.cell 3 0 rfl rfl, k3.cell 3 1 rfl rfl⟩) (fun hHeld => ?_)
            clear hK K
            try simp only [Act.put, List.getElem_toArray, List.getElem_cons_zero, List.getElem_cons_succ, List.setIfInBounds_toArray, List.set_cons_zero, List.set_cons_succ]
            refine wpAnyH_done (by kernel_rfl) ?_ _
            have HE := hid k3
            have n0 := k3.cell 11 0 rfl rfl
            have n1 := k3.cell 11 1 rfl rfl
            have e0 := k3.cell 10 0 rfl rfl
            have e1 := k3.cell 10 1 rfl rfl
            have f0 := k3.cell 9 0 rfl rfl
            have f1 := k3.cell 9 1 rfl rfl
            clear k1 k2 k3 y0 y1 t0 t1 a0 a1 b0 b1 c0 c1 d0 d1 hHeld
            go_wp2_with fail
            exact bodyPost_ret (v := .tuple #[.agg #[.slice B p cb, .slice E m d], .agg #[.int .i64 sv, .slice A7 T7.length c7], .agg #[.int .i64 tv, .slice A9 T9.length c9]]) (by simp [results, Try.results38, go_sem, n0, n1, e0, e1, f0, f1]) rfl (drJP.mk ⟨⟨_, _, Led.take2 (HE.out.drop 6)⟩, HXL.out, HFL.out, hp, hm, HXS.out⟩ (HE.out.rt 2 rfl (by have := HT10.out; omega)) (HE.out.rt 0 rfl (by have := HT9.out; omega)) HT10.out HT9.out)
          · skip
            have y0 := h9.cell 11 0 rfl rfl
            have y1 := h9.cell 11 1 rfl rfl
            have t0 := h9.frozen 11 0 rfl
            have t1 := h9.frozen 11 1 rfl
            have k1 := (h9.set 11 rfl 0 (.slice B p cb)).set 11 rfl 1 (.slice E m d)
            refine AllReadyH.cons rfl (fun K hK => ?_) AllReadyH.nil
            go_simp
            go_wp2_with fail
            refine hK.out _ _ (⟨⟨k1.cell 8 0 rfl rfl, k1.cell 8 1 rfl rfl⟩, k1.cell 3 0 rfl rfl, k1.cell 3 1 rfl rfl⟩) (fun hHeld => ?_)
            clear hK K
            try simp only [Act.put, List.getElem_toArray, List.getElem_cons_zero, List.getElem_cons_succ, List.setIfInBounds_toArray, List.set_cons_zero, List.set_cons_succ]
            refine wpAnyH_ready (rs := [14, 22]) (by kernel_rfl) (by simp) ?_
            refine AllReadyH.cons rfl (fun K hK => ?_) ?_
            · skip
              have tl := (k1.sees (E := elInt) 1 rfl HN8.out.symm).cell HTV.out (j := 0) rfl
              simp only [elInt, Nat.zero_add, Nat.mul_one, Nat.add_zero] at tl
              go_simp
              go_wp2_with fail
              refine hK.out _ _ (⟨⟨k1.cell 8 0 rfl rfl, k1.cell 8 1 rfl rfl⟩, k1.cell 3 0 rfl rfl, k1.cell 3 1 rfl rfl⟩) (fun hHeld => ?_)
              clear hK K
              try simp only [Act.put, List.getElem_toArray, List.getElem_cons_zero, List.getElem_cons_succ, List.setIfInBounds_toArray, List.set_cons_zero, List.set_cons_succ]
              clear tl
              refine wpAnyH_take (i := 20) (oi := _) (v := ?_) rfl (by kernel_rfl) (by kernel_rfl) (by kernel_rfl) (fun _ _ _ h => h) (Or.inl ⟨by rfl, ?_⟩) (by assumption) ?_
              rotate_left
              · intro w hSw; go_simp; with_reducible rfl
              simp only [Act.put, List.getElem_toArray, List.getElem_cons_zero, List.getElem_cons_succ, List.setIfInBounds_toArray, List.set_cons_zero, List.set_cons_succ]
              have a0 := k1.cell 10 0 rfl rfl
              have a1 := k1.cell 10 1 rfl rfl
              have b0 := k1.frozen 10 0 rfl
              have b1 := k1.frozen 10 1 rfl
              have k2 := (k1.set 10 rfl 0 (.int .i64 sv)).set 10 rfl 1 (.slice A7 T7.length c7)
              refine wpAnyH_ready (rs := [22]) (by kernel_rfl) (by simp) ?_
              refine AllReadyH.cons rfl (fun K hK => ?_) AllReadyH.nil
              go_simp
              go_wp2_with fail
              refine hK.out _ _ (⟨⟨k2.cell 8 0 rfl rfl, k2.cell 8 1 rfl rfl⟩, k2.cell 3 0 rfl rfl, k2.cell 3 1 rfl rfl⟩) (fun hHeld => ?_)
              clear hK K
              try simp only [Act.put, List.getElem_toArray, List.getElem_cons_zero, List.getElem_cons_succ, List.setIfInBounds_toArray, List.set_cons_zero, List.set_cons_succ]
              have c0 := k2.cell 9 0 rfl rfl
              have c1 := k2.cell 9 1 rfl rfl
              have d0 := k2.frozen 9 0 rfl
              have d1 := k2.frozen 9 1 rfl
              have k3 := (k2.set 9 rfl 0 (.int .i64 tv)).set 9 rfl 1 (.slice A9 T9.length c9)
              refine wpAnyH_ready (rs := [23]) (by kernel_rfl) (by simp) ?_
              refine AllReadyH.cons rfl (fun K hK => ?_) AllReadyH.nil
              go_simp
              go_wp2_with fail
              refine hK.out _ _ (⟨⟨k3.cell 8 0 rfl rfl, k3.cell 8 1 rfl rfl⟩, k3.cell 3 0 rfl rfl, k3.cell 3 1 rfl rfl⟩) (fun hHeld => ?_)
              clear hK K
              try simp only [Act.put, List.getElem_toArray, List.getElem_cons_zero, List.getElem_cons_succ, List.setIfInBounds_toArray, List.set_cons_zero, List.set_cons_succ]
              refine wpAnyH_done (by kernel_rfl) ?_ _
              have HE := hid k3
              have n0 := k3.cell 11 0 rfl rfl
              have n1 := k3.cell 11 1 rfl rfl
              have e0 := k3.cell 10 0 rfl rfl
              have e1 := k3.cell 10 1 rfl rfl
              have f0 := k3.cell 9 0 rfl rfl
              have f1 := k3.cell 9 1 rfl rfl
              clear k1 k2 k3 y0 y1 t0 t1 a0 a1 b0 b1 c0 c1 d0 d1 hHeld
              go_wp2_with fail
              exact bodyPost_ret (v := .tuple #[.agg #[.slice B p cb, .slice E m d], .agg #[.int .i64 sv, .slice A7 T7.length c7], .agg #[.int .i64 tv, .slice A9 T9.length c9]]) (by simp [results, Try.results38, go_sem, n0, n1, e0, e1, f0, f1]) rfl (drJP.mk ⟨⟨_, _, Led.take2 (HE.out.drop 6)⟩, HXL.out, HFL.out, hp, hm, HXS.out⟩ (HE.out.rt 2 rfl (by have := HT10.out; omega)) (HE.out.rt 0 rfl (by have := HT9.out; omega)) HT10.out HT9.out)
            · skip
              have a0 := k1.cell 10 0 rfl rfl
              have a1 := k1.cell 10 1 rfl rfl
              have b0 := k1.frozen 10 0 rfl
              have b1 := k1.frozen 10 1 rfl
              have k2 := (k1.set 10 rfl 0 (.int .i64 sv)).set 10 rfl 1 (.slice A7 T7.length c7)
              refine AllReadyH.cons rfl (fun K hK => ?_) AllReadyH.nil
              go_simp
              go_wp2_with fail
              refine hK.out _ _ (⟨⟨k2.cell 8 0 rfl rfl, k2.cell 8 1 rfl rfl⟩, k2.cell 3 0 rfl rfl, k2.cell 3 1 rfl rfl⟩) (fun hHeld => ?_)
              clear hK K
              try simp only [Act.put, List.getElem_toArray, List.getElem_cons_zero, List.getElem_cons_succ, List.setIfInBounds_toArray, List.set_cons_zero, List.set_cons_succ]
              refine wpAnyH_ready (rs := [14]) (by kernel_rfl) (by simp) ?_
              have tl := (k2.sees (E := elInt) 1 rfl HN8.out.symm).cell HTV.out (j := 0) rfl
              simp only [elInt, Nat.zero_add, Nat.mul_one, Nat.add_zero] at tl
              refine AllReadyH.cons rfl (fun K hK => ?_) AllReadyH.nil
              go_simp
              go_wp2_with fail
              refine hK.out _ _ (⟨⟨k2.cell 8 0 rfl rfl, k2.cell 8 1 rfl rfl⟩, k2.cell 3 0 rfl rfl, k2.cell 3 1 rfl rfl⟩) (fun hHeld => ?_)
              clear hK K
              try simp only [Act.put, List.getElem_toArray, List.getElem_cons_zero, List.getElem_cons_succ, List.setIfInBounds_toArray, List.set_cons_zero, List.set_cons_succ]
              clear tl
              refine wpAnyH_take (i := 20) (oi := _) (v := ?_) rfl (by kernel_rfl) (by kernel_rfl) (by kernel_rfl) (fun _ _ _ h => h) (Or.inl ⟨by rfl, ?_⟩) (by assumption) ?_
              rotate_left
              · intro w hSw; go_simp; with_reducible rfl
              simp only [Act.put, List.getElem_toArray, List.getElem_cons_zero, List.getElem_cons_succ, List.setIfInBounds_toArray, List.set_cons_zero, List.set_cons_succ]
              have c0 := k2.cell 9 0 rfl rfl
              have c1 := k2.cell 9 1 rfl rfl
              have d0 := k2.frozen 9 0 rfl
              have d1 := k2.frozen 9 1 rfl
              have k3 := (k2.set 9 rfl 0 (.int .i64 tv)).set 9 rfl 1 (.slice A9 T9.length c9)
              refine wpAnyH_ready (rs := [23]) (by kernel_rfl) (by simp) ?_
              refine AllReadyH.cons rfl (fun K hK => ?_) AllReadyH.nil
              go_simp
              go_wp2_with fail
              refine hK.out _ _ (⟨⟨k3.cell 8 0 rfl rfl, k3.cell 8 1 rfl rfl⟩, k3.cell 3 0 rfl rfl, k3.cell 3 1 rfl rfl⟩) (fun hHeld => ?_)
              clear hK K
              try simp only [Act.put, List.getElem_toArray, List.getElem_cons_zero, List.getElem_cons_succ, List.setIfInBounds_toArray, List.set_cons_zero, List.set_cons_succ]
              refine wpAnyH_done (by kernel_rfl) ?_ _
              have HE := hid k3
              have n0 := k3.cell 11 0 rfl rfl
              have n1 := k3.cell 11 1 rfl rfl
              have e0 := k3.cell 10 0 rfl rfl
              have e1 := k3.cell 10 1 rfl rfl
              have f0 := k3.cell 9 0 rfl rfl
              have f1 := k3.cell 9 1 rfl rfl
              clear k1 k2 k3 y0 y1 t0 t1 a0 a1 b0 b1 c0 c1 d0 d1 hHeld
              go_wp2_with fail
              exact bodyPost_ret (v := .tuple #[.agg #[.slice B p cb, .slice E m d], .agg #[.int .i64 sv, .slice A7 T7.length c7], .agg #[.int .i64 tv, .slice A9 T9.length c9]]) (by simp [results, Try.results38, go_sem, n0, n1, e0, e1, f0, f1]) rfl (drJP.mk ⟨⟨_, _, Led.take2 (HE.out.drop 6)⟩, HXL.out, HFL.out, hp, hm, HXS.out⟩ (HE.out.rt 2 rfl (by have := HT10.out; omega)) (HE.out.rt 0 rfl (by have := HT9.out; omega)) HT10.out HT9.out)
      · skip
        go_wp2_with fail
        refine wp_region_held_drew (S := fun w' => (w'.cell? ⟨w1.heap.size, 0, none⟩ = some (.slice B p cb) ∧ w'.cell? ⟨w1.heap.size, 1, none⟩ = some (.slice E m d)) ∧ w'.cell? ⟨w2.heap.size, 0, none⟩ = some (.int .i64 sv) ∧ w'.cell? ⟨w2.heap.size, 1, none⟩ = some (.slice V ids.length cV)) (by kernel_rfl) (⟨⟨H4.out.cell 5 0 rfl rfl, H4.out.cell 5 1 rfl rfl⟩, H4.out.cell 0 0 rfl rfl, H4.out.cell 0 1 rfl rfl⟩) (fun hHeld => ?_)
        refine wpAnyH_take (i := 0) (oi := _) (v := ?_) rfl (by kernel_rfl) (by kernel_rfl) (by kernel_rfl) (fun _ _ _ h => h) (Or.inl ⟨by rfl, ?_⟩) (by assumption) ?_
        rotate_left
        · intro w hSw; go_simp; with_reducible rfl
        simp only [Act.put, List.getElem_toArray, List.getElem_cons_zero, List.setIfInBounds_toArray, List.set_cons_zero, List.set_cons_succ]
        refine wpAnyH_take (i := 1) (oi := _) (v := ?_) rfl (by kernel_rfl) (by kernel_rfl) (by kernel_rfl) (fun _ _ _ h => h) (Or.inl ⟨by rfl, ?_⟩) (by assumption) ?_
        rotate_left
        · intro w hSw; go_simp; with_reducible rfl
        simp only [Act.put, List.getElem_toArray, List.getElem_cons_zero, List.getElem_cons_succ, List.setIfInBounds_toArray, List.set_cons_zero, List.set_cons_succ]
        refine wpAnyH_take (i := 2) (oi := _) (v := ?_) rfl (by kernel_rfl) (by kernel_rfl) (by kernel_rfl) (fun _ _ _ h => h) (Or.inl ⟨by rfl, ?_⟩) (by assumption) ?_
        rotate_left
        · intro w hSw; go_simp; with_reducible rfl
        simp only [Act.put, List.getElem_toArray, List.getElem_cons_zero, List.getElem_cons_succ, List.setIfInBounds_toArray, List.set_cons_zero, List.set_cons_succ]
        refine wpAnyH_take (i := 3) (oi := _) (v := ?_) rfl (by kernel_rfl) (by kernel_rfl) (by kernel_rfl) (fun _ _ _ h => h) (Or.inl ⟨by rfl, ?_⟩) (by assumption) ?_
        rotate_left
        · intro w hSw; go_simp; with_reducible rfl
        simp only [Act.put, List.getElem_toArray, List.getElem_cons_zero, List.getElem_cons_succ, List.setIfInBounds_toArray, List.set_cons_zero, List.set_cons_succ]
        refine wpAnyH_ready (rs := [4]) (by kernel_rfl) (by simp) ?_
        refine AllReadyH.cons rfl (fun K hK => ?_) AllReadyH.nil
        have hd := Led.front3 (H4.out.step (Cls.drew _))
        go_simp
        refine (anyRoute_led hd HB.out HBS.out hn (by omega) HXL.out HFL.out hp hm HXS.out).mono ?_
        rintro e w8 ⟨tv, U, cU, jds, rfl, hj6, h8⟩
        go_wp2_with fail
        refine hK.out _ _ (⟨⟨h8.cell 6 0 rfl rfl, h8.cell 6 1 rfl rfl⟩, h8.cell 4 0 rfl rfl, h8.cell 4 1 rfl rfl⟩) (fun hHeld => ?_)
        clear hK K
        try simp only [Act.put, List.getElem_toArray, List.getElem_cons_zero, List.getElem_cons_succ, List.setIfInBounds_toArray, List.set_cons_zero, List.set_cons_succ]
        have y0 := h8.cell 9 0 rfl rfl
        have y1 := h8.cell 9 1 rfl rfl
        have t0 := h8.frozen 9 0 rfl
        have t1 := h8.frozen 9 1 rfl
        have k1 := (h8.set 9 rfl 0 (.slice B p cb)).set 9 rfl 1 (.slice E m d)
        refine wpAnyH_ready (rs := [5]) (by kernel_rfl) (by simp) ?_
        refine AllReadyH.cons rfl (fun K hK => ?_) AllReadyH.nil
        go_simp
        go_wp2_with fail
        refine hK.out _ _ (⟨⟨k1.cell 6 0 rfl rfl, k1.cell 6 1 rfl rfl⟩, k1.cell 4 0 rfl rfl, k1.cell 4 1 rfl rfl⟩) (fun hHeld => ?_)
        clear hK K
        try simp only [Act.put, List.getElem_toArray, List.getElem_cons_zero, List.getElem_cons_succ, List.setIfInBounds_toArray, List.set_cons_zero, List.set_cons_succ]
        have a0 := k1.cell 8 0 rfl rfl
        have a1 := k1.cell 8 1 rfl rfl
        have b0 := k1.frozen 8 0 rfl
        have b1 := k1.frozen 8 1 rfl
        have k2 := (k1.set 8 rfl 0 (.int .i64 sv)).set 8 rfl 1 (.slice V ids.length cV)
        refine wpAnyH_ready (rs := [6]) (by kernel_rfl) (by simp) ?_
        refine AllReadyH.cons rfl (fun K hK => ?_) AllReadyH.nil
        go_simp
        go_wp2_with fail
        refine hK.out _ _ (⟨⟨k2.cell 6 0 rfl rfl, k2.cell 6 1 rfl rfl⟩, k2.cell 4 0 rfl rfl, k2.cell 4 1 rfl rfl⟩) (fun hHeld => ?_)
        clear hK K
        try simp only [Act.put, List.getElem_toArray, List.getElem_cons_zero, List.getElem_cons_succ, List.setIfInBounds_toArray, List.set_cons_zero, List.set_cons_succ]
        have c0 := k2.cell 7 0 rfl rfl
        have c1 := k2.cell 7 1 rfl rfl
        have d0 := k2.frozen 7 0 rfl
        have d1 := k2.frozen 7 1 rfl
        have k3 := (k2.set 7 rfl 0 (.int .i64 tv)).set 7 rfl 1 (.slice U jds.length cU)
        refine wpAnyH_ready (rs := [7]) (by kernel_rfl) (by simp) ?_
        refine AllReadyH.cons rfl (fun K hK => ?_) AllReadyH.nil
        go_simp
        go_wp2_with fail
        refine hK.out _ _ (⟨⟨k3.cell 6 0 rfl rfl, k3.cell 6 1 rfl rfl⟩, k3.cell 4 0 rfl rfl, k3.cell 4 1 rfl rfl⟩) (fun hHeld => ?_)
        clear hK K
        try simp only [Act.put, List.getElem_toArray, List.getElem_cons_zero, List.getElem_cons_succ, List.setIfInBounds_toArray, List.set_cons_zero, List.set_cons_succ]
        refine wpAnyH_done (by kernel_rfl) ?_ _
        have HE := hid k3
        have n0 := k3.cell 9 0 rfl rfl
        have n1 := k3.cell 9 1 rfl rfl
        have e0 := k3.cell 8 0 rfl rfl
        have e1 := k3.cell 8 1 rfl rfl
        have f0 := k3.cell 7 0 rfl rfl
        have f1 := k3.cell 7 1 rfl rfl
        clear k1 k2 k3 y0 y1 t0 t1 a0 a1 b0 b1 c0 c1 d0 d1 hHeld
        go_wp2_with fail
        exact bodyPost_ret (v := .tuple #[.agg #[.slice B p cb, .slice E m d], .agg #[.int .i64 sv, .slice V ids.length cV], .agg #[.int .i64 tv, .slice U jds.length cU]]) (by simp [results, Try.results38, go_sem, n0, n1, e0, e1, f0, f1]) rfl (drJP.mk ⟨⟨_, _, Led.take2 (HE.out.drop 2)⟩, HXL.out, HFL.out, hp, hm, HXS.out⟩ (HE.out.rt 5 rfl (by omega)) (HE.out.rt 0 rfl (by omega)) (by omega) (by omega))
  · skip
    go_wp2_with fail
    refine wp_region_held_drew (S := fun w' => (w'.cell? ⟨w1.heap.size, 0, none⟩ = some (.slice B p cb) ∧ w'.cell? ⟨w1.heap.size, 1, none⟩ = some (.slice E m d)) ∧ w'.cell? ⟨w2.heap.size, 0, none⟩ = some (.int .i64 sv) ∧ w'.cell? ⟨w2.heap.size, 1, none⟩ = some (.slice V ids.length cV)) (by kernel_rfl) (⟨⟨H2.out.cell 5 0 rfl rfl, H2.out.cell 5 1 rfl rfl⟩, H2.out.cell 0 0 rfl rfl, H2.out.cell 0 1 rfl rfl⟩) (fun hHeld => ?_)
    refine wpAnyH_take (i := 0) (oi := _) (v := ?_) rfl (by kernel_rfl) (by kernel_rfl) (by kernel_rfl) (fun _ _ _ h => h) (Or.inl ⟨by rfl, ?_⟩) (by assumption) ?_
    rotate_left
    · intro w hSw; go_simp; with_reducible rfl
    simp only [Act.put, List.getElem_toArray, List.getElem_cons_zero, List.setIfInBounds_toArray, List.set_cons_zero, List.set_cons_succ]
    refine wpAnyH_take (i := 1) (oi := _) (v := ?_) rfl (by kernel_rfl) (by kernel_rfl) (by kernel_rfl) (fun _ _ _ h => h) (Or.inl ⟨by rfl, ?_⟩) (by assumption) ?_
    rotate_left
    · intro w hSw; go_simp; with_reducible rfl
    simp only [Act.put, List.getElem_toArray, List.getElem_cons_zero, List.getElem_cons_succ, List.setIfInBounds_toArray, List.set_cons_zero, List.set_cons_succ]
    refine wpAnyH_take (i := 2) (oi := _) (v := ?_) rfl (by kernel_rfl) (by kernel_rfl) (by kernel_rfl) (fun _ _ _ h => h) (Or.inl ⟨by rfl, ?_⟩) (by assumption) ?_
    rotate_left
    · intro w hSw; go_simp; with_reducible rfl
    simp only [Act.put, List.getElem_toArray, List.getElem_cons_zero, List.getElem_cons_succ, List.setIfInBounds_toArray, List.set_cons_zero, List.set_cons_succ]
    refine wpAnyH_take (i := 3) (oi := _) (v := ?_) rfl (by kernel_rfl) (by kernel_rfl) (by kernel_rfl) (fun _ _ _ h => h) (Or.inl ⟨by rfl, ?_⟩) (by assumption) ?_
    rotate_left
    · intro w hSw; go_simp; with_reducible rfl
    simp only [Act.put, List.getElem_toArray, List.getElem_cons_zero, List.getElem_cons_succ, List.setIfInBounds_toArray, List.set_cons_zero, List.set_cons_succ]
    refine wpAnyH_ready (rs := [4]) (by kernel_rfl) (by simp) ?_
    refine AllReadyH.cons rfl (fun K hK => ?_) AllReadyH.nil
    have hd := Led.front3 (H2.out.step (Cls.drew _))
    go_simp
    refine (anyRoute_led hd HB.out HBS.out hn (by omega) HXL.out HFL.out hp hm HXS.out).mono ?_
    rintro e w8 ⟨tv, U, cU, jds, rfl, hj6, h8⟩
    go_wp2_with fail
    refine hK.out _ _ (⟨⟨h8.cell 6 0 rfl rfl, h8.cell 6 1 rfl rfl⟩, h8.cell 4 0 rfl rfl, h8.cell 4 1 rfl rfl⟩) (fun hHeld => ?_)
    clear hK K
    try simp only [Act.put, List.getElem_toArray, List.getElem_cons_zero, List.getElem_cons_succ, List.setIfInBounds_toArray, List.set_cons_zero, List.set_cons_succ]
    have y0 := h8.cell 9 0 rfl rfl
    have y1 := h8.cell 9 1 rfl rfl
    have t0 := h8.frozen 9 0 rfl
    have t1 := h8.frozen 9 1 rfl
    have k1 := (h8.set 9 rfl 0 (.slice B p cb)).set 9 rfl 1 (.slice E m d)
    refine wpAnyH_ready (rs := [5]) (by kernel_rfl) (by simp) ?_
    refine AllReadyH.cons rfl (fun K hK => ?_) AllReadyH.nil
    go_simp
    go_wp2_with fail
    refine hK.out _ _ (⟨⟨k1.cell 6 0 rfl rfl, k1.cell 6 1 rfl rfl⟩, k1.cell 4 0 rfl rfl, k1.cell 4 1 rfl rfl⟩) (fun hHeld => ?_)
    clear hK K
    try simp only [Act.put, List.getElem_toArray, List.getElem_cons_zero, List.getElem_cons_succ, List.setIfInBounds_toArray, List.set_cons_zero, List.set_cons_succ]
    have a0 := k1.cell 8 0 rfl rfl
    have a1 := k1.cell 8 1 rfl rfl
    have b0 := k1.frozen 8 0 rfl
    have b1 := k1.frozen 8 1 rfl
    have k2 := (k1.set 8 rfl 0 (.int .i64 sv)).set 8 rfl 1 (.slice V ids.length cV)
    refine wpAnyH_ready (rs := [6]) (by kernel_rfl) (by simp) ?_
    refine AllReadyH.cons rfl (fun K hK => ?_) AllReadyH.nil
    go_simp
    go_wp2_with fail
    refine hK.out _ _ (⟨⟨k2.cell 6 0 rfl rfl, k2.cell 6 1 rfl rfl⟩, k2.cell 4 0 rfl rfl, k2.cell 4 1 rfl rfl⟩) (fun hHeld => ?_)
    clear hK K
    try simp only [Act.put, List.getElem_toArray, List.getElem_cons_zero, List.getElem_cons_succ, List.setIfInBounds_toArray, List.set_cons_zero, List.set_cons_succ]
    have c0 := k2.cell 7 0 rfl rfl
    have c1 := k2.cell 7 1 rfl rfl
    have d0 := k2.frozen 7 0 rfl
    have d1 := k2.frozen 7 1 rfl
    have k3 := (k2.set 7 rfl 0 (.int .i64 tv)).set 7 rfl 1 (.slice U jds.length cU)
    refine wpAnyH_ready (rs := [7]) (by kernel_rfl) (by simp) ?_
    refine AllReadyH.cons rfl (fun K hK => ?_) AllReadyH.nil
    go_simp
    go_wp2_with fail
    refine hK.out _ _ (⟨⟨k3.cell 6 0 rfl rfl, k3.cell 6 1 rfl rfl⟩, k3.cell 4 0 rfl rfl, k3.cell 4 1 rfl rfl⟩) (fun hHeld => ?_)
    clear hK K
    try simp only [Act.put, List.getElem_toArray, List.getElem_cons_zero, List.getElem_cons_succ, List.setIfInBounds_toArray, List.set_cons_zero, List.set_cons_succ]
    refine wpAnyH_done (by kernel_rfl) ?_ _
    have HE := hid k3
    have n0 := k3.cell 9 0 rfl rfl
    have n1 := k3.cell 9 1 rfl rfl
    have e0 := k3.cell 8 0 rfl rfl
    have e1 := k3.cell 8 1 rfl rfl
    have f0 := k3.cell 7 0 rfl rfl
    have f1 := k3.cell 7 1 rfl rfl
    clear k1 k2 k3 y0 y1 t0 t1 a0 a1 b0 b1 c0 c1 d0 d1 hHeld
    go_wp2_with fail
    exact bodyPost_ret (v := .tuple #[.agg #[.slice B p cb, .slice E m d], .agg #[.int .i64 sv, .slice V ids.length cV], .agg #[.int .i64 tv, .slice U jds.length cU]]) (by simp [results, Try.results38, go_sem, n0, n1, e0, e1, f0, f1]) rfl (drJP.mk ⟨⟨_, _, Led.take2 (HE.out.drop 2)⟩, HXL.out, HFL.out, hp, hm, HXS.out⟩ (HE.out.rt 5 rfl (by omega)) (HE.out.rt 0 rfl (by omega)) (by omega) (by omega))
end
end Go.Proofs.Ytfepilpllfiegaa
