/- Lemmas and walks that the claim rests on, laid together. Conditions: none. -/
import Derived.Test.YtfepilpllfiegaaZb4d071b45ceb
import Derived.Test.YtfepilpllfiegaaZ50d3726ca9e1
import Derived.Test.YtfepilpllfiegaaZc3e33f13110d
import Derived.Laws.EntriesVeiled
import Derived.Test.YtfepilpllfiegaaZ59235fce2b6e
import Derived.Test.YtfepilpllfiegaaZ02c91a162493
import Derived.Test.YtfepilpllfiegaaZ6c5e5cbe63bf
import Derived.Test.YtfepilpllfiegaaZca6a11a8a0df
import Derived.Test.YtfepilpllfiegaaZ76d53a57e3da
/- routesBetween, walked: all routes, sorted. Conditions: none. -/
namespace Go.Proofs.Ytfepilpllfiegaa
open Go.RowKit
/-- All routes from s to another node. -/
def rbL (fs : List Fib) (n s to : Nat) : List (List Int) := if s = to then [] else rtsL fs to n s [s] []
theorem Led.emptyRS {w0 w : World} {L : List Thing} (h : Led w0 w L) (g : Nat) (hg : g = w.heap.size) (b0 : Nat) (h0 : b0 ≤ g) : Led w0 (w.alloc (.cells #[] 35)) (tRS b0 (.slice (some ⟨g, 0, none⟩) 0 0) [] [] :: L) := by
  subst hg
  have ho : Owns elRt (w.alloc (.cells #[] 35)) w.heap.size 35 (.slice (some ⟨w.heap.size, 0, none⟩) 0 0) [] := Owns.of_blk (n := 0) (cap := 0) (cur := #[]) (Blk.new w 35 #[]) (Nat.le_refl _) rfl (Nat.le_refl _) (by simp) (by decide) (Filled.zero _ _ _)
  have hO : OwnsRS (w.alloc (.cells #[] 35)) w.heap.size (.slice (some ⟨w.heap.size, 0, none⟩) 0 0) [] [] := ⟨ho, rfl, fun i s r h1 => by simp at h1, fun i j s t g _ h1 => by simp at h1⟩
  exact h.put (bl_alloc (Below.refl _ _) _) (tRS b0 _ [] []) (fun _ e => (hO.lies e).1) (hO.base_ h0)
section
variable {n c m d : Nat} {A A' : Option Addr} {xs : List ByteArray} {fs : List Fib}
theorem rbL_ok {s to : Nat} : ∀ r ∈ rbL fs n s to, r.length ≤ n ∧ ∀ x ∈ r, 0 ≤ x ∧ x < fs.length := by
  intro r hr
  unfold rbL at hr
  split at hr
  · cases hr
  · obtain ⟨e, he, h1, h2⟩ := rtsL_mem _ _ _ _ r hr
    rw [List.nil_append] at he
    subst he
    exact ⟨by omega, h2⟩
theorem rbL_len {s to : Nat} (hn : n ≤ 8) (hm : fs.length ≤ 14) : (rbL fs n s to).length ≤ 2562890625 := by
  unfold rbL
  split
  · exact Nat.zero_le _
  · refine Nat.le_trans (rtsL_len _ _ _ _) ?_
    have h1 : (fs.length + 1) ^ n ≤ 15 ^ n := Nat.pow_le_pow_left (by omega) _
    have h2 : 15 ^ n ≤ 15 ^ 8 := Nat.pow_le_pow_right (by decide) hn
    exact Nat.le_trans h1 (Nat.le_trans h2 (by decide))
set_option maxHeartbeats 4000000 in
set_option maxRecDepth 100000 in
theorem routesBetween_any (w : World) (h : NetIs w A n c A' m d xs fs) (g : goodB xs fs = true) (s to : Nat) (hs : s < n) (_ht : to < n) :
    Calls Try.prog 57 #[.agg #[.slice A n c, .slice A' m d], .int .i64 (s : Int), .int .i64 (to : Int)] w fun e w' => ∃ v ss rows, e = .returned v ∧ rows.Perm ((rbL fs n s to).map fun r => ((s : Int), r)) ∧ rows.Pairwise (fun a b => leR fs (s : Int) a.2 b.2) ∧ OwnsRS w' w.heap.size v ss rows ∧ Below w.heap.size w w' := by
  obtain ⟨he, hn0, hn8, hm14⟩ := good_parts h g
  obtain ⟨w0, hw0⟩ : ∃ w0, w0 = ((w.alloc (.cells #[.slice A n c, .slice A' m d] 27)).alloc (.cells #[.int .i64 (s : Int)] 3)).alloc (.cells #[.int .i64 (to : Int)] 3) := ⟨_, rfl⟩
  have hb0 : Below w.heap.size w w0 := by rw [hw0]; exact bl_alloc (bl_alloc (bl_alloc (Below.refl _ _) _) _) _
  have hsz : w0.heap.size = w.heap.size + 1 + 1 + 1 := by rw [hw0]; simp
  have kN : Blk w0 w.heap.size 27 #[.slice A n c, .slice A' m d] := by rw [hw0]; exact ((Blk.new w _ _).alloc _).alloc _
  have kF : Blk w0 (w.heap.size + 1) 3 #[.int .i64 (s : Int)] := by
    rw [hw0]
    have h1 : Blk ((w.alloc (.cells #[.slice A n c, .slice A' m d] 27)).alloc (.cells #[.int .i64 (s : Int)] 3)) (w.alloc (.cells #[.slice A n c, .slice A' m d] 27)).heap.size 3 #[.int .i64 (s : Int)] := Blk.new _ _ _
    have h2 := h1.alloc (.cells #[.int .i64 (to : Int)] 3)
    simpa using h2
  have kT : Blk w0 (w.heap.size + 1 + 1) 3 #[.int .i64 (to : Int)] := by
    rw [hw0]
    have h1 : Blk (((w.alloc (.cells #[.slice A n c, .slice A' m d] 27)).alloc (.cells #[.int .i64 (s : Int)] 3)).alloc (.cells #[.int .i64 (to : Int)] 3)) ((w.alloc (.cells #[.slice A n c, .slice A' m d] 27)).alloc (.cells #[.int .i64 (s : Int)] 3)).heap.size 3 #[.int .i64 (to : Int)] := Blk.new _ _ _
    simpa using h1
  have hn : NetIs w0 A n c A' m d xs fs := h.grow hb0
  have hL0 := (((Led.nil w0).emptyRS w0.heap.size rfl w0.heap.size (Nat.le_refl _)).blk_ (w0.heap.size + 1) (by simp) 30 #[.slice (some ⟨w0.heap.size, 0, none⟩) 0 0]).blk_ (w0.heap.size + 1 + 1) (by simp) 127 #[.func (.func 122) #[] (capE (w.heap.size + 1 + 1) (w0.heap.size + 1) (w.heap.size + 1) w.heap.size (w0.heap.size + 1 + 1))]
  have hL1 : Led w0 _ (exT w0.heap.size (.slice (some ⟨w0.heap.size, 0, none⟩) 0 0) [] [] (w.heap.size + 1 + 1) (w0.heap.size + 1) (w.heap.size + 1) w.heap.size (w0.heap.size + 1 + 1) w0.heap.size none 0 [] []) := (hL0.nilS elInt 3 w0.heap.size).pick [3, 2, 1, 0] (by decide) rfl
  clear hL0
  rw [hsz] at hL1
  have HL1 : Hid (Led w0 ((((((w.alloc (.cells #[.slice A n c, .slice A' m d] 27)).alloc (.cells #[.int .i64 (s : Int)] 3)).alloc (.cells #[.int .i64 (to : Int)] 3)).alloc (.cells #[] 35)).alloc (.cells #[.slice (some ⟨w.heap.size + 1 + 1 + 1, 0, none⟩) 0 0] 30)).alloc (.cells #[.func (.func 122) #[] #[.pointer (some ⟨w.heap.size + 1 + 1, 0, none⟩), .pointer (some ⟨w.heap.size + 1 + 1 + 1 + 1, 0, none⟩), .pointer (some ⟨w.heap.size + 1, 0, none⟩), .pointer (some ⟨w.heap.size, 0, none⟩), .pointer (some ⟨w.heap.size + 1 + 1 + 1 + 1 + 1, 0, none⟩)]] 127)) (exT w0.heap.size (.slice (some ⟨w.heap.size + 1 + 1 + 1, 0, none⟩) 0 0) [] [] (w.heap.size + 1 + 1) (w.heap.size + 1 + 1 + 1 + 1) (w.heap.size + 1) w.heap.size (w.heap.size + 1 + 1 + 1 + 1 + 1) w0.heap.size none 0 [] [])) := by
    have h1 := hL1
    rw [← hw0, hsz]
    exact h1
  have HN := hid hn
  have HKN := hid kN
  have HKF := hid kF
  have HKT := hid kT
  have HSZ := hid hsz
  have HB0 := hid hb0
  clear hL1 hn kN kF kT hsz hb0 hw0 h he
  by_cases hst : s = to
  · have hst1 : ((s : Int) != (to : Int)) = false := by rw [hst]; simp
    have HR : Hid (rbL fs n s to = []) := by unfold Hid rbL; rw [if_pos hst]
    clear hst
    go_enter Try.func57, Try.ntmps57
    have hl1 := HL1.out
    have hsort := sortRoutes_led (s := (s : Int)) (xs := xs) (fs := fs) hl1 0 rfl (HKN.out.below hl1.bl HKN.out.lt) (fun g' hg' e => by
      have h1 := (hl1.all 0 _ rfl).2 g' (.inl hg')
      have h2 := HSZ.out
      omega) HN.out (goodB_lens g) (fun r hr => by cases hr) (by decide)
    have q0 := hl1.cell 1 0 rfl rfl
    have HSORT := hid hsort
    clear hl1 hsort
    unfold capE at HSORT q0
    go_wp2_with fail
    refine Calls.mono HSORT.out ?_
    rintro e5 w5 ⟨rfl, ss5, rows5, hp5, hs5, hl5⟩
    have H5 := hid hl5
    have q1 := hl5.cell 1 0 rfl rfl
    have HP5 := hid hp5
    have HS5 := hid hs5
    clear hl5 HSORT q0 hp5 hs5
    go_wp2_with fail
    go_ret
    refine ⟨_, ss5, rows5, rfl, ?_, HS5.out, ?_, HB0.out.trans (H5.out.bl.mono HB0.out.size)⟩
    · rw [HR.out]; exact HP5.out
    · exact (show OwnsRS w5 w0.heap.size _ ss5 rows5 from H5.out.get 0 rfl).base_ HB0.out.size
  · have hst1 : ((s : Int) != (to : Int)) = true := by rw [bne_iff_ne]; omega
    have HR : Hid (rbL fs n s to = rtsL fs to n s [s] []) := by unfold Hid rbL; rw [if_neg hst]
    go_enter Try.func57, Try.ntmps57
    go_wp2_with fail
    generalize ((((((w.alloc (.cells #[.slice A n c, .slice A' m d] 27)).alloc (.cells #[.int .i64 (s : Int)] 3)).alloc (.cells #[.int .i64 (to : Int)] 3)).alloc (.cells #[] 35)).alloc (.cells #[.slice (some ⟨w.heap.size + 1 + 1 + 1, 0, none⟩) 0 0] 30)).alloc (.cells #[.func (.func 122) #[] #[.pointer (some ⟨w.heap.size + 1 + 1, 0, none⟩), .pointer (some ⟨w.heap.size + 1 + 1 + 1 + 1, 0, none⟩), .pointer (some ⟨w.heap.size + 1, 0, none⟩), .pointer (some ⟨w.heap.size, 0, none⟩), .pointer (some ⟨w.heap.size + 1 + 1 + 1 + 1 + 1, 0, none⟩)]] 127)) = W1 at HL1 ⊢
    have E0 : ∀ w', exS w0 (w.heap.size + 1 + 1) (w.heap.size + 1 + 1 + 1 + 1) (w.heap.size + 1) w.heap.size (w.heap.size + 1 + 1 + 1 + 1 + 1) w' → w'.cell? ⟨w.heap.size + 1 + 1 + 1 + 1 + 1, 0, none⟩ = some (.func (.func 122) #[] #[.pointer (some ⟨w.heap.size + 1 + 1, 0, none⟩), .pointer (some ⟨w.heap.size + 1 + 1 + 1 + 1, 0, none⟩), .pointer (some ⟨w.heap.size + 1, 0, none⟩), .pointer (some ⟨w.heap.size, 0, none⟩), .pointer (some ⟨w.heap.size + 1 + 1 + 1 + 1 + 1, 0, none⟩)]) := fun _ h => Led.cell h 0 0 rfl rfl
    have E1 : ∀ w', exS w0 (w.heap.size + 1 + 1) (w.heap.size + 1 + 1 + 1 + 1) (w.heap.size + 1) w.heap.size (w.heap.size + 1 + 1 + 1 + 1 + 1) w' → w'.cell? ⟨w.heap.size + 1, 0, none⟩ = some (.int .i64 (s : Int)) := fun _ h => bl_cell (Led.bl h) (by rw [HKF.out.cell]; rfl)
    have hpos : (2 : Nat) ^ s < 2 ^ 20 := Nat.pow_lt_pow_right (by decide) (by omega)
    have hw : IntKind.i64.wrap ((2 : Int) ^ s) = ((2 ^ s : Nat) : Int) := by
      have e : ((2 : Int) ^ s) = ((2 ^ s : Nat) : Int) := by simp
      rw [e]
      have h62 : 2 ^ s < 4611686018427387904 := Nat.lt_trans hpos (by decide)
      generalize 2 ^ s = y at *
      exact IntWalk.i64_in _ (by omega)
    have HW := hid hw
    have hS0 : exS w0 (w.heap.size + 1 + 1) (w.heap.size + 1 + 1 + 1 + 1) (w.heap.size + 1) w.heap.size (w.heap.size + 1 + 1 + 1 + 1 + 1) W1.drew := exS_of (HL1.out.step (Cls.drew W1))
    have HCALL := hid (ext_any HN.out g (by rw [HKT.out.cell]; rfl) (by rw [HKF.out.cell]; rfl) (by rw [HKN.out.cell]; rfl) (by rw [HKN.out.cell]; rfl) (gt := w.heap.size + 1 + 1) (gf := w.heap.size + 1) (gn := w.heap.size) (to := to) (s := s) n s (2 ^ s) [s] [] _ _ _ _ none 0 _ W1.drew (by simp) (fun u hu => by rw [List.mem_singleton.1 hu]; exact hs) (by simp; omega) hs hpos (fun u hu => by rw [Nat.testBit_two_pow, decide_eq_true_eq, List.mem_singleton]; exact eq_comm) (by
      have := rbL_len (fs := fs) (n := n) (s := s) (to := to) hn8 (by have := HN.out.flen; omega)
      rw [HR.out] at this
      simp; omega) rfl (Nat.le_refl _) (HL1.out.step (Cls.drew W1)))
    rw [← HW.out] at HCALL
    unfold capE at HCALL
    clear hpos hw
    have iu : IntKind.u64.wrap (s : Int) = (s : Int) := by rw [IntKind.wrap_u64]; omega
    have imn : min s 64 = s := by omega
    go_region_held3 (fun w' => exS w0 (w.heap.size + 1 + 1) (w.heap.size + 1 + 1 + 1 + 1) (w.heap.size + 1) w.heap.size (w.heap.size + 1 + 1 + 1 + 1 + 1) w') (first | exact hS0 | assumption)
      (first
        | (go_at_call 122; refine HCALL.out.mono ?_; rintro e4 w4 ⟨rfl, V4, ss4, h4⟩; have hS4 := exS_of h4))
    rw [List.nil_append] at h4
    have HLEN : Hid (ss4.length ≤ 1099511627776) := by
      have h1 := (show OwnsRS w4 w0.heap.size V4 ss4 _ from h4.get 0 rfl).2.1
      have := rbL_len (fs := fs) (n := n) (s := s) (to := to) hn8 (by have := HN.out.flen; omega)
      rw [HR.out] at this
      rw [List.length_map] at h1
      refine hid ?_
      omega
    have HOK : Hid (∀ r ∈ (rtsL fs to n s [s] []).map (fun r => ((s : Int), r)), r.1 = (s : Int) ∧ r.2.length ≤ 1048576 ∧ ∀ x ∈ r.2, 0 ≤ x ∧ x < fs.length) := fun r hr => by
      obtain ⟨q, hq, rfl⟩ := List.mem_map.1 hr
      have := rbL_ok (n := n) (fs := fs) (s := s) (to := to) q (by rw [HR.out]; exact hq)
      exact ⟨rfl, by simp only; omega, this.2⟩
    have H4 := hid h4
    clear h4 hS4 hS0 HCALL E0 E1
    have hl1 := H4.out
    obtain ⟨A4, c4, hv4, _⟩ := (show OwnsRS w4 w0.heap.size _ _ _ from hl1.get 0 rfl).1.form
    subst hv4
    have q0 := hl1.cell 1 0 rfl rfl
    have hsort := sortRoutes_led (s := (s : Int)) hl1 0 rfl (HKN.out.below hl1.bl HKN.out.lt) (fun g' hg' e => by
      have h1 := (hl1.all 0 _ rfl).2 g' (.inl hg')
      have h2 := HSZ.out
      omega) HN.out (goodB_lens g) HOK.out HLEN.out
    have HSORT := hid hsort
    have HBL := hid hl1.bl
    clear hl1 hsort
    go_wp2_with fail
    refine HSORT.out.mono ?_
    rintro e5 w5 ⟨rfl, ss5, rows5, hp5, hs5, hl5⟩
    have H5 := hid hl5
    have q1 := hl5.cell 1 0 rfl rfl
    have HP5 := hid hp5
    have HS5 := hid hs5
    clear hl5 HSORT q0 hp5 hs5
    go_wp2_with fail
    go_ret
    refine ⟨_, ss5, rows5, rfl, ?_, HS5.out, ?_, HB0.out.trans (H5.out.bl.mono HB0.out.size)⟩
    · rw [HR.out]; exact HP5.out
    · exact (show OwnsRS w5 w0.heap.size _ ss5 rows5 from H5.out.get 0 rfl).base_ HB0.out.size
end
end Go.Proofs.Ytfepilpllfiegaa
/- What the search finds are routes, in plain Lean. Conditions: as each states. -/
namespace Go.Proofs.Ytfepilpllfiegaa
open Go.RowKit
section
variable {fs : List Fib} {s : Int} {n : Nat}
theorem atW_app (a b : List Int) : ∀ k, k ≤ a.length → atW fs s (a ++ b) k = atW fs s a k := by
  intro k
  induction k with
  | zero => intro _; rfl
  | succ k ih =>
    intro h
    have e : (a ++ b).getD k 0 = a.getD k 0 := by rw [List.getD_eq_getElem?_getD, List.getD_eq_getElem?_getD, List.getElem?_append_left (by omega)]
    unfold atW
    rw [ih (by omega), e]
theorem outW_app (a b : List Int) {k : Nat} (h : k ≤ a.length) : outW fs s (a ++ b) k = outW fs s a k := by
  unfold outW
  refine List.map_congr_left fun j hj => atW_app a b j ?_
  have := List.mem_range.1 hj
  omega
theorem okW_app {m : Nat} (a b : List Int) {k : Nat} (h : k < a.length) : okW m fs s (a ++ b) k = okW m fs s a k := by
  have e : (a ++ b).getD k 0 = a.getD k 0 := by rw [List.getD_eq_getElem?_getD, List.getD_eq_getElem?_getD, List.getElem?_append_left (by omega)]
  unfold okW
  rw [e, atW_app a b (k + 1) h, outW_app a b (Nat.le_of_lt h)]
theorem nxF_inv {i v u : Nat} (h : nxF fs i v = some u) : otherF (fibD fs i) (v : Int) = (u : Int) := by
  unfold nxF at h
  split at h
  · rename_i h0
    injection h with h
    omega
  · cases h
theorem rts_ok {to : Nat} : ∀ (k v : Nat) (seen : List Nat) (ids : List Int), outW fs s ids ids.length = seenI seen → seen.head? = some v → allTo (okW fs.length fs s ids) ids.length →
    ∀ r ∈ rtsL fs to k v seen ids, allTo (okW fs.length fs s r) r.length ∧ (v ≠ to → ids.length < r.length) ∧ atW fs s r r.length = (to : Int) := by
  intro k
  induction k with
  | zero => intro v seen ids _ _ _ r hr; cases hr
  | succ k ih =>
    intro v seen ids ho hh ha r hr
    have hv : atW fs s ids ids.length = (v : Int) := by
      have h1 := outW_get fs s ids ids.length
      obtain ⟨tl, rfl⟩ : ∃ tl, seen = v :: tl := by
        cases seen with
        | nil => cases hh
        | cons a tl => injection hh with hh; subst hh; exact ⟨tl, rfl⟩
      have hl := congrArg List.length ho
      rw [outW_len, seenI_len, List.length_cons] at hl
      rw [ho, seenI_cons, List.getElem?_append_right (by rw [seenI_len]; omega), seenI_len, show ids.length - tl.length = 0 by omega] at h1
      simp at h1
      exact h1.symm
    by_cases hvt : v = to
    · subst hvt
      rw [rtsL_end, List.mem_singleton] at hr
      subst hr
      exact ⟨ha, fun h => absurd rfl h, hv⟩
    · rw [rtsL_on hvt] at hr
      unfold rtsJ at hr
      obtain ⟨i, hi, hr⟩ := List.mem_flatMap.1 hr
      have hi2 : i < fs.length := by simpa using hi
      unfold rtsI at hr
      split at hr
      · rename_i u hu
        split at hr
        · cases hr
        · rename_i hns
          have hou := nxF_inv hu
          have hlen : (ids ++ [(i : Int)]).length = ids.length + 1 := by simp
          have hget : (ids ++ [(i : Int)]).getD ids.length 0 = (i : Int) := by rw [List.getD_eq_getElem?_getD]; simp
          have hat : atW fs s (ids ++ [(i : Int)]) (ids.length + 1) = (u : Int) := by
            unfold atW
            rw [hget, atW_app _ _ _ (Nat.le_refl _), hv]
            exact hou
          have hol := outW_app (fs := fs) (s := s) ids [(i : Int)] (Nat.le_refl _)
          have h1 := ih u (u :: seen) (ids ++ [(i : Int)]) (by rw [hlen, outW_succ, hol, ho, hat, seenI_cons]) rfl (by
            rw [hlen]
            refine allTo_succ (fun j hj => ?_) ?_
            · rw [okW_app _ _ hj]; exact ha j hj
            · unfold okW
              rw [hget, hat, hol, ho]
              have h2 : hasB (seenI seen) (u : Int) = false := Bool.eq_false_iff.2 (fun h => hns (seenI_mem.1 (hasB_iff.1 h)))
              rw [h2]
              unfold inB
              simp
              omega) r hr
          refine ⟨h1.1, fun _ => ?_, h1.2.2⟩
          obtain ⟨e, he, _⟩ := rtsL_mem _ _ _ _ r hr
          rw [he, List.length_append, hlen]; omega
      · cases hr
theorem rbL_rt {s to : Nat} (hs : s < n) {r : List Int} (h : r ∈ rbL fs n s to) : rtB n fs (s : Int) r = true ∧ atW fs (s : Int) r r.length = (to : Int) := by
  unfold rbL at h
  split at h
  · cases h
  · rename_i hne
    obtain ⟨h1, h2, h3⟩ := rts_ok (s := (s : Int)) n s [s] [] rfl rfl (allTo_zero _) r h
    have h2 := h2 hne
    refine ⟨?_, h3⟩
    unfold rtB
    rw [allB_iff.2 h1]
    unfold inB
    have : (r.length == 0) = false := by rw [beq_eq_false_iff_ne]; simp at h2; omega
    rw [this]
    simp
    omega
end
end Go.Proofs.Ytfepilpllfiegaa
/- The best route, by a search that leaves out what cannot be better, in plain Lean: it is the best of all routes. Conditions: as each states. -/
namespace Go.Proofs.Ytfepilpllfiegaa
open Go.RowKit
/-- The route found; its start. -/
def frL (o : Option (List Int)) : List Int := o.getD []
def frS (o : Option (List Int)) (s : Int) : Int := if o.isSome then s else 0
def nxQ (q : Nat → Bool) (fs : List Fib) (i v : Nat) : Option Nat := if q i then none else nxF fs i v
/-- All routes on from v that use no fiber of q. -/
def rtsQ (q : Nat → Bool) (fs : List Fib) (to k v : Nat) (seen : List Nat) (ids : List Int) : List (List Int) := dfsL fs.length to (nxQ q fs) k v seen ids
/-- Is r better than what was found? -/
def btR (few : Bool) (fs : List Fib) (s : Int) : Option (List Int) → List Int → Bool
  | none, _ => true
  | some b, r => if few && !(r.length == b.length) then decide (r.length < b.length) else decide (ordR fs s r s b < 0)
/-- Nothing from v on can be better. -/
def cutR (few : Bool) (fs : List Fib) (D : List Int) (v : Nat) (ids : List Int) : Option (List Int) → Bool
  | none => decide (valL D v < 0)
  | some b => (decide (valL D v < 0) || (!few && decide (lenR fs b < lenR fs ids + valL D v))) || (few && decide (b.length ≤ ids.length))
def bst (few : Bool) (fs : List Fib) (s : Int) (o : Option (List Int)) (r : List Int) : Option (List Int) := if btR few fs s o r then some r else o
def bbL (q : Nat → Bool) (few : Bool) (fs : List Fib) (s : Int) (D : List Int) (to : Nat) : Nat → Nat → List Nat → List Int → Option (List Int) → Option (List Int)
  | 0, _, _, _, o => o
  | k + 1, v, seen, ids, o => if v = to then bst few fs s o ids else if cutR few fs D v ids o then o else (List.range fs.length).foldl (fun o i => match nxQ q fs i v with
    | some u => if u ∈ seen then o else bbL q few fs s D to k u (u :: seen) (ids ++ [(i : Int)]) o
    | none => o) o
section
variable {q : Nat → Bool} {few : Bool} {fs : List Fib} {n to : Nat} {s : Int}
theorem lenR_sum (ids : List Int) : lenR fs ids = (ids.map fun i => (fs.getD i.toNat ⟨0, 0, 0, 0⟩).len).sum := by unfold lenR rlTo; rw [List.take_length]
theorem lenR_app (a b : List Int) : lenR fs (a ++ b) = lenR fs a + lenR fs b := by rw [lenR_sum, lenR_sum, lenR_sum, List.map_append, List.sum_append]
theorem lenR_one (i : Nat) : lenR fs [(i : Int)] = (fibD fs i).len := by rw [lenR_sum]; simp [fibD]
theorem dist_src (he : endsB n fs) (hl : lensB fs) (hs : to < n) : 0 ≤ valL (distL q fs n to) to ∧ valL (distL q fs n to) to ≤ 0 := by
  have key : ∀ k, better (valL (dstRnd q fs n to k) to) (valL (dst0 n to) to) := by
    intro k
    induction k with
    | zero => exact better_refl _
    | succ k ih => exact better_trans (dstPass_better (dstRnd_len k) he hl to) ih
  have h := key n
  rw [dst0_val hs to hs, if_pos rfl] at h
  unfold better at h
  unfold distL
  omega
theorem dist_arc (he : endsB n fs) (hl : lensB fs) (hs : to < n) {i u v : Nat} (hi : i < fs.length) (hq : q i = false) (h : nxF fs i v = some u) (hu : 0 ≤ valL (distL q fs n to) u) :
    0 ≤ valL (distL q fs n to) v ∧ valL (distL q fs n to) v ≤ (fibD fs i).len + valL (distL q fs n to) u := by
  have hf := distL_fixed (q := q) he hl hs
  obtain ⟨h0, h1, h2⟩ := he i hi
  have key : ∀ j, j < 2 * fs.length → j / 2 = i → arcU fs j = u → arcV fs j = v → 0 ≤ valL (distL q fs n to) v ∧ valL (distL q fs n to) v ≤ (fibD fs i).len + valL (distL q fs n to) u := by
    intro j hj hji hU hV
    have hno : ¬ (canB (arcU fs j) (arcV fs j) (arcLn fs j) (distL q fs n to) = true) := fun hx => hf _ ⟨j, hj, by rw [hji]; exact hq, hx, Int.le_refl _⟩
    rw [canB_iff, hU, hV] at hno
    have hL : arcLn fs j = (fibD fs i).len := by unfold arcLn; rw [hji]
    rw [hL] at hno
    omega
  unfold nxF otherF at h
  by_cases ha : (v : Int) = (fibD fs i).a
  · rw [if_pos ha] at h
    rw [if_pos (by omega)] at h
    injection h with h
    refine key (2 * i + 1) (by omega) (by omega) ?_ ?_
    · unfold arcU; rw [if_neg (by omega), show (2 * i + 1) / 2 = i by omega]; exact h
    · unfold arcV; rw [if_neg (by omega), show (2 * i + 1) / 2 = i by omega]; omega
  · rw [if_neg ha] at h
    by_cases hb : (v : Int) = (fibD fs i).b
    · rw [if_pos hb] at h
      rw [if_pos (by omega)] at h
      injection h with h
      refine key (2 * i) (by omega) (by omega) ?_ ?_
      · unfold arcU; rw [if_pos (by omega), show (2 * i) / 2 = i by omega]; exact h
      · unfold arcV; rw [if_pos (by omega), show (2 * i) / 2 = i by omega]; omega
    · rw [if_neg hb] at h
      simp at h
theorem rtsQ_on {k v : Nat} {seen : List Nat} {ids : List Int} (h : v ≠ to) : rtsQ q fs to (k + 1) v seen ids = (List.range fs.length).flatMap fun i => match nxQ q fs i v with
    | some u => if u ∈ seen then [] else rtsQ q fs to k u (u :: seen) (ids ++ [(i : Int)])
    | none => [] := by
  unfold rtsQ
  rw [dfsL, if_neg h]
  rfl
theorem rtsQ_end {k : Nat} {seen : List Nat} {ids : List Int} : rtsQ q fs to (k + 1) to seen ids = [ids] := by unfold rtsQ; rw [dfsL, if_pos rfl]
/-- What is found from v: fibers on, as far at least as the distance says. -/
theorem rtsQ_mem (he : endsB n fs) (hl : lensB fs) (hs : to < n) : ∀ (k v : Nat) (seen : List Nat) (ids : List Int), ∀ r ∈ rtsQ q fs to k v seen ids, ∃ e, r = ids ++ e ∧ (v ≠ to → 1 ≤ e.length) ∧ 0 ≤ valL (distL q fs n to) v ∧ valL (distL q fs n to) v ≤ lenR fs e := by
  intro k
  induction k with
  | zero => intro v seen ids r hr; cases hr
  | succ k ih =>
    intro v seen ids r hr
    by_cases hv : v = to
    · subst hv
      rw [rtsQ_end, List.mem_singleton] at hr
      subst hr
      have := dist_src (q := q) he hl hs
      exact ⟨[], by simp, fun h => absurd rfl h, this.1, this.2⟩
    · rw [rtsQ_on hv] at hr
      obtain ⟨i, hi, hr⟩ := List.mem_flatMap.1 hr
      have hi2 : i < fs.length := by simpa using hi
      split at hr
      · rename_i u hu
        split at hr
        · cases hr
        · obtain ⟨e, rfl, _, h2, h3⟩ := ih _ _ _ r hr
          unfold nxQ at hu
          split at hu
          · cases hu
          · rename_i hq
            have h4 := dist_arc (q := q) he hl hs hi2 (by simpa using hq) hu h2
            refine ⟨[(i : Int)] ++ e, by simp, fun _ => by simp, h4.1, ?_⟩
            rw [lenR_app, lenR_one]
            omega
      · cases hr
theorem cut_worse (he : endsB n fs) (hl : lensB fs) (hs : to < n) {k v : Nat} {seen : List Nat} {ids : List Int} {o : Option (List Int)} (hv : v ≠ to) (h : cutR few fs (distL q fs n to) v ids o = true) : ∀ r ∈ rtsQ q fs to k v seen ids, btR few fs s o r = false := by
  intro r hr
  obtain ⟨e, rfl, h1, h2, h3⟩ := rtsQ_mem he hl hs k v seen ids r hr
  have h1 := h1 hv
  cases o with
  | none => unfold cutR at h; rw [decide_eq_true_eq] at h; omega
  | some b =>
    unfold cutR at h
    unfold btR
    rw [Bool.or_eq_true, Bool.or_eq_true, Bool.and_eq_true, Bool.and_eq_true, decide_eq_true_eq, decide_eq_true_eq, decide_eq_true_eq] at h
    rcases h with (h | h) | h
    · omega
    · have hf : few = false := by simpa using h.1
      subst hf
      simp only [Bool.false_and, Bool.false_eq_true, if_false]
      rw [decide_eq_false_iff_not, ordR_eq, lenR_app]
      rw [if_neg (by omega), if_pos (by omega)]
      omega
    · have hf := h.1
      subst hf
      have hlt : ¬ (ids ++ e).length = b.length := by rw [List.length_append]; omega
      have hx : (true && !((ids ++ e).length == b.length)) = true := by rw [Bool.true_and, Bool.not_eq_true', beq_eq_false_iff_ne]; exact hlt
      show (if (true && !((ids ++ e).length == b.length)) = true then decide ((ids ++ e).length < b.length) else decide (ordR fs s (ids ++ e) s b < 0)) = false
      rw [if_pos hx, decide_eq_false_iff_not, List.length_append]
      omega
theorem bst_stay {o : Option (List Int)} : ∀ (l : List (List Int)), (∀ r ∈ l, btR few fs s o r = false) → l.foldl (bst few fs s) o = o := by
  intro l
  induction l with
  | nil => intro _; rfl
  | cons r l ih =>
    intro h
    have e : bst few fs s o r = o := by unfold bst; rw [h r List.mem_cons_self]; rfl
    rw [List.foldl_cons, e]
    exact ih fun x hx => h x (List.mem_cons_of_mem _ hx)
/-- What is left out changes nothing. -/
theorem bbL_eq (he : endsB n fs) (hl : lensB fs) (hs : to < n) : ∀ (k v : Nat) (seen : List Nat) (ids : List Int) (o : Option (List Int)), bbL q few fs s (distL q fs n to) to k v seen ids o = (rtsQ q fs to k v seen ids).foldl (bst few fs s) o := by
  intro k
  induction k with
  | zero => intro v seen ids o; rfl
  | succ k ih =>
    intro v seen ids o
    by_cases hv : v = to
    · subst hv
      rw [rtsQ_end]
      unfold bbL
      rw [if_pos rfl]
      rfl
    · unfold bbL
      rw [if_neg hv]
      cases hc : cutR few fs (distL q fs n to) v ids o
      · rw [if_neg (by decide), rtsQ_on hv]
        suffices hh : ∀ (is : List Nat) (o : Option (List Int)), is.foldl (fun o i => match nxQ q fs i v with
            | some u => if u ∈ seen then o else bbL q few fs s (distL q fs n to) to k u (u :: seen) (ids ++ [(i : Int)]) o
            | none => o) o = (is.flatMap fun i => match nxQ q fs i v with
            | some u => if u ∈ seen then [] else rtsQ q fs to k u (u :: seen) (ids ++ [(i : Int)])
            | none => []).foldl (bst few fs s) o from hh _ _
        intro is
        induction is with
        | nil => intro o; rfl
        | cons i is ihs =>
          intro o
          rw [List.foldl_cons, List.flatMap_cons, List.foldl_append, ihs]
          congr 1
          cases nxQ q fs i v with
          | none => rfl
          | some u =>
            simp only []
            split
            · rfl
            · exact ih _ _ _ _
      · rw [if_pos rfl, bst_stay _ (cut_worse he hl hs hv hc)]
/-- The order that the search goes by. -/
def le2 (few : Bool) (fs : List Fib) (s : Int) (a b : List Int) : Prop := if few then a.length < b.length ∨ (a.length = b.length ∧ leR fs s a b) else leR fs s a b
theorem le2_refl (a : List Int) : le2 few fs s a a := by
  have h : leR fs s a a := by
    rcases Classical.em (leR fs s a a) with h | h
    · exact h
    · exact leR_total h
  unfold le2; split
  · exact .inr ⟨rfl, h⟩
  · exact h
theorem le2_trans {a b c : List Int} (h1 : le2 few fs s a b) (h2 : le2 few fs s b c) : le2 few fs s a c := by
  unfold le2 at *
  split at h1
  · rename_i hf
    rw [if_pos hf] at *
    rcases h1 with h1 | ⟨h1, h3⟩
    · rcases h2 with h2 | ⟨h2, h4⟩
      · exact .inl (by omega)
      · exact .inl (by omega)
    · rcases h2 with h2 | ⟨h2, h4⟩
      · exact .inl (by omega)
      · exact .inr ⟨by omega, leR_trans h3 h4⟩
  · rename_i hf
    rw [if_neg hf] at *
    exact leR_trans h1 h2
theorem le2_anti {a b : List Int} (h1 : le2 few fs s a b) (h2 : le2 few fs s b a) : a = b := by
  unfold le2 at *
  split at h1
  · rename_i hf
    rw [if_pos hf] at *
    rcases h1 with h1 | ⟨h1, h3⟩
    · rcases h2 with h2 | ⟨h2, h4⟩ <;> omega
    · rcases h2 with h2 | ⟨h2, h4⟩
      · omega
      · exact leR_anti h3 h4
  · rename_i hf
    rw [if_neg hf] at *
    exact leR_anti h1 h2
theorem ordR_turn (a b : List Int) : ordR fs s a s b = -ordR fs s b s a := by
  rw [ordR_eq, ordR_eq]
  have hf := cmpL_flip a b
  repeat' split
  all_goals omega
theorem btR_iff {b r : List Int} : btR few fs s (some b) r = true ↔ ¬ le2 few fs s b r := by
  have hf := ordR_turn (fs := fs) (s := s) r b
  unfold btR le2 leR
  cases few
  · simp only [Bool.false_and, Bool.false_eq_true, if_false, decide_eq_true_eq]
    omega
  · by_cases h : r.length = b.length
    · simp only [h, Bool.true_and, beq_self_eq_true, Bool.not_true, Bool.false_eq_true, if_false, decide_eq_true_eq, if_true]
      constructor
      · rintro h1 (h2 | ⟨_, h2⟩) <;> omega
      · intro h1
        rcases Int.lt_or_le (ordR fs s r s b) 0 with h2 | h2
        · exact h2
        · exact absurd (.inr ⟨by first | trivial | rfl, by omega⟩) h1
    · have h2 : (r.length == b.length) = false := by rw [beq_eq_false_iff_ne]; exact h
      simp only [h2, Bool.true_and, Bool.not_false, if_true, decide_eq_true_eq]
      omega
theorem le2_of_not {a b : List Int} (h : ¬ le2 few fs s a b) : le2 few fs s b a := by
  unfold le2 at *
  split at h
  · rename_i hf
    rw [if_pos hf]
    rcases Nat.lt_trichotomy b.length a.length with h1 | h1 | h1
    · exact .inl h1
    · exact .inr ⟨h1, leR_total fun h2 => h (.inr ⟨h1.symm, h2⟩)⟩
    · exact absurd (.inl h1) h
  · rename_i hf
    rw [if_neg hf]
    exact leR_total h
theorem best_some : ∀ (l : List (List Int)) (b : List Int), ∃ m, l.foldl (bst few fs s) (some b) = some m ∧ (m = b ∨ m ∈ l) ∧ le2 few fs s m b ∧ ∀ x ∈ l, le2 few fs s m x := by
  intro l
  induction l with
  | nil => intro b; exact ⟨b, rfl, .inl rfl, le2_refl b, fun x hx => by cases hx⟩
  | cons r l ih =>
    intro b
    rw [List.foldl_cons]
    by_cases h : le2 few fs s b r
    · have e : bst few fs s (some b) r = some b := by
        unfold bst
        rw [if_neg (fun h2 => btR_iff.1 h2 h)]
      rw [e]
      obtain ⟨m, h1, h2, h3, h4⟩ := ih b
      refine ⟨m, h1, h2.elim .inl (fun x => .inr (List.mem_cons_of_mem _ x)), h3, fun x hx => ?_⟩
      rcases List.mem_cons.1 hx with rfl | hx
      · exact le2_trans h3 h
      · exact h4 x hx
    · have e : bst few fs s (some b) r = some r := by
        unfold bst
        rw [if_pos (btR_iff.2 h)]
      rw [e]
      obtain ⟨m, h1, h2, h3, h4⟩ := ih r
      refine ⟨m, h1, .inr (h2.elim (fun x => by rw [x]; exact List.mem_cons_self) (fun x => List.mem_cons_of_mem _ x)), le2_trans h3 (le2_of_not h), fun x hx => ?_⟩
      rcases List.mem_cons.1 hx with rfl | hx
      · exact h3
      · exact h4 x hx
theorem best_of (l : List (List Int)) : (l = [] ∧ l.foldl (bst few fs s) none = none) ∨ ∃ m, l.foldl (bst few fs s) none = some m ∧ m ∈ l ∧ ∀ x ∈ l, le2 few fs s m x := by
  cases l with
  | nil => exact .inl ⟨rfl, rfl⟩
  | cons r l =>
    obtain ⟨m, h1, h2, h3, h4⟩ := best_some (few := few) (fs := fs) (s := s) l r
    refine .inr ⟨m, h1, ?_, fun x hx => ?_⟩
    · rcases h2 with rfl | h2
      · exact List.mem_cons_self
      · exact List.mem_cons_of_mem _ h2
    · rcases List.mem_cons.1 hx with rfl | hx
      · exact h3
      · exact h4 x hx
/-- A route that uses no fiber of q. -/
def avQ (q : Nat → Bool) (r : List Int) : Bool := r.all fun x => !q x.toNat
theorem rtsQ_filter : ∀ (k v : Nat) (seen : List Nat) (ids : List Int), avQ q ids = true → rtsQ q fs to k v seen ids = (rtsL fs to k v seen ids).filter (avQ q) := by
  intro k
  induction k with
  | zero => intro v seen ids _; rfl
  | succ k ih =>
    intro v seen ids h
    by_cases hv : v = to
    · subst hv
      rw [rtsQ_end, rtsL_end, List.filter_cons, h]
      rfl
    · rw [rtsQ_on hv, rtsL_on hv]
      unfold rtsJ
      rw [List.filter_flatMap]
      congr 1
      funext i
      unfold nxQ rtsI
      cases hq : q i
      · simp only [Bool.false_eq_true, if_false]
        cases nxF fs i v with
        | none => rfl
        | some u =>
          simp only []
          split
          · rfl
          · refine ih _ _ _ ?_
            unfold avQ at *
            rw [List.all_append, h]
            simp [hq]
      · simp only [if_true]
        cases nxF fs i v with
        | none => rfl
        | some u =>
          simp only []
          split
          · rfl
          · symm
            rw [List.filter_eq_nil_iff]
            intro r hr
            obtain ⟨e, rfl, _⟩ := rtsL_mem _ _ _ _ r hr
            unfold avQ
            rw [List.all_append, List.all_append]
            simp [hq]
theorem find_least {p : List Int → Bool} : ∀ {l : List (List Int)} {r : List Int}, l.Pairwise (leR fs s) → l.find? p = some r → ∀ y ∈ l, p y = true → leR fs s r y := by
  intro l
  induction l with
  | nil => intro r _ h; cases h
  | cons x l ih =>
    intro r hp h y hy hpy
    rw [List.pairwise_cons] at hp
    rw [List.find?_cons] at h
    cases hx : p x
    · rw [hx] at h
      rcases List.mem_cons.1 hy with rfl | hy
      · rw [hx] at hpy; cases hpy
      · exact ih hp.2 h y hy hpy
    · rw [hx] at h
      injection h with h
      subst h
      rcases List.mem_cons.1 hy with rfl | hy
      · have := le2_refl (few := false) (fs := fs) (s := s) y
        unfold le2 at this
        simpa using this
      · exact hp.1 y hy
/-- The first in the order of all routes that hold: the best of them. -/
theorem best_first (D : List (List Int)) (p : List Int → Bool) : (D.filter p).foldl (bst false fs s) none = (srtR fs s D).find? p := by
  have hs := srtR_ok (fs := fs) (s := s) D
  rcases best_of (few := false) (fs := fs) (s := s) (D.filter p) with ⟨h1, h2⟩ | ⟨m, h1, h2, h3⟩
  · rw [h2]
    symm
    rw [List.find?_eq_none]
    intro x hx hpx
    have : x ∈ D.filter p := List.mem_filter.2 ⟨hs.2.mem_iff.1 hx, hpx⟩
    rw [h1] at this
    cases this
  · rw [h1]
    obtain ⟨hm, hpm⟩ := List.mem_filter.1 h2
    cases hf : (srtR fs s D).find? p with
    | none => exact absurd hpm (List.find?_eq_none.1 hf m (hs.2.mem_iff.2 hm))
    | some r =>
      have hr1 := List.mem_of_find?_eq_some hf
      have hr2 := List.find?_some hf
      have a1 : leR fs s r m := find_least hs.1 hf m (hs.2.mem_iff.2 hm) hpm
      have a2 : le2 false fs s m r := h3 r (List.mem_filter.2 ⟨hs.2.mem_iff.1 hr1, hr2⟩)
      unfold le2 at a2
      rw [leR_anti a1 (by simpa using a2)]
/-- The first of the fewest, as MinFunc goes. -/
def mnF (o : Option (List Int)) (r : List Int) : Option (List Int) := match o with
  | none => some r
  | some b => if r.length < b.length then some r else some b
def mnO (l : List (List Int)) : Option (List Int) := l.foldl mnF none
theorem mnF_some : ∀ (l : List (List Int)) (b : List Int), (∀ x ∈ l, leR fs s b x) → l.Pairwise (leR fs s) → ∃ m, l.foldl mnF (some b) = some m ∧ (m = b ∨ m ∈ l) ∧ le2 true fs s m b ∧ ∀ x ∈ l, le2 true fs s m x := by
  intro l
  induction l with
  | nil => intro b _ _; exact ⟨b, rfl, .inl rfl, le2_refl b, fun x hx => by cases hx⟩
  | cons r l ih =>
    intro b hb hp
    rw [List.pairwise_cons] at hp
    rw [List.foldl_cons]
    by_cases h : r.length < b.length
    · have e : mnF (some b) r = some r := by unfold mnF; simp [h]
      rw [e]
      obtain ⟨m, h1, h2, h3, h4⟩ := ih r hp.1 hp.2
      have hrb : le2 true fs s r b := .inl h
      refine ⟨m, h1, .inr (h2.elim (fun x => by rw [x]; exact List.mem_cons_self) (fun x => List.mem_cons_of_mem _ x)), le2_trans h3 hrb, fun x hx => ?_⟩
      rcases List.mem_cons.1 hx with rfl | hx
      · exact h3
      · exact h4 x hx
    · have e : mnF (some b) r = some b := by unfold mnF; simp [h]
      rw [e]
      obtain ⟨m, h1, h2, h3, h4⟩ := ih b (fun x hx => hb x (List.mem_cons_of_mem _ hx)) hp.2
      have hbr : le2 true fs s b r := by
        show b.length < r.length ∨ _
        rcases Nat.lt_or_ge b.length r.length with h5 | h5
        · exact .inl h5
        · exact .inr ⟨by omega, hb r List.mem_cons_self⟩
      refine ⟨m, h1, h2.elim .inl (fun x => .inr (List.mem_cons_of_mem _ x)), h3, fun x hx => ?_⟩
      rcases List.mem_cons.1 hx with rfl | hx
      · exact le2_trans h3 hbr
      · exact h4 x hx
theorem best_few (D : List (List Int)) : D.foldl (bst true fs s) none = mnO (srtR fs s D) := by
  have hs := srtR_ok (fs := fs) (s := s) D
  unfold mnO
  rcases best_of (few := true) (fs := fs) (s := s) D with ⟨h1, h2⟩ | ⟨m, h1, h2, h3⟩
  · subst h1; rfl
  · rw [h1]
    cases hl : srtR fs s D with
    | nil => rw [hl] at hs; exact absurd (hs.2.mem_iff.2 h2) (by simp)
    | cons r l =>
      rw [hl] at hs
      have hp := List.pairwise_cons.1 hs.1
      obtain ⟨m2, g1, g2, g3, g4⟩ := mnF_some l r hp.1 hp.2
      show some m = l.foldl mnF (some r)
      rw [g1]
      have hm2 : m2 ∈ D := hs.2.mem_iff.1 (by
        rcases g2 with rfl | g2
        · exact List.mem_cons_self
        · exact List.mem_cons_of_mem _ g2)
      have hm : le2 true fs s m2 m := by
        rcases List.mem_cons.1 (hs.2.mem_iff.2 h2) with h | h
        · rw [h]; exact g3
        · exact g4 m h
      rw [le2_anti (h3 m2 hm2) hm]
end
end Go.Proofs.Ytfepilpllfiegaa
/- Routes turned round and joined, in plain Lean. Conditions: as each states. -/
namespace Go.Proofs.Ytfepilpllfiegaa
open Go.RowKit
section
variable {n : Nat} {fs : List Fib} {s : Int} {ids : List Int}
theorem otherF_back {f : Fib} {v : Int} (h1 : 0 ≤ f.a ∧ f.a < f.b) (h : 0 ≤ otherF f v) : otherF f (otherF f v) = v := by
  unfold otherF at *
  by_cases ha : v = f.a
  · rw [if_pos ha, if_neg (by omega), if_pos rfl]; exact ha.symm
  · by_cases hb : v = f.b
    · rw [if_neg ha, if_pos hb, if_pos rfl]; exact hb.symm
    · rw [if_neg ha, if_neg hb] at h; omega
theorem otherF_ends {f : Fib} {v : Int} (h : 0 ≤ otherF f v) : (v = f.a ∧ otherF f v = f.b) ∨ (v = f.b ∧ v ≠ f.a ∧ otherF f v = f.a) := by
  unfold otherF at *
  by_cases ha : v = f.a
  · rw [if_pos ha]; exact .inl ⟨ha, rfl⟩
  · by_cases hb : v = f.b
    · rw [if_neg ha, if_pos hb]; exact .inr ⟨hb, ha, rfl⟩
    · rw [if_neg ha, if_neg hb] at h; omega
theorem fibB_ab {f : Fib} (h : fibB n f = true) : 0 ≤ f.a ∧ f.a < f.b := by
  unfold fibB at h
  simp at h
  omega
theorem atW_range (hf : ∀ f ∈ fs, fibB n f = true) (h : rtB n fs s ids = true) {k : Nat} (hk : k ≤ ids.length) : 0 ≤ atW fs s ids k ∧ atW fs s ids k < n :=
  outW_range hf h k hk _ (List.mem_of_getElem? (outW_get fs s ids k))
theorem atW_ne (h : rtB n fs s ids = true) {i j : Nat} (hij : i < j) (hj : j ≤ ids.length) : atW fs s ids i ≠ atW fs s ids j := by
  have h1 := outW_nodup (rtB_parts h).2.2 _ (Nat.le_refl _)
  rw [List.Nodup, List.pairwise_iff_getElem] at h1
  have h2 := h1 i j (by rw [outW_len]; omega) (by rw [outW_len]; omega) hij
  simpa [outW] using h2
/-- Step j of a route: its fiber, and where it leads. -/
theorem rt_step (hf : ∀ f ∈ fs, fibB n f = true) (h : rtB n fs s ids = true) {j : Nat} (hj : j < ids.length) :
    ∃ i f, ids[j]? = some i ∧ fs[i.toNat]? = some f ∧ 0 ≤ i ∧ (0 ≤ f.a ∧ f.a < f.b) ∧ atW fs s ids (j + 1) = otherF f (atW fs s ids j) ∧ 0 ≤ otherF f (atW fs s ids j) := by
  have hi := rtB_at h (List.getElem?_eq_getElem hj)
  have hfi : fs[(ids[j]).toNat]? = some (fs[(ids[j]).toNat]'(by omega)) := List.getElem?_eq_getElem _
  have e := atW_succ (s := s) (List.getElem?_eq_getElem hj) hfi
  have hr := atW_range hf h (k := j + 1) (by omega)
  exact ⟨_, _, List.getElem?_eq_getElem hj, hfi, hi.1, fibB_ab (hf _ (List.mem_of_getElem? hfi)), e, by rw [← e]; exact hr.1⟩
/-- No fiber is used twice. -/
theorem rt_once (hf : ∀ f ∈ fs, fibB n f = true) (h : rtB n fs s ids = true) {u v : Nat} {x : Int} (huv : u < v) (hu : ids[u]? = some x) (hv : ids[v]? = some x) : False := by
  have hul := (List.getElem?_eq_some_iff.1 hu).1
  have hvl := (List.getElem?_eq_some_iff.1 hv).1
  obtain ⟨i, f, h1, h2, _, hab, h3, h4⟩ := rt_step hf h hul
  obtain ⟨i', f', k1, k2, _, _, k3, k4⟩ := rt_step hf h hvl
  rw [hu] at h1; injection h1 with h1; subst h1
  rw [hv] at k1; injection k1 with k1; subst k1
  rw [h2] at k2; injection k2 with k2; subst k2
  have n1 := atW_ne h huv (by omega)
  have n2 := atW_ne h (show u < v + 1 by omega) (by omega)
  rw [k3] at n2
  have back := otherF_back hab h4
  have e : atW fs s ids v = otherF f (atW fs s ids u) := by
    rcases otherF_ends h4 with ⟨a1, a2⟩ | ⟨a1, _, a2⟩ <;> rcases otherF_ends k4 with ⟨b1, b2⟩ | ⟨b1, _, b2⟩
    · exact absurd (a1.trans b1.symm) n1
    · rw [a2]; exact b1
    · rw [a2]; exact b1
    · exact absurd (a1.trans b1.symm) n1
  rw [e, back] at n2
  exact n2 rfl
theorem rev_at (hf : ∀ f ∈ fs, fibB n f = true) (h : rtB n fs s ids = true) : ∀ k, k ≤ ids.length → atW fs (atW fs s ids ids.length) ids.reverse k = atW fs s ids (ids.length - k) := by
  intro k
  induction k with
  | zero => intro _; rfl
  | succ k ih =>
    intro hk
    obtain ⟨i, f, h1, h2, _, hab, h3, h4⟩ := rt_step hf h (j := ids.length - 1 - k) (by omega)
    have hr : ids.reverse[k]? = some i := by rw [List.getElem?_reverse (by omega)]; exact h1
    rw [atW_succ hr h2, ih (by omega), show ids.length - k = (ids.length - 1 - k) + 1 by omega, h3, otherF_back hab h4]
    congr 1
    omega
theorem rev_ok (hf : ∀ f ∈ fs, fibB n f = true) (h : rtB n fs s ids = true) : rtB n fs (atW fs s ids ids.length) ids.reverse = true := by
  have hr := atW_range hf h (k := ids.length) (Nat.le_refl _)
  have hne := (rtB_parts h).2.1
  unfold rtB
  rw [Bool.and_eq_true, Bool.and_eq_true]
  refine ⟨by unfold inB; simp; omega, by simpa using hne, allB_iff.2 fun k hk => ?_⟩
  have hk2 : k < ids.length := by simpa using hk
  have hat := rev_at hf h
  have h1 := atW_range hf h (k := ids.length - (k + 1)) (by omega)
  have hm := rtB_mem h (ids.reverse.getD k 0) (by
    rw [List.getD_eq_getElem?_getD, List.getElem?_reverse hk2, List.getElem?_eq_getElem (by omega)]
    exact List.getElem_mem _)
  have hin : inB 0 ((fs.length : Int) - 1) (ids.reverse.getD k 0) = true := by
    generalize ids.reverse.getD k 0 = y at hm
    unfold inB; simp; omega
  unfold okW
  rw [Bool.and_eq_true, Bool.and_eq_true, hat (k + 1) (by omega)]
  refine ⟨hin, by rw [Bool.not_eq_true', decide_eq_false_iff_not]; omega, ?_⟩
  rw [Bool.not_eq_true', Bool.eq_false_iff]
  intro hx
  have hx2 := hasB_iff.1 hx
  unfold outW at hx2
  obtain ⟨j, hj, he⟩ := List.mem_map.1 hx2
  have hj2 : j ≤ k := by have := List.mem_range.1 hj; omega
  rw [hat j (by omega)] at he
  exact atW_ne h (show ids.length - (k + 1) < ids.length - j by omega) (by omega) he.symm
theorem rev_end (hf : ∀ f ∈ fs, fibB n f = true) (h : rtB n fs s ids = true) : atW fs (atW fs s ids ids.length) ids.reverse ids.reverse.length = s := by
  rw [List.length_reverse, rev_at hf h _ (Nat.le_refl _), Nat.sub_self]; rfl
theorem lenR_rev : ∀ ids : List Int, lenR fs ids.reverse = lenR fs ids := by
  intro ids
  induction ids with
  | nil => rfl
  | cons x l ih =>
    rw [List.reverse_cons, lenR_app, ih, Int.add_comm, ← lenR_app]; rfl
theorem join_apart (hf : ∀ f ∈ fs, fibB n f = true) {a b : List Int} (h : rtB n fs s (a ++ b) = true) : comL a b = [] := by
  rw [List.eq_nil_iff_forall_not_mem]
  intro x hx
  obtain ⟨ha, hb⟩ := ((comL_asc a b).2 x).1 hx
  obtain ⟨p, hp⟩ := List.getElem?_of_mem ha
  obtain ⟨q, hq⟩ := List.getElem?_of_mem hb
  have hpl := (List.getElem?_eq_some_iff.1 hp).1
  refine rt_once hf h (u := p) (v := a.length + q) (x := x) (by omega) ?_ ?_
  · rw [List.getElem?_append_left hpl]; exact hp
  · rw [List.getElem?_append_right (by omega), show a.length + q - a.length = q by omega]; exact hq
end
end Go.Proofs.Ytfepilpllfiegaa
/- FnRoutes, walked. Conditions: none. By wfroutes.py. -/
namespace Go.Proofs.Ytfepilpllfiegaa
open Go.RowKit
section
variable {xs : List ByteArray} {fs : List Fib} {s t : Int} {ids jds : List Int}
theorem ro_fib (h : routeB xs fs s ids = true) : ∀ f ∈ fs, fibB xs.length f = true := fun _ hf => goodB_fibB (routeB_good h).1 hf
/-- A route turned round, and turned round again. -/
theorem rv_facts (h : routeB xs fs s ids = true) : routeB xs fs (rvS xs fs s ids) (rvL xs fs s ids) = true ∧ rvS xs fs (rvS xs fs s ids) (rvL xs fs s ids) = s ∧ rvL xs fs (rvS xs fs s ids) (rvL xs fs s ids) = ids ∧ rlI xs fs (rvS xs fs s ids) (rvL xs fs s ids) = rlI xs fs s ids := by
  obtain ⟨hg, hr⟩ := routeB_good h
  have e1 : rvS xs fs s ids = atW fs s ids ids.length := by unfold rvS; rw [h, if_pos rfl]
  have e2 : rvL xs fs s ids = ids.reverse := by unfold rvL; rw [h, if_pos rfl]
  have h2 : routeB xs fs (atW fs s ids ids.length) ids.reverse = true := by
    unfold routeB
    rw [hg, rev_ok (ro_fib h) hr]; rfl
  rw [e1, e2]
  refine ⟨h2, ?_, ?_, ?_⟩
  · unfold rvS
    rw [h2, if_pos rfl]
    exact rev_end (ro_fib h) hr
  · unfold rvL
    rw [h2, if_pos rfl, List.reverse_reverse]
  · unfold rlI
    rw [h2, h, if_pos rfl, if_pos rfl, lenR_rev]
theorem jn_facts (h : jnB xs fs s ids t jds = true) : jnS xs fs s ids t jds = s ∧ jnL xs fs s ids t jds = ids ++ jds ∧ routeB xs fs s ids = true ∧ routeB xs fs t jds = true ∧ routeB xs fs s (ids ++ jds) = true := by
  refine ⟨by unfold jnS; rw [h, if_pos rfl], by unfold jnL; rw [h, if_pos rfl], ?_⟩
  unfold jnB at h
  rw [Bool.and_eq_true, Bool.and_eq_true, Bool.and_eq_true] at h
  exact ⟨h.1.1.1, h.1.1.2, h.2⟩
theorem jn_sum (h : jnB xs fs s ids t jds = true) : rlI xs fs s ids + rlI xs fs t jds = rlI xs fs s (ids ++ jds) ∧ 0 ≤ rlI xs fs s (ids ++ jds) ∧ rlI xs fs s (ids ++ jds) ≤ 35000 := by
  obtain ⟨_, _, h1, h2, h3⟩ := jn_facts h
  have hb := rt_lens h3
  unfold rlI
  rw [h1, h2, h3, if_pos rfl, if_pos rfl, if_pos rfl, lenR_app]
  rw [lenR_app] at hb
  exact ⟨rfl, hb⟩
theorem jn_nodes (h : jnB xs fs s ids t jds = true) : (routeL xs fs s (ids ++ jds)).length = ids.length + jds.length + 1 := by
  rw [routeL_yes (jn_facts h).2.2.2.2, outW_len, List.length_append]
theorem jn_apart (h : jnB xs fs s ids t jds = true) : shB xs fs s ids t jds = true ∧ shL xs fs s ids t jds = [] := by
  obtain ⟨_, _, h1, h2, h3⟩ := jn_facts h
  have e : shB xs fs s ids t jds = true := by unfold shB; rw [h1, h2]; rfl
  refine ⟨e, ?_⟩
  unfold shL
  rw [e, if_pos rfl]
  exact join_apart (ro_fib h3) (routeB_good h3).2
theorem jn_not (h : routeB xs fs s ids = false) : jnB xs fs s ids t jds = false := by unfold jnB; rw [h]; simp
theorem jnL_no (h : jnB xs fs s ids t jds = false) : jnL xs fs s ids t jds = [] := by unfold jnL; rw [h]; rfl
end
set_option maxHeartbeats 1000000 in
set_option maxRecDepth 100000 in
theorem walkFnRoutes (w : World) {A : Option Addr} {n c : Nat} {bs : List Int} (hA : BytesArg w A n c bs) : Calls Try.prog 7 #[.slice A n c] w fun e w' => e = .returned (.bool true) ∧ Below w.heap.size w w' := by
  obtain ⟨hcc, hcm, hS, hx⟩ := hA
  unfold maxLen at hcm
  by_cases hn : n ≤ 65536
  · have HS := hid hS
    have HX := hid hx
    clear hS hx
    go_enter Try.func7, Try.ntmps7
    go_wp2_with fail
    go_in
    go_wp2_with fail
    refine (drawJoin_rt _ HS.out HX.out (by omega)).mono ?_
    rintro e w1 ⟨B, p, cb, E, m, d, xs, fs, s, V, cV, ids, t, U, cU, jds, rfl, hD, hR, hQ, hl1, hl2⟩
    have HN := hid hD.net
    have HB1 := hid hD.bl
    have HR := hid hR
    have HQ := hid hQ
    have HL1 := hid hl1
    have HL2 := hid hl2
    have H1 := hid ((((Led.nil w1).blk_ w1.heap.size rfl 27 #[.slice B p cb, .slice E m d]).blk_ (w1.heap.size + 1) (by simp) 35 #[.int .i64 s, .slice V ids.length cV]).blk_ (w1.heap.size + 1 + 1) (by simp) 35 #[.int .i64 t, .slice U jds.length cU])
    clear hD hR hQ HS HX
    have HP1 := hid (fun w' h => implReverse w' (HN.out.grow h) (HR.out.grow h) s)
    have HP2 := hid (fun w' h => specIsValidRoute s w' (HN.out.grow h) (HR.out.grow h))
    have HP3 := hid (fun w' h (RA : Option Addr) (cR : Nat) (hr : RtIs w' RA (rvL xs fs s ids).length cR (rvL xs fs s ids)) => implReverse w' (HN.out.grow h) hr (rvS xs fs s ids))
    have HP4 := hid (fun w' h => implRouteLength (s := s) w' (HN.out.grow h) (HR.out.grow h))
    have HP5 := hid (fun w' h (RA : Option Addr) (cR : Nat) (hr : RtIs w' RA (rvL xs fs s ids).length cR (rvL xs fs s ids)) => implRouteLength (s := rvS xs fs s ids) w' (HN.out.grow h) hr)
    have HP6 := hid (fun w' h => implJoin w' (HN.out.grow h) (HR.out.grow h) (HQ.out.grow h) s t)
    have HP7 := hid (fun w' h => specJoin w' (HN.out.grow h) (HR.out.grow h) (HQ.out.grow h) s t)
    have HP8 := hid (fun w' h => implRouteLength (s := t) w' (HN.out.grow h) (HQ.out.grow h))
    have HRF := hid (fun h => rv_facts (xs := xs) (fs := fs) (s := s) (ids := ids) h)
    have HRL := hid (rvL_len (xs := xs) (fs := fs) (s := s) (ids := ids))
    have HJN := hid (fun h => jn_not (xs := xs) (fs := fs) (s := s) (ids := ids) (t := t) (jds := jds) h)
    obtain ⟨RS, hRS⟩ : ∃ RS, RS = rvS xs fs s ids := ⟨_, rfl⟩
    obtain ⟨RL, hRL⟩ : ∃ RL, RL = rvL xs fs s ids := ⟨_, rfl⟩
    obtain ⟨ok, hok⟩ : ∃ ok, ok = routeB xs fs s ids := ⟨_, rfl⟩
    rw [← hRS, ← hRL] at HP3 HP5 HRF
    rw [← hRS, ← hRL, ← hok] at HP1
    rw [← hok] at HP2 HP4 HRF HJN
    rw [← hRL] at HRL
    have HOK := hid hok
    clear hRS hRL hok
    go_wp2_with fail
    refine (HP1.out _ H1.out.bl).mono ?_
    rintro e w2 ⟨RA, cR, rfl, ho, hb⟩
    -- ledger: [rbox, RL, bbox, abox, nbox]
    have H2 := hid ((H1.out.owns_ (b0 := w1.heap.size) hb ho (Nat.le_refl _) H1.out.bl.size).blk_ w2.heap.size rfl 35 #[.int .i64 RS, .slice RA RL.length cR])
    clear ho hb H1 HP1
    have q0 := H2.out.cell 4 0 rfl rfl
    have q1 := H2.out.cell 4 1 rfl rfl
    have a0 := H2.out.cell 3 0 rfl rfl
    have a1 := H2.out.cell 3 1 rfl rfl
    have nG : (ok != ok) = false := by simp
    go_wp2_with fail
    refine (HP2.out _ H2.out.bl).mono ?_
    rintro e w3 ⟨rfl, hb⟩
    have H3 := hid (H2.out.step hb)
    clear hb H2 HP2 q0 q1 a0 a1
    cases ok
    · have hnj := HJN.out (by rfl)
      rw [hnj] at HP6 HP7
      have hJL0 := jnL_no hnj
      obtain ⟨JS, hJS⟩ : ∃ JS, JS = jnS xs fs s ids t jds := ⟨_, rfl⟩
      obtain ⟨JL, hJL⟩ : ∃ JL, JL = jnL xs fs s ids t jds := ⟨_, rfl⟩
      rw [← hJS, ← hJL] at HP6 HP7
      rw [← hJL] at hJL0
      have HJL := hid hJL0
      have nJ : (false != false) = false := rfl
      clear hJS hJL hJL0 hnj HRF HP3 HP4 HP5 HP8 HJN
      have q0 := H3.out.cell 4 0 rfl rfl
      have q1 := H3.out.cell 4 1 rfl rfl
      have a0 := H3.out.cell 3 0 rfl rfl
      have a1 := H3.out.cell 3 1 rfl rfl
      have b0 := H3.out.cell 2 0 rfl rfl
      have b1 := H3.out.cell 2 1 rfl rfl
      go_wp2_with fail
      refine (HP6.out _ H3.out.bl).mono ?_
      rintro e w11 ⟨JA, cJ, rfl, ho, hb⟩
      have H5 := hid ((H3.out.owns_ (b0 := w1.heap.size) hb ho (Nat.le_refl _) H3.out.bl.size).blk_ w11.heap.size rfl 35 #[.int .i64 JS, .slice JA JL.length cJ])
      clear ho hb H3 HP6 q0 q1 a0 a1 b0 b1
      have q0 := H5.out.cell 6 0 rfl rfl
      have q1 := H5.out.cell 6 1 rfl rfl
      have a0 := H5.out.cell 5 0 rfl rfl
      have a1 := H5.out.cell 5 1 rfl rfl
      have b0 := H5.out.cell 4 0 rfl rfl
      have b1 := H5.out.cell 4 1 rfl rfl
      have j0 := H5.out.cell 0 0 rfl rfl
      have j1 := H5.out.cell 0 1 rfl rfl
      go_wp2_with fail
      refine (HP7.out _ H5.out.bl).mono ?_
      rintro e w12 ⟨KA, cK, rfl, ho, hb⟩
      have H6 := hid ((H5.out.owns_ (b0 := w1.heap.size) hb ho (Nat.le_refl _) H5.out.bl.size).blk_ w12.heap.size rfl 35 #[.int .i64 JS, .slice KA JL.length cK])
      clear ho hb H5 HP7 j0 j1 q0 q1 a0 a1 b0 b1
      have j0 := H6.out.cell 2 0 rfl rfl
      have j1 := H6.out.cell 2 1 rfl rfl
      have z0 : ((JL.length : Int) == 0) = true := by rw [HJL.out]; rfl
      go_wp2_with fail
      go_ret
      exact ⟨rfl, bl_then HB1.out H6.out.bl⟩
    · have hrf := HRF.out (by rfl)
      have e1 := hrf.1
      have e2 := hrf.2.1
      have e3 := hrf.2.2.1
      have e4 := hrf.2.2.2
      rw [e1, e2, e3] at HP3
      rw [e1, e4] at HP5
      clear hrf e1 e2 e3 e4 HRF HJN
      have q0 := H3.out.cell 4 0 rfl rfl
      have q1 := H3.out.cell 4 1 rfl rfl
      have a0 := H3.out.cell 3 0 rfl rfl
      have a1 := H3.out.cell 3 1 rfl rfl
      have b0 := H3.out.cell 2 0 rfl rfl
      have b1 := H3.out.cell 2 1 rfl rfl
      have r0 := H3.out.cell 0 0 rfl rfl
      have r1 := H3.out.cell 0 1 rfl rfl
      have hrr := H3.out.rt 1 rfl (by have := HRL.out; have := HL1.out; omega)
      go_wp2_with fail
      refine (HP3.out _ H3.out.bl _ _ hrr).mono ?_
      rintro e w4 ⟨BA, cB, rfl, ho, hb⟩
      -- ledger: [backbox, ids, rbox, RL, bbox, abox, nbox]
      have H4 := hid ((H3.out.owns_ (b0 := w1.heap.size) hb ho (Nat.le_refl _) H3.out.bl.size).blk_ w4.heap.size rfl 35 #[.int .i64 s, .slice BA ids.length cB])
      clear ho hb H3 HP3 hrr r0 r1 q0 q1 a0 a1 b0 b1
      have q0 := H4.out.cell 6 0 rfl rfl
      have q1 := H4.out.cell 6 1 rfl rfl
      have a0 := H4.out.cell 5 0 rfl rfl
      have a1 := H4.out.cell 5 1 rfl rfl
      have b0 := H4.out.cell 4 0 rfl rfl
      have b1 := H4.out.cell 4 1 rfl rfl
      go_wp2_with fail
      refine (HP4.out _ H4.out.bl).mono ?_
      rintro e w5 ⟨rfl, hb⟩
      have H8 := hid (H4.out.step hb)
      clear hb H4 q0 q1 a0 a1 b0 b1
      have q0 := H8.out.cell 6 0 rfl rfl
      have q1 := H8.out.cell 6 1 rfl rfl
      have a0 := H8.out.cell 5 0 rfl rfl
      have a1 := H8.out.cell 5 1 rfl rfl
      have b0 := H8.out.cell 4 0 rfl rfl
      have b1 := H8.out.cell 4 1 rfl rfl
      have r0 := H8.out.cell 2 0 rfl rfl
      have r1 := H8.out.cell 2 1 rfl rfl
      have hrr := H8.out.rt 3 rfl (by have := HRL.out; have := HL1.out; omega)
      go_wp2_with fail
      refine (HP5.out _ H8.out.bl _ _ hrr).mono ?_
      rintro e w6 ⟨rfl, hb⟩
      have H9 := hid (H8.out.step hb)
      clear hb H8 HP5 hrr r0 r1 q0 q1 a0 a1 b0 b1
      have q0 := H9.out.cell 6 0 rfl rfl
      have q1 := H9.out.cell 6 1 rfl rfl
      have a0 := H9.out.cell 5 0 rfl rfl
      have a1 := H9.out.cell 5 1 rfl rfl
      have b0 := H9.out.cell 4 0 rfl rfl
      have b1 := H9.out.cell 4 1 rfl rfl
      have r0 := H9.out.cell 0 0 rfl rfl
      have r1 := H9.out.cell 0 1 rfl rfl
      have HVR := hid (vRoutes_same (e1 := cB) (e2 := cV) s w6 (H9.out.seesI 1 rfl) (HR.out.grow H9.out.bl).2 (by have := HL1.out; omega) (Nat.le_refl _) (Nat.le_refl _))
      have nX : (rlI xs fs s ids != rlI xs fs s ids) = false := by simp
      go_wp2_with fail
      refine HVR.out.mono ?_
      rintro e w7 ⟨rfl, hb⟩
      have H10 := hid ((H9.out.step hb).drop 4)
      clear hb H9 HVR r0 r1 nX q0 q1 a0 a1 b0 b1
      have q0 := H10.out.cell 2 0 rfl rfl
      have q1 := H10.out.cell 2 1 rfl rfl
      have a0 := H10.out.cell 1 0 rfl rfl
      have a1 := H10.out.cell 1 1 rfl rfl
      have b0 := H10.out.cell 0 0 rfl rfl
      have b1 := H10.out.cell 0 1 rfl rfl
      have HJF := hid (fun h => jn_facts (xs := xs) (fs := fs) (s := s) (ids := ids) (t := t) (jds := jds) h)
      have HJL := hid (fun h => jnL_no (xs := xs) (fs := fs) (s := s) (ids := ids) (t := t) (jds := jds) h)
      have HJ1 := hid (fun h => jn_sum (xs := xs) (fs := fs) (s := s) (ids := ids) (t := t) (jds := jds) h)
      have HJ2 := hid (fun h => jn_nodes (xs := xs) (fs := fs) (s := s) (ids := ids) (t := t) (jds := jds) h)
      have HJ3 := hid (fun h => jn_apart (xs := xs) (fs := fs) (s := s) (ids := ids) (t := t) (jds := jds) h)
      have HJM := hid (jnL_len (xs := xs) (fs := fs) (s := s) (ids := ids) (t := t) (jds := jds))
      obtain ⟨JS, hJS⟩ : ∃ JS, JS = jnS xs fs s ids t jds := ⟨_, rfl⟩
      obtain ⟨JL, hJL⟩ : ∃ JL, JL = jnL xs fs s ids t jds := ⟨_, rfl⟩
      obtain ⟨jb, hjb⟩ : ∃ jb, jb = jnB xs fs s ids t jds := ⟨_, rfl⟩
      rw [← hJS, ← hJL, ← hjb] at HP6 HP7 HJF
      rw [← hjb] at HJ1 HJ2 HJ3
      rw [← hjb, ← hJL] at HJL
      rw [← hJL] at HJM
      clear hJS hJL hjb
      go_wp2_with fail
      refine (HP6.out _ H10.out.bl).mono ?_
      rintro e w11 ⟨JA, cJ, rfl, ho, hb⟩
      have H5 := hid ((H10.out.owns_ (b0 := w1.heap.size) hb ho (Nat.le_refl _) H10.out.bl.size).blk_ w11.heap.size rfl 35 #[.int .i64 JS, .slice JA JL.length cJ])
      clear ho hb H10 HP6 q0 q1 a0 a1 b0 b1
      have q0 := H5.out.cell 4 0 rfl rfl
      have q1 := H5.out.cell 4 1 rfl rfl
      have a0 := H5.out.cell 3 0 rfl rfl
      have a1 := H5.out.cell 3 1 rfl rfl
      have b0 := H5.out.cell 2 0 rfl rfl
      have b1 := H5.out.cell 2 1 rfl rfl
      have nJ : (jb != jb) = false := by simp
      go_wp2_with fail
      refine (HP7.out _ H5.out.bl).mono ?_
      rintro e w12 ⟨KA, cK, rfl, ho, hb⟩
      have H6 := hid ((H5.out.owns_ (b0 := w1.heap.size) hb ho (Nat.le_refl _) H5.out.bl.size).blk_ w12.heap.size rfl 35 #[.int .i64 JS, .slice KA JL.length cK])
      clear ho hb H5 HP7 q0 q1 a0 a1 b0 b1
      cases jb
      · skip
        have z0 : ((JL.length : Int) == 0) = true := by rw [HJL.out (by rfl)]; rfl
        have j0 := H6.out.cell 2 0 rfl rfl
        have j1 := H6.out.cell 2 1 rfl rfl
        go_wp2_with fail
        go_ret
        exact ⟨rfl, bl_then HB1.out H6.out.bl⟩
      · skip
        have hjf := HJF.out (by rfl)
        obtain ⟨hj1, hj2, hj3, hj4, hj5⟩ := hjf
        have hs := HJ1.out (by rfl)
        have hnl := HJ2.out (by rfl)
        have hap := HJ3.out (by rfl)
        have hj1s := hj1.symm
        clear hj1
        subst hj1s
        rw [← hj2] at hs hnl hj5
        have HP9 := hid (fun w' h (RA : Option Addr) (cR : Nat) (hr : RtIs w' RA JL.length cR JL) => implRouteLength (s := s) w' (HN.out.grow h) hr)
        have HP10 := hid (fun w' h (RA : Option Addr) (cR : Nat) (hr : RtIs w' RA JL.length cR JL) => implRouteNodes s w' (HN.out.grow h) hr)
        have HP11 := hid (fun w' h => implShared (s := s) (t := t) w' (HN.out.grow h) (HR.out.grow h) (HQ.out.grow h))
        rw [hj5] at HP9 HP10
        rw [hap.1, hap.2] at HP11
        rw [hj4] at HP8
        obtain ⟨x, hx⟩ : ∃ x, x = rlI xs fs s ids := ⟨_, rfl⟩
        obtain ⟨y, hy⟩ : ∃ y, y = rlI xs fs t jds := ⟨_, rfl⟩
        obtain ⟨z, hz⟩ : ∃ z, z = rlI xs fs s JL := ⟨_, rfl⟩
        obtain ⟨NL, hNL⟩ : ∃ NL, NL = routeL xs fs s JL := ⟨_, rfl⟩
        rw [← hx, ← hy, ← hz] at hs
        rw [← hx] at HP4
        rw [← hy] at HP8
        rw [← hz] at HP9
        rw [← hNL] at HP10 hnl
        have HSUM := hid hs
        have HNL := hid hnl
        clear hs hnl hap hx hy hz hNL hj2 hj3 hj4 hj5 HJF HJL HJ1 HJ2 HJ3
        have q0 := H6.out.cell 6 0 rfl rfl
        have q1 := H6.out.cell 6 1 rfl rfl
        have a0 := H6.out.cell 5 0 rfl rfl
        have a1 := H6.out.cell 5 1 rfl rfl
        have b0 := H6.out.cell 4 0 rfl rfl
        have b1 := H6.out.cell 4 1 rfl rfl
        go_wp2_with fail
        refine (HP4.out _ H6.out.bl).mono ?_
        rintro e w13 ⟨rfl, hb⟩
        have H7 := hid (H6.out.step hb)
        clear hb H6 q0 q1 a0 a1 b0 b1
        have q0 := H7.out.cell 6 0 rfl rfl
        have q1 := H7.out.cell 6 1 rfl rfl
        have a0 := H7.out.cell 5 0 rfl rfl
        have a1 := H7.out.cell 5 1 rfl rfl
        have b0 := H7.out.cell 4 0 rfl rfl
        have b1 := H7.out.cell 4 1 rfl rfl
        go_wp2_with fail
        refine (HP8.out _ H7.out.bl).mono ?_
        rintro e w14 ⟨rfl, hb⟩
        have H8 := hid (H7.out.step hb)
        clear hb H7 q0 q1 a0 a1 b0 b1
        have q0 := H8.out.cell 6 0 rfl rfl
        have q1 := H8.out.cell 6 1 rfl rfl
        have a0 := H8.out.cell 5 0 rfl rfl
        have a1 := H8.out.cell 5 1 rfl rfl
        have b0 := H8.out.cell 4 0 rfl rfl
        have b1 := H8.out.cell 4 1 rfl rfl
        have j0 := H8.out.cell 2 0 rfl rfl
        have j1 := H8.out.cell 2 1 rfl rfl
        have hrj := H8.out.rt 3 rfl (by have := HJM.out; omega)
        go_wp2_with fail
        refine (HP9.out _ H8.out.bl _ _ hrj).mono ?_
        rintro e w15 ⟨rfl, hb⟩
        have H9 := hid (H8.out.step hb)
        clear hb H8 hrj j0 j1 q0 q1 a0 a1 b0 b1
        have q0 := H9.out.cell 6 0 rfl rfl
        have q1 := H9.out.cell 6 1 rfl rfl
        have a0 := H9.out.cell 5 0 rfl rfl
        have a1 := H9.out.cell 5 1 rfl rfl
        have b0 := H9.out.cell 4 0 rfl rfl
        have b1 := H9.out.cell 4 1 rfl rfl
        have j0 := H9.out.cell 2 0 rfl rfl
        have j1 := H9.out.cell 2 1 rfl rfl
        have hrj := H9.out.rt 3 rfl (by have := HJM.out; omega)
        go_wp2_with fail
        refine (HP10.out _ H9.out.bl _ _ hrj).mono ?_
        rintro e w16 ⟨v, rfl, ho, hb⟩
        have H10 := hid (H9.out.owns_ (b0 := w1.heap.size) hb ho (Nat.le_refl _) H9.out.bl.size)
        obtain ⟨NA, cN, rfl, _⟩ := H10.out.form 0 rfl
        clear ho hb H9 hrj j0 j1 q0 q1 a0 a1 b0 b1
        have q0 := H10.out.cell 7 0 rfl rfl
        have q1 := H10.out.cell 7 1 rfl rfl
        have a0 := H10.out.cell 6 0 rfl rfl
        have a1 := H10.out.cell 6 1 rfl rfl
        have b0 := H10.out.cell 5 0 rfl rfl
        have b1 := H10.out.cell 5 1 rfl rfl
        go_wp2_with fail
        refine (HP11.out _ H10.out.bl).mono ?_
        rintro e w17 ⟨v, rfl, ho, hb⟩
        have H11 := hid (H10.out.owns_ (b0 := w1.heap.size) hb ho (Nat.le_refl _) H10.out.bl.size)
        obtain ⟨SA, cS, rfl, _⟩ := H11.out.form 0 rfl
        clear ho hb H10 HP4 HP8 HP9 HP10 HP11 q0 q1 a0 a1 b0 b1
        have q0 := H11.out.cell 8 0 rfl rfl
        have q1 := H11.out.cell 8 1 rfl rfl
        have a0 := H11.out.cell 7 0 rfl rfl
        have a1 := H11.out.cell 7 1 rfl rfl
        have b0 := H11.out.cell 6 0 rfl rfl
        have b1 := H11.out.cell 6 1 rfl rfl
        have hsum := HSUM.out
        have hnl := HNL.out
        have hi1 := HL1.out
        have hi2 := HL2.out
        have g1 : IntKind.i64.wrap (x + y) = z := by rw [IntWalk.i64_in _ (by omega)]; exact hsum.1
        have g2 : IntKind.i64.wrap ((ids.length : Int) + (jds.length : Int)) = (ids.length : Int) + (jds.length : Int) := IntWalk.i64_in _ (by omega)
        have g3 : IntKind.i64.wrap ((ids.length : Int) + (jds.length : Int) + 1) = (NL.length : Int) := by rw [IntWalk.i64_in _ (by omega)]; omega
        have g4 : (NL.length : Int) = (ids.length : Int) + (jds.length : Int) + 1 := by omega
        go_wp2_with fail
        go_ret
        exact ⟨rfl, bl_then HB1.out H11.out.bl⟩
  · clear hS hx
    go_enter Try.func7, Try.ntmps7
    go_wp2_with go_in
    go_ret
    exact ⟨rfl, Below.refl _ _⟩
end Go.Proofs.Ytfepilpllfiegaa
