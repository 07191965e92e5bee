/- Lemmas and walks that the claim rests on, laid together. Conditions: none. -/
import Derived.Test.YtfepilpllfiegaaZ5e470b3a76ba
import Derived.Test.YtfepilpllfiegaaZ694063b5fbd7
import Derived.Test.YtfepilpllfiegaaZc3e33f13110d
import Derived.Laws.EntriesVeiled
import Derived.Test.YtfepilpllfiegaaZ25538db5a7df
import Derived.Test.YtfepilpllfiegaaZf3c2460d17f0
import Derived.Test.YtfepilpllfiegaaZ70ba1dc62942
import Derived.Test.YtfepilpllfiegaaZdfbd2eff1c27
import Derived.Test.YtfepilpllfiegaaZ12f6cfc1e877
/- routesBetween, walked: all routes, sorted. Conditions: none. -/
namespace Go.Proofs.Ytfepilpllfiegaa
open Go.RowKit
/-- All routes from s to another node. -/
def rbL (fs : List Fib) (n s to : Nat) : List (List Int) := if s = to then [] else rtsL fs to n s [s] []
theorem Led.emptyRS {w0 w : World} {L : List Thing} (h : Led w0 w L) (g : Nat) (hg : g = w.heap.size) (b0 : Nat) (h0 : b0 ≤ g) : Led w0 (w.alloc (.cells #[] 35)) (tRS b0 (.slice (some ⟨g, 0, none⟩) 0 0) [] [] :: L) := by
  subst hg
  have ho : Owns elRt (w.alloc (.cells #[] 35)) w.heap.size 35 (.slice (some ⟨w.heap.size, 0, none⟩) 0 0) [] := Owns.of_blk (n := 0) (cap := 0) (cur := #[]) (Blk.new w 35 #[]) (Nat.le_refl _) rfl (Nat.le_refl _) (by simp) (by decide) (Filled.zero _ _ _)
  have hO : OwnsRS (w.alloc (.cells #[] 35)) w.heap.size (.slice (some ⟨w.heap.size, 0, none⟩) 0 0) [] [] := ⟨ho, rfl, fun i s r h1 => by simp at h1, fun i j s t g _ h1 => by simp at h1⟩
  exact h.put (bl_alloc (Below.refl _ _) _) (tRS b0 _ [] []) (fun _ e => (hO.lies e).1) (hO.base_ h0)
section
variable {n c m d : Nat} {A A' : Option Addr} {xs : List ByteArray} {fs : List Fib}
theorem rbL_ok {s to : Nat} : ∀ r ∈ rbL fs n s to, r.length ≤ n ∧ ∀ x ∈ r, 0 ≤ x ∧ x < fs.length := by
  intro r hr
  unfold rbL at hr
  split at hr
  · cases hr
  · obtain ⟨e, he, h1, h2⟩ := rtsL_mem _ _ _ _ r hr
    rw [List.nil_append] at he
    subst he
    exact ⟨by omega, h2⟩
theorem rbL_len {s to : Nat} (hn : n ≤ 8) (hm : fs.length ≤ 14) : (rbL fs n s to).length ≤ 2562890625 := by
  unfold rbL
  split
  · exact Nat.zero_le _
  · refine Nat.le_trans (rtsL_len _ _ _ _) ?_
    have h1 : (fs.length + 1) ^ n ≤ 15 ^ n := Nat.pow_le_pow_left (by omega) _
    have h2 : 15 ^ n ≤ 15 ^ 8 := Nat.pow_le_pow_right (by decide) hn
    exact Nat.le_trans h1 (Nat.le_trans h2 (by decide))
set_option maxHeartbeats 4000000 in
set_option maxRecDepth 100000 in
theorem routesBetween_any (w : World) (h : NetIs w A n c A' m d xs fs) (g : goodB xs fs = true) (s to : Nat) (hs : s < n) (_ht : to < n) :
    Calls Try.prog 57 #[.agg #[.slice A n c, .slice A' m d], .int .i64 (s : Int), .int .i64 (to : Int)] w fun e w' => ∃ v ss rows, e = .returned v ∧ rows.Perm ((rbL fs n s to).map fun r => ((s : Int), r)) ∧ rows.Pairwise (fun a b => leR fs (s : Int) a.2 b.2) ∧ OwnsRS w' w.heap.size v ss rows ∧ Below w.heap.size w w' := by
  obtain ⟨he, hn0, hn8, hm14⟩ := good_parts h g
  obtain ⟨w0, hw0⟩ : ∃ w0, w0 = ((w.alloc (.cells #[.slice A n c, .slice A' m d] 27)).alloc (.cells #[.int .i64 (s : Int)] 3)).alloc (.cells #[.int .i64 (to : Int)] 3) := ⟨_, rfl⟩
  have hb0 : Below w.heap.size w w0 := by rw [hw0]; exact bl_alloc (bl_alloc (bl_alloc (Below.refl _ _) _) _) _
  have hsz : w0.heap.size = w.heap.size + 1 + 1 + 1 := by rw [hw0]; simp
  have kN : Blk w0 w.heap.size 27 #[.slice A n c, .slice A' m d] := by rw [hw0]; exact ((Blk.new w _ _).alloc _).alloc _
  have kF : Blk w0 (w.heap.size + 1) 3 #[.int .i64 (s : Int)] := by
    rw [hw0]
    have h1 : Blk ((w.alloc (.cells #[.slice A n c, .slice A' m d] 27)).alloc (.cells #[.int .i64 (s : Int)] 3)) (w.alloc (.cells #[.slice A n c, .slice A' m d] 27)).heap.size 3 #[.int .i64 (s : Int)] := Blk.new _ _ _
    have h2 := h1.alloc (.cells #[.int .i64 (to : Int)] 3)
    simpa using h2
  have kT : Blk w0 (w.heap.size + 1 + 1) 3 #[.int .i64 (to : Int)] := by
    rw [hw0]
    have h1 : Blk (((w.alloc (.cells #[.slice A n c, .slice A' m d] 27)).alloc (.cells #[.int .i64 (s : Int)] 3)).alloc (.cells #[.int .i64 (to : Int)] 3)) ((w.alloc (.cells #[.slice A n c, .slice A' m d] 27)).alloc (.cells #[.int .i64 (s : Int)] 3)).heap.size 3 #[.int .i64 (to : Int)] := Blk.new _ _ _
    simpa using h1
  have hn : NetIs w0 A n c A' m d xs fs := h.grow hb0
  have hL0 := (((Led.nil w0).emptyRS w0.heap.size rfl w0.heap.size (Nat.le_refl _)).blk_ (w0.heap.size + 1) (by simp) 30 #[.slice (some ⟨w0.heap.size, 0, none⟩) 0 0]).blk_ (w0.heap.size + 1 + 1) (by simp) 127 #[.func (.func 122) #[] (capE (w.heap.size + 1 + 1) (w0.heap.size + 1) (w.heap.size + 1) w.heap.size (w0.heap.size + 1 + 1))]
  have hL1 : Led w0 _ (exT w0.heap.size (.slice (some ⟨w0.heap.size, 0, none⟩) 0 0) [] [] (w.heap.size + 1 + 1) (w0.heap.size + 1) (w.heap.size + 1) w.heap.size (w0.heap.size + 1 + 1) w0.heap.size none 0 [] []) := (hL0.nilS elInt 3 w0.heap.size).pick [3, 2, 1, 0] (by decide) rfl
  clear hL0
  rw [hsz] at hL1
  have HL1 : Hid (Led w0 ((((((w.alloc (.cells #[.slice A n c, .slice A' m d] 27)).alloc (.cells #[.int .i64 (s : Int)] 3)).alloc (.cells #[.int .i64 (to : Int)] 3)).alloc (.cells #[] 35)).alloc (.cells #[.slice (some ⟨w.heap.size + 1 + 1 + 1, 0, none⟩) 0 0] 30)).alloc (.cells #[.func (.func 122) #[] #[.pointer (some ⟨w.heap.size + 1 + 1, 0, none⟩), .pointer (some ⟨w.heap.size + 1 + 1 + 1 + 1, 0, none⟩), .pointer (some ⟨w.heap.size + 1, 0, none⟩), .pointer (some ⟨w.heap.size, 0, none⟩), .pointer (some ⟨w.heap.size + 1 + 1 + 1 + 1 + 1, 0, none⟩)]] 127)) (exT w0.heap.size (.slice (some ⟨w.heap.size + 1 + 1 + 1, 0, none⟩) 0 0) [] [] (w.heap.size + 1 + 1) (w.heap.size + 1 + 1 + 1 + 1) (w.heap.size + 1) w.heap.size (w.heap.size + 1 + 1 + 1 + 1 + 1) w0.heap.size none 0 [] [])) := by
    have h1 := hL1
    rw [← hw0, hsz]
    exact h1
  have HN := hid hn
  have HKN := hid kN
  have HKF := hid kF
  have HKT := hid kT
  have HSZ := hid hsz
  have HB0 := hid hb0
  clear hL1 hn kN kF kT hsz hb0 hw0 h he
  by_cases hst : s = to
  · have hst1 : ((s : Int) != (to : Int)) = false := by rw [hst]; simp
    have HR : Hid (rbL fs n s to = []) := by unfold Hid rbL; rw [if_pos hst]
    clear hst
    go_enter Try.func57, Try.ntmps57
    have hl1 := HL1.out
    have hsort := sortRoutes_led (s := (s : Int)) (xs := xs) (fs := fs) hl1 0 rfl (HKN.out.below hl1.bl HKN.out.lt) (fun g' hg' e => by
      have h1 := (hl1.all 0 _ rfl).2 g' (.inl hg')
      have h2 := HSZ.out
      omega) HN.out (goodB_lens g) (fun r hr => by cases hr) (by decide)
    have q0 := hl1.cell 1 0 rfl rfl
    have HSORT := hid hsort
    clear hl1 hsort
    unfold capE at HSORT q0
    go_wp2_with fail
    refine Calls.mono HSORT.out ?_
    rintro e5 w5 ⟨rfl, ss5, rows5, hp5, hs5, hl5⟩
    have H5 := hid hl5
    have q1 := hl5.cell 1 0 rfl rfl
    have HP5 := hid hp5
    have HS5 := hid hs5
    clear hl5 HSORT q0 hp5 hs5
    go_wp2_with fail
    go_ret
    refine ⟨_, ss5, rows5, rfl, ?_, HS5.out, ?_, HB0.out.trans (H5.out.bl.mono HB0.out.size)⟩
    · rw [HR.out]; exact HP5.out
    · exact (show OwnsRS w5 w0.heap.size _ ss5 rows5 from H5.out.get 0 rfl).base_ HB0.out.size
  · have hst1 : ((s : Int) != (to : Int)) = true := by rw [bne_iff_ne]; omega
    have HR : Hid (rbL fs n s to = rtsL fs to n s [s] []) := by unfold Hid rbL; rw [if_neg hst]
    go_enter Try.func57, Try.ntmps57
    go_wp2_with fail
    generalize ((((((w.alloc (.cells #[.slice A n c, .slice A' m d] 27)).alloc (.cells #[.int .i64 (s : Int)] 3)).alloc (.cells #[.int .i64 (to : Int)] 3)).alloc (.cells #[] 35)).alloc (.cells #[.slice (some ⟨w.heap.size + 1 + 1 + 1, 0, none⟩) 0 0] 30)).alloc (.cells #[.func (.func 122) #[] #[.pointer (some ⟨w.heap.size + 1 + 1, 0, none⟩), .pointer (some ⟨w.heap.size + 1 + 1 + 1 + 1, 0, none⟩), .pointer (some ⟨w.heap.size + 1, 0, none⟩), .pointer (some ⟨w.heap.size, 0, none⟩), .pointer (some ⟨w.heap.size + 1 + 1 + 1 + 1 + 1, 0, none⟩)]] 127)) = W1 at HL1 ⊢
    have E0 : ∀ w', exS w0 (w.heap.size + 1 + 1) (w.heap.size + 1 + 1 + 1 + 1) (w.heap.size + 1) w.heap.size (w.heap.size + 1 + 1 + 1 + 1 + 1) w' → w'.cell? ⟨w.heap.size + 1 + 1 + 1 + 1 + 1, 0, none⟩ = some (.func (.func 122) #[] #[.pointer (some ⟨w.heap.size + 1 + 1, 0, none⟩), .pointer (some ⟨w.heap.size + 1 + 1 + 1 + 1, 0, none⟩), .pointer (some ⟨w.heap.size + 1, 0, none⟩), .pointer (some ⟨w.heap.size, 0, none⟩), .pointer (some ⟨w.heap.size + 1 + 1 + 1 + 1 + 1, 0, none⟩)]) := fun _ h => Led.cell h 0 0 rfl rfl
    have E1 : ∀ w', exS w0 (w.heap.size + 1 + 1) (w.heap.size + 1 + 1 + 1 + 1) (w.heap.size + 1) w.heap.size (w.heap.size + 1 + 1 + 1 + 1 + 1) w' → w'.cell? ⟨w.heap.size + 1, 0, none⟩ = some (.int .i64 (s : Int)) := fun _ h => bl_cell (Led.bl h) (by rw [HKF.out.cell]; rfl)
    have hpos : (2 : Nat) ^ s < 2 ^ 20 := Nat.pow_lt_pow_right (by decide) (by omega)
    have hw : IntKind.i64.wrap ((2 : Int) ^ s) = ((2 ^ s : Nat) : Int) := by
      have e : ((2 : Int) ^ s) = ((2 ^ s : Nat) : Int) := by simp
      rw [e]
      have h62 : 2 ^ s < 4611686018427387904 := Nat.lt_trans hpos (by decide)
      generalize 2 ^ s = y at *
      exact IntWalk.i64_in _ (by omega)
    have HW := hid hw
    have hS0 : exS w0 (w.heap.size + 1 + 1) (w.heap.size + 1 + 1 + 1 + 1) (w.heap.size + 1) w.heap.size (w.heap.size + 1 + 1 + 1 + 1 + 1) W1.drew := exS_of (HL1.out.step (Cls.drew W1))
    have HCALL := hid (ext_any HN.out g (by rw [HKT.out.cell]; rfl) (by rw [HKF.out.cell]; rfl) (by rw [HKN.out.cell]; rfl) (by rw [HKN.out.cell]; rfl) (gt := w.heap.size + 1 + 1) (gf := w.heap.size + 1) (gn := w.heap.size) (to := to) (s := s) n s (2 ^ s) [s] [] _ _ _ _ none 0 _ W1.drew (by simp) (fun u hu => by rw [List.mem_singleton.1 hu]; exact hs) (by simp; omega) hs hpos (fun u hu => by rw [Nat.testBit_two_pow, decide_eq_true_eq, List.mem_singleton]; exact eq_comm) (by
      have := rbL_len (fs := fs) (n := n) (s := s) (to := to) hn8 (by have := HN.out.flen; omega)
      rw [HR.out] at this
      simp; omega) rfl (Nat.le_refl _) (HL1.out.step (Cls.drew W1)))
    rw [← HW.out] at HCALL
    unfold capE at HCALL
    clear hpos hw
    have iu : IntKind.u64.wrap (s : Int) = (s : Int) := by rw [IntKind.wrap_u64]; omega
    have imn : min s 64 = s := by omega
    go_region_held3 (fun w' => exS w0 (w.heap.size + 1 + 1) (w.heap.size + 1 + 1 + 1 + 1) (w.heap.size + 1) w.heap.size (w.heap.size + 1 + 1 + 1 + 1 + 1) w') (first | exact hS0 | assumption)
      (first
        | (go_at_call 122; refine HCALL.out.mono ?_; rintro e4 w4 ⟨rfl, V4, ss4, h4⟩; have hS4 := exS_of h4))
    rw [List.nil_append] at h4
    have HLEN : Hid (ss4.length ≤ 1099511627776) := by
      have h1 := (show OwnsRS w4 w0.heap.size V4 ss4 _ from h4.get 0 rfl).2.1
      have := rbL_len (fs := fs) (n := n) (s := s) (to := to) hn8 (by have := HN.out.flen; omega)
      rw [HR.out] at this
      rw [List.length_map] at h1
      refine hid ?_
      omega
    have HOK : Hid (∀ r ∈ (rtsL fs to n s [s] []).map (fun r => ((s : Int), r)), r.1 = (s : Int) ∧ r.2.length ≤ 1048576 ∧ ∀ x ∈ r.2, 0 ≤ x ∧ x < fs.length) := fun r hr => by
      obtain ⟨q, hq, rfl⟩ := List.mem_map.1 hr
      have := rbL_ok (n := n) (fs := fs) (s := s) (to := to) q (by rw [HR.out]; exact hq)
      exact ⟨rfl, by simp only; omega, this.2⟩
    have H4 := hid h4
    clear h4 hS4 hS0 HCALL E0 E1
    have hl1 := H4.out
    obtain ⟨A4, c4, hv4, _⟩ := (show OwnsRS w4 w0.heap.size _ _ _ from hl1.get 0 rfl).1.form
    subst hv4
    have q0 := hl1.cell 1 0 rfl rfl
    have hsort := sortRoutes_led (s := (s : Int)) hl1 0 rfl (HKN.out.below hl1.bl HKN.out.lt) (fun g' hg' e => by
      have h1 := (hl1.all 0 _ rfl).2 g' (.inl hg')
      have h2 := HSZ.out
      omega) HN.out (goodB_lens g) HOK.out HLEN.out
    have HSORT := hid hsort
    have HBL := hid hl1.bl
    clear hl1 hsort
    go_wp2_with fail
    refine HSORT.out.mono ?_
    rintro e5 w5 ⟨rfl, ss5, rows5, hp5, hs5, hl5⟩
    have H5 := hid hl5
    have q1 := hl5.cell 1 0 rfl rfl
    have HP5 := hid hp5
    have HS5 := hid hs5
    clear hl5 HSORT q0 hp5 hs5
    go_wp2_with fail
    go_ret
    refine ⟨_, ss5, rows5, rfl, ?_, HS5.out, ?_, HB0.out.trans (H5.out.bl.mono HB0.out.size)⟩
    · rw [HR.out]; exact HP5.out
    · exact (show OwnsRS w5 w0.heap.size _ ss5 rows5 from H5.out.get 0 rfl).base_ HB0.out.size
end
end Go.Proofs.Ytfepilpllfiegaa
/- What the search finds are routes, in plain Lean. Conditions: as each states. -/
namespace Go.Proofs.Ytfepilpllfiegaa
open Go.RowKit
section
variable {fs : List Fib} {s : Int} {n : Nat}
theorem atW_app (a b : List Int) : ∀ k, k ≤ a.length → atW fs s (a ++ b) k = atW fs s a k := by
  intro k
  induction k with
  | zero => intro _; rfl
  | succ k ih =>
    intro h
    have e : (a ++ b).getD k 0 = a.getD k 0 := by rw [List.getD_eq_getElem?_getD, List.getD_eq_getElem?_getD, List.getElem?_append_left (by omega)]
    unfold atW
    rw [ih (by omega), e]
theorem outW_app (a b : List Int) {k : Nat} (h : k ≤ a.length) : outW fs s (a ++ b) k = outW fs s a k := by
  unfold outW
  refine List.map_congr_left fun j hj => atW_app a b j ?_
  have := List.mem_range.1 hj
  omega
theorem okW_app {m : Nat} (a b : List Int) {k : Nat} (h : k < a.length) : okW m fs s (a ++ b) k = okW m fs s a k := by
  have e : (a ++ b).getD k 0 = a.getD k 0 := by rw [List.getD_eq_getElem?_getD, List.getD_eq_getElem?_getD, List.getElem?_append_left (by omega)]
  unfold okW
  rw [e, atW_app a b (k + 1) h, outW_app a b (Nat.le_of_lt h)]
theorem nxF_inv {i v u : Nat} (h : nxF fs i v = some u) : otherF (fibD fs i) (v : Int) = (u : Int) := by
  unfold nxF at h
  split at h
  · rename_i h0
    injection h with h
    omega
  · cases h
theorem rts_ok {to : Nat} : ∀ (k v : Nat) (seen : List Nat) (ids : List Int), outW fs s ids ids.length = seenI seen → seen.head? = some v → allTo (okW fs.length fs s ids) ids.length →
    ∀ r ∈ rtsL fs to k v seen ids, allTo (okW fs.length fs s r) r.length ∧ (v ≠ to → ids.length < r.length) ∧ atW fs s r r.length = (to : Int) := by
  intro k
  induction k with
  | zero => intro v seen ids _ _ _ r hr; cases hr
  | succ k ih =>
    intro v seen ids ho hh ha r hr
    have hv : atW fs s ids ids.length = (v : Int) := by
      have h1 := outW_get fs s ids ids.length
      obtain ⟨tl, rfl⟩ : ∃ tl, seen = v :: tl := by
        cases seen with
        | nil => cases hh
        | cons a tl => injection hh with hh; subst hh; exact ⟨tl, rfl⟩
      have hl := congrArg List.length ho
      rw [outW_len, seenI_len, List.length_cons] at hl
      rw [ho, seenI_cons, List.getElem?_append_right (by rw [seenI_len]; omega), seenI_len, show ids.length - tl.length = 0 by omega] at h1
      simp at h1
      exact h1.symm
    by_cases hvt : v = to
    · subst hvt
      rw [rtsL_end, List.mem_singleton] at hr
      subst hr
      exact ⟨ha, fun h => absurd rfl h, hv⟩
    · rw [rtsL_on hvt] at hr
      unfold rtsJ at hr
      obtain ⟨i, hi, hr⟩ := List.mem_flatMap.1 hr
      have hi2 : i < fs.length := by simpa using hi
      unfold rtsI at hr
      split at hr
      · rename_i u hu
        split at hr
        · cases hr
        · rename_i hns
          have hou := nxF_inv hu
          have hlen : (ids ++ [(i : Int)]).length = ids.length + 1 := by simp
          have hget : (ids ++ [(i : Int)]).getD ids.length 0 = (i : Int) := by rw [List.getD_eq_getElem?_getD]; simp
          have hat : atW fs s (ids ++ [(i : Int)]) (ids.length + 1) = (u : Int) := by
            unfold atW
            rw [hget, atW_app _ _ _ (Nat.le_refl _), hv]
            exact hou
          have hol := outW_app (fs := fs) (s := s) ids [(i : Int)] (Nat.le_refl _)
          have h1 := ih u (u :: seen) (ids ++ [(i : Int)]) (by rw [hlen, outW_succ, hol, ho, hat, seenI_cons]) rfl (by
            rw [hlen]
            refine allTo_succ (fun j hj => ?_) ?_
            · rw [okW_app _ _ hj]; exact ha j hj
            · unfold okW
              rw [hget, hat, hol, ho]
              have h2 : hasB (seenI seen) (u : Int) = false := Bool.eq_false_iff.2 (fun h => hns (seenI_mem.1 (hasB_iff.1 h)))
              rw [h2]
              unfold inB
              simp
              omega) r hr
          refine ⟨h1.1, fun _ => ?_, h1.2.2⟩
          obtain ⟨e, he, _⟩ := rtsL_mem _ _ _ _ r hr
          rw [he, List.length_append, hlen]; omega
      · cases hr
theorem rbL_rt {s to : Nat} (hs : s < n) {r : List Int} (h : r ∈ rbL fs n s to) : rtB n fs (s : Int) r = true ∧ atW fs (s : Int) r r.length = (to : Int) := by
  unfold rbL at h
  split at h
  · cases h
  · rename_i hne
    obtain ⟨h1, h2, h3⟩ := rts_ok (s := (s : Int)) n s [s] [] rfl rfl (allTo_zero _) r h
    have h2 := h2 hne
    refine ⟨?_, h3⟩
    unfold rtB
    rw [allB_iff.2 h1]
    unfold inB
    have : (r.length == 0) = false := by rw [beq_eq_false_iff_ne]; simp at h2; omega
    rw [this]
    simp
    omega
end
end Go.Proofs.Ytfepilpllfiegaa
/- The best route, by a search that leaves out what cannot be better, in plain Lean: it is the best of all routes. Conditions: as each states. -/
namespace Go.Proofs.Ytfepilpllfiegaa
open Go.RowKit
/-- The route found; its start. -/
def frL (o : Option (List Int)) : List Int := o.getD []
def frS (o : Option (List Int)) (s : Int) : Int := if o.isSome then s else 0
def nxQ (q : Nat → Bool) (fs : List Fib) (i v : Nat) : Option Nat := if q i then none else nxF fs i v
/-- All routes on from v that use no fiber of q. -/
def rtsQ (q : Nat → Bool) (fs : List Fib) (to k v : Nat) (seen : List Nat) (ids : List Int) : List (List Int) := dfsL fs.length to (nxQ q fs) k v seen ids
/-- Is r better than what was found? -/
def btR (few : Bool) (fs : List Fib) (s : Int) : Option (List Int) → List Int → Bool
  | none, _ => true
  | some b, r => if few && !(r.length == b.length) then decide (r.length < b.length) else decide (ordR fs s r s b < 0)
/-- Nothing from v on can be better. -/
def cutR (few : Bool) (fs : List Fib) (D : List Int) (v : Nat) (ids : List Int) : Option (List Int) → Bool
  | none => decide (valL D v < 0)
  | some b => (decide (valL D v < 0) || (!few && decide (lenR fs b < lenR fs ids + valL D v))) || (few && decide (b.length ≤ ids.length))
def bst (few : Bool) (fs : List Fib) (s : Int) (o : Option (List Int)) (r : List Int) : Option (List Int) := if btR few fs s o r then some r else o
def bbL (q : Nat → Bool) (few : Bool) (fs : List Fib) (s : Int) (D : List Int) (to : Nat) : Nat → Nat → List Nat → List Int → Option (List Int) → Option (List Int)
  | 0, _, _, _, o => o
  | k + 1, v, seen, ids, o => if v = to then bst few fs s o ids else if cutR few fs D v ids o then o else (List.range fs.length).foldl (fun o i => match nxQ q fs i v with
    | some u => if u ∈ seen then o else bbL q few fs s D to k u (u :: seen) (ids ++ [(i : Int)]) o
    | none => o) o
section
variable {q : Nat → Bool} {few : Bool} {fs : List Fib} {n to : Nat} {s : Int}
theorem lenR_sum (ids : List Int) : lenR fs ids = (ids.map fun i => (fs.getD i.toNat ⟨0, 0, 0, 0⟩).len).sum := by unfold lenR rlTo; rw [List.take_length]
theorem lenR_app (a b : List Int) : lenR fs (a ++ b) = lenR fs a + lenR fs b := by rw [lenR_sum, lenR_sum, lenR_sum, List.map_append, List.sum_append]
theorem lenR_one (i : Nat) : lenR fs [(i : Int)] = (fibD fs i).len := by rw [lenR_sum]; simp [fibD]
theorem dist_src (he : endsB n fs) (hl : lensB fs) (hs : to < n) : 0 ≤ valL (distL q fs n to) to ∧ valL (distL q fs n to) to ≤ 0 := by
  have key : ∀ k, better (valL (dstRnd q fs n to k) to) (valL (dst0 n to) to) := by
    intro k
    induction k with
    | zero => exact better_refl _
    | succ k ih => exact better_trans (dstPass_better (dstRnd_len k) he hl to) ih
  have h := key n
  rw [dst0_val hs to hs, if_pos rfl] at h
  unfold better at h
  unfold distL
  omega
theorem dist_arc (he : endsB n fs) (hl : lensB fs) (hs : to < n) {i u v : Nat} (hi : i < fs.length) (hq : q i = false) (h : nxF fs i v = some u) (hu : 0 ≤ valL (distL q fs n to) u) :
    0 ≤ valL (distL q fs n to) v ∧ valL (distL q fs n to) v ≤ (fibD fs i).len + valL (distL q fs n to) u := by
  have hf := distL_fixed (q := q) he hl hs
  obtain ⟨h0, h1, h2⟩ := he i hi
  have key : ∀ j, j < 2 * fs.length → j / 2 = i → arcU fs j = u → arcV fs j = v → 0 ≤ valL (distL q fs n to) v ∧ valL (distL q fs n to) v ≤ (fibD fs i).len + valL (distL q fs n to) u := by
    intro j hj hji hU hV
    have hno : ¬ (canB (arcU fs j) (arcV fs j) (arcLn fs j) (distL q fs n to) = true) := fun hx => hf _ ⟨j, hj, by rw [hji]; exact hq, hx, Int.le_refl _⟩
    rw [canB_iff, hU, hV] at hno
    have hL : arcLn fs j = (fibD fs i).len := by unfold arcLn; rw [hji]
    rw [hL] at hno
    omega
  unfold nxF otherF at h
  by_cases ha : (v : Int) = (fibD fs i).a
  · rw [if_pos ha] at h
    rw [if_pos (by omega)] at h
    injection h with h
    refine key (2 * i + 1) (by omega) (by omega) ?_ ?_
    · unfold arcU; rw [if_neg (by omega), show (2 * i + 1) / 2 = i by omega]; exact h
    · unfold arcV; rw [if_neg (by omega), show (2 * i + 1) / 2 = i by omega]; omega
  · rw [if_neg ha] at h
    by_cases hb : (v : Int) = (fibD fs i).b
    · rw [if_pos hb] at h
      rw [if_pos (by omega)] at h
      injection h with h
      refine key (2 * i) (by omega) (by omega) ?_ ?_
      · unfold arcU; rw [if_pos (by omega), show (2 * i) / 2 = i by omega]; exact h
      · unfold arcV; rw [if_pos (by omega), show (2 * i) / 2 = i by omega]; omega
    · rw [if_neg hb] at h
      simp at h
theorem rtsQ_on {k v : Nat} {seen : List Nat} {ids : List Int} (h : v ≠ to) : rtsQ q fs to (k + 1) v seen ids = (List.range fs.length).flatMap fun i => match nxQ q fs i v with
    | some u => if u ∈ seen then [] else rtsQ q fs to k u (u :: seen) (ids ++ [(i : Int)])
    | none => [] := by
  unfold rtsQ
  rw [dfsL, if_neg h]
  rfl
theorem rtsQ_end {k : Nat} {seen : List Nat} {ids : List Int} : rtsQ q fs to (k + 1) to seen ids = [ids] := by unfold rtsQ; rw [dfsL, if_pos rfl]
/-- What is found from v: fibers on, as far at least as the distance says. -/
theorem rtsQ_mem (he : endsB n fs) (hl : lensB fs) (hs : to < n) : ∀ (k v : Nat) (seen : List Nat) (ids : List Int), ∀ r ∈ rtsQ q fs to k v seen ids, ∃ e, r = ids ++ e ∧ (v ≠ to → 1 ≤ e.length) ∧ 0 ≤ valL (distL q fs n to) v ∧ valL (distL q fs n to) v ≤ lenR fs e := by
  intro k
  induction k with
  | zero => intro v seen ids r hr; cases hr
  | succ k ih =>
    intro v seen ids r hr
    by_cases hv : v = to
    · subst hv
      rw [rtsQ_end, List.mem_singleton] at hr
      subst hr
      have := dist_src (q := q) he hl hs
      exact ⟨[], by simp, fun h => absurd rfl h, this.1, this.2⟩
    · rw [rtsQ_on hv] at hr
      obtain ⟨i, hi, hr⟩ := List.mem_flatMap.1 hr
      have hi2 : i < fs.length := by simpa using hi
      split at hr
      · rename_i u hu
        split at hr
        · cases hr
        · obtain ⟨e, rfl, _, h2, h3⟩ := ih _ _ _ r hr
          unfold nxQ at hu
          split at hu
          · cases hu
          · rename_i hq
            have h4 := dist_arc (q := q) he hl hs hi2 (by simpa using hq) hu h2
            refine ⟨[(i : Int)] ++ e, by simp, fun _ => by simp, h4.1, ?_⟩
            rw [lenR_app, lenR_one]
            omega
      · cases hr
theorem cut_worse (he : endsB n fs) (hl : lensB fs) (hs : to < n) {k v : Nat} {seen : List Nat} {ids : List Int} {o : Option (List Int)} (hv : v ≠ to) (h : cutR few fs (distL q fs n to) v ids o = true) : ∀ r ∈ rtsQ q fs to k v seen ids, btR few fs s o r = false := by
  intro r hr
  obtain ⟨e, rfl, h1, h2, h3⟩ := rtsQ_mem he hl hs k v seen ids r hr
  have h1 := h1 hv
  cases o with
  | none => unfold cutR at h; rw [decide_eq_true_eq] at h; omega
  | some b =>
    unfold cutR at h
    unfold btR
    rw [Bool.or_eq_true, Bool.or_eq_true, Bool.and_eq_true, Bool.and_eq_true, decide_eq_true_eq, decide_eq_true_eq, decide_eq_true_eq] at h
    rcases h with (h | h) | h
    · omega
    · have hf : few = false := by simpa using h.1
      subst hf
      simp only [Bool.false_and, Bool.false_eq_true, if_false]
      rw [decide_eq_false_iff_not, ordR_eq, lenR_app]
      rw [if_neg (by omega), if_pos (by omega)]
      omega
    · have hf := h.1
      subst hf
      have hlt : ¬ (ids ++ e).length = b.length := by rw [List.length_append]; omega
      have hx : (true && !((ids ++ e).length == b.length)) = true := by rw [Bool.true_and, Bool.not_eq_true', beq_eq_false_iff_ne]; exact hlt
      show (if (true && !((ids ++ e).length == b.length)) = true then decide ((ids ++ e).length < b.length) else decide (ordR fs s (ids ++ e) s b < 0)) = false
      rw [if_pos hx, decide_eq_false_iff_not, List.length_append]
      omega
theorem bst_stay {o : Option (List Int)} : ∀ (l : List (List Int)), (∀ r ∈ l, btR few fs s o r = false) → l.foldl (bst few fs s) o = o := by
  intro l
  induction l with
  | nil => intro _; rfl
  | cons r l ih =>
    intro h
    have e : bst few fs s o r = o := by unfold bst; rw [h r List.mem_cons_self]; rfl
    rw [List.foldl_cons, e]
    exact ih fun x hx => h x (List.mem_cons_of_mem _ hx)
/-- What is left out changes nothing. -/
theorem bbL_eq (he : endsB n fs) (hl : lensB fs) (hs : to < n) : ∀ (k v : Nat) (seen : List Nat) (ids : List Int) (o : Option (List Int)), bbL q few fs s (distL q fs n to) to k v seen ids o = (rtsQ q fs to k v seen ids).foldl (bst few fs s) o := by
  intro k
  induction k with
  | zero => intro v seen ids o; rfl
  | succ k ih =>
    intro v seen ids o
    by_cases hv : v = to
    · subst hv
      rw [rtsQ_end]
      unfold bbL
      rw [if_pos rfl]
      rfl
    · unfold bbL
      rw [if_neg hv]
      cases hc : cutR few fs (distL q fs n to) v ids o
      · rw [if_neg (by decide), rtsQ_on hv]
        suffices hh : ∀ (is : List Nat) (o : Option (List Int)), is.foldl (fun o i => match nxQ q fs i v with
            | some u => if u ∈ seen then o else bbL q few fs s (distL q fs n to) to k u (u :: seen) (ids ++ [(i : Int)]) o
            | none => o) o = (is.flatMap fun i => match nxQ q fs i v with
            | some u => if u ∈ seen then [] else rtsQ q fs to k u (u :: seen) (ids ++ [(i : Int)])
            | none => []).foldl (bst few fs s) o from hh _ _
        intro is
        induction is with
        | nil => intro o; rfl
        | cons i is ihs =>
          intro o
          rw [List.foldl_cons, List.flatMap_cons, List.foldl_append, ihs]
          congr 1
          cases nxQ q fs i v with
          | none => rfl
          | some u =>
            simp only []
            split
            · rfl
            · exact ih _ _ _ _
      · rw [if_pos rfl, bst_stay _ (cut_worse he hl hs hv hc)]
/-- The order that the search goes by. -/
def le2 (few : Bool) (fs : List Fib) (s : Int) (a b : List Int) : Prop := if few then a.length < b.length ∨ (a.length = b.length ∧ leR fs s a b) else leR fs s a b
theorem le2_refl (a : List Int) : le2 few fs s a a := by
  have h : leR fs s a a := by
    rcases Classical.em (leR fs s a a) with h | h
    · exact h
    · exact leR_total h
  unfold le2; split
  · exact .inr ⟨rfl, h⟩
  · exact h
theorem le2_trans {a b c : List Int} (h1 : le2 few fs s a b) (h2 : le2 few fs s b c) : le2 few fs s a c := by
  unfold le2 at *
  split at h1
  · rename_i hf
    rw [if_pos hf] at *
    rcases h1 with h1 | ⟨h1, h3⟩
    · rcases h2 with h2 | ⟨h2, h4⟩
      · exact .inl (by omega)
      · exact .inl (by omega)
    · rcases h2 with h2 | ⟨h2, h4⟩
      · exact .inl (by omega)
      · exact .inr ⟨by omega, leR_trans h3 h4⟩
  · rename_i hf
    rw [if_neg hf] at *
    exact leR_trans h1 h2
theorem le2_anti {a b : List Int} (h1 : le2 few fs s a b) (h2 : le2 few fs s b a) : a = b := by
  unfold le2 at *
  split at h1
  · rename_i hf
    rw [if_pos hf] at *
    rcases h1 with h1 | ⟨h1, h3⟩
    · rcases h2 with h2 | ⟨h2, h4⟩ <;> omega
    · rcases h2 with h2 | ⟨h2, h4⟩
      · omega
      · exact leR_anti h3 h4
  · rename_i hf
    rw [if_neg hf] at *
    exact leR_anti h1 h2
theorem ordR_turn (a b : List Int) : ordR fs s a s b = -ordR fs s b s a := by
  rw [ordR_eq, ordR_eq]
  have hf := cmpL_flip a b
  repeat' split
  all_goals omega
theorem btR_iff {b r : List Int} : btR few fs s (some b) r = true ↔ ¬ le2 few fs s b r := by
  have hf := ordR_turn (fs := fs) (s := s) r b
  unfold btR le2 leR
  cases few
  · simp only [Bool.false_and, Bool.false_eq_true, if_false, decide_eq_true_eq]
    omega
  · by_cases h : r.length = b.length
    · simp only [h, Bool.true_and, beq_self_eq_true, Bool.not_true, Bool.false_eq_true, if_false, decide_eq_true_eq, if_true]
      constructor
      · rintro h1 (h2 | ⟨_, h2⟩) <;> omega
      · intro h1
        rcases Int.lt_or_le (ordR fs s r s b) 0 with h2 | h2
        · exact h2
        · exact absurd (.inr ⟨by first | trivial | rfl, by omega⟩) h1
    · have h2 : (r.length == b.length) = false := by rw [beq_eq_false_iff_ne]; exact h
      simp only [h2, Bool.true_and, Bool.not_false, if_true, decide_eq_true_eq]
      omega
theorem le2_of_not {a b : List Int} (h : ¬ le2 few fs s a b) : le2 few fs s b a := by
  unfold le2 at *
  split at h
  · rename_i hf
    rw [if_pos hf]
    rcases Nat.lt_trichotomy b.length a.length with h1 | h1 | h1
    · exact .inl h1
    · exact .inr ⟨h1, leR_total fun h2 => h (.inr ⟨h1.symm, h2⟩)⟩
    · exact absurd (.inl h1) h
  · rename_i hf
    rw [if_neg hf]
    exact leR_total h
theorem best_some : ∀ (l : List (List Int)) (b : List Int), ∃ m, l.foldl (bst few fs s) (some b) = some m ∧ (m = b ∨ m ∈ l) ∧ le2 few fs s m b ∧ ∀ x ∈ l, le2 few fs s m x := by
  intro l
  induction l with
  | nil => intro b; exact ⟨b, rfl, .inl rfl, le2_refl b, fun x hx => by cases hx⟩
  | cons r l ih =>
    intro b
    rw [List.foldl_cons]
    by_cases h : le2 few fs s b r
    · have e : bst few fs s (some b) r = some b := by
        unfold bst
        rw [if_neg (fun h2 => btR_iff.1 h2 h)]
      rw [e]
      obtain ⟨m, h1, h2, h3, h4⟩ := ih b
      refine ⟨m, h1, h2.elim .inl (fun x => .inr (List.mem_cons_of_mem _ x)), h3, fun x hx => ?_⟩
      rcases List.mem_cons.1 hx with rfl | hx
      · exact le2_trans h3 h
      · exact h4 x hx
    · have e : bst few fs s (some b) r = some r := by
        unfold bst
        rw [if_pos (btR_iff.2 h)]
      rw [e]
      obtain ⟨m, h1, h2, h3, h4⟩ := ih r
      refine ⟨m, h1, .inr (h2.elim (fun x => by rw [x]; exact List.mem_cons_self) (fun x => List.mem_cons_of_mem _ x)), le2_trans h3 (le2_of_not h), fun x hx => ?_⟩
      rcases List.mem_cons.1 hx with rfl | hx
      · exact h3
      · exact h4 x hx
theorem best_of (l : List (List Int)) : (l = [] ∧ l.foldl (bst few fs s) none = none) ∨ ∃ m, l.foldl (bst few fs s) none = some m ∧ m ∈ l ∧ ∀ x ∈ l, le2 few fs s m x := by
  cases l with
  | nil => exact .inl ⟨rfl, rfl⟩
  | cons r l =>
    obtain ⟨m, h1, h2, h3, h4⟩ := best_some (few := few) (fs := fs) (s := s) l r
    refine .inr ⟨m, h1, ?_, fun x hx => ?_⟩
    · rcases h2 with rfl | h2
      · exact List.mem_cons_self
      · exact List.mem_cons_of_mem _ h2
    · rcases List.mem_cons.1 hx with rfl | hx
      · exact h3
      · exact h4 x hx
/-- A route that uses no fiber of q. -/
def avQ (q : Nat → Bool) (r : List Int) : Bool := r.all fun x => !q x.toNat
theorem rtsQ_filter : ∀ (k v : Nat) (seen : List Nat) (ids : List Int), avQ q ids = true → rtsQ q fs to k v seen ids = (rtsL fs to k v seen ids).filter (avQ q) := by
  intro k
  induction k with
  | zero => intro v seen ids _; rfl
  | succ k ih =>
    intro v seen ids h
    by_cases hv : v = to
    · subst hv
      rw [rtsQ_end, rtsL_end, List.filter_cons, h]
      rfl
    · rw [rtsQ_on hv, rtsL_on hv]
      unfold rtsJ
      rw [List.filter_flatMap]
      congr 1
      funext i
      unfold nxQ rtsI
      cases hq : q i
      · simp only [Bool.false_eq_true, if_false]
        cases nxF fs i v with
        | none => rfl
        | some u =>
          simp only []
          split
          · rfl
          · refine ih _ _ _ ?_
            unfold avQ at *
            rw [List.all_append, h]
            simp [hq]
      · simp only [if_true]
        cases nxF fs i v with
        | none => rfl
        | some u =>
          simp only []
          split
          · rfl
          · symm
            rw [List.filter_eq_nil_iff]
            intro r hr
            obtain ⟨e, rfl, _⟩ := rtsL_mem _ _ _ _ r hr
            unfold avQ
            rw [List.all_append, List.all_append]
            simp [hq]
theorem find_least {p : List Int → Bool} : ∀ {l : List (List Int)} {r : List Int}, l.Pairwise (leR fs s) → l.find? p = some r → ∀ y ∈ l, p y = true → leR fs s r y := by
  intro l
  induction l with
  | nil => intro r _ h; cases h
  | cons x l ih =>
    intro r hp h y hy hpy
    rw [List.pairwise_cons] at hp
    rw [List.find?_cons] at h
    cases hx : p x
    · rw [hx] at h
      rcases List.mem_cons.1 hy with rfl | hy
      · rw [hx] at hpy; cases hpy
      · exact ih hp.2 h y hy hpy
    · rw [hx] at h
      injection h with h
      subst h
      rcases List.mem_cons.1 hy with rfl | hy
      · have := le2_refl (few := false) (fs := fs) (s := s) y
        unfold le2 at this
        simpa using this
      · exact hp.1 y hy
/-- The first in the order of all routes that hold: the best of them. -/
theorem best_first (D : List (List Int)) (p : List Int → Bool) : (D.filter p).foldl (bst false fs s) none = (srtR fs s D).find? p := by
  have hs := srtR_ok (fs := fs) (s := s) D
  rcases best_of (few := false) (fs := fs) (s := s) (D.filter p) with ⟨h1, h2⟩ | ⟨m, h1, h2, h3⟩
  · rw [h2]
    symm
    rw [List.find?_eq_none]
    intro x hx hpx
    have : x ∈ D.filter p := List.mem_filter.2 ⟨hs.2.mem_iff.1 hx, hpx⟩
    rw [h1] at this
    cases this
  · rw [h1]
    obtain ⟨hm, hpm⟩ := List.mem_filter.1 h2
    cases hf : (srtR fs s D).find? p with
    | none => exact absurd hpm (List.find?_eq_none.1 hf m (hs.2.mem_iff.2 hm))
    | some r =>
      have hr1 := List.mem_of_find?_eq_some hf
      have hr2 := List.find?_some hf
      have a1 : leR fs s r m := find_least hs.1 hf m (hs.2.mem_iff.2 hm) hpm
      have a2 : le2 false fs s m r := h3 r (List.mem_filter.2 ⟨hs.2.mem_iff.1 hr1, hr2⟩)
      unfold le2 at a2
      rw [leR_anti a1 (by simpa using a2)]
/-- The first of the fewest, as MinFunc goes. -/
def mnF (o : Option (List Int)) (r : List Int) : Option (List Int) := match o with
  | none => some r
  | some b => if r.length < b.length then some r else some b
def mnO (l : List (List Int)) : Option (List Int) := l.foldl mnF none
theorem mnF_some : ∀ (l : List (List Int)) (b : List Int), (∀ x ∈ l, leR fs s b x) → l.Pairwise (leR fs s) → ∃ m, l.foldl mnF (some b) = some m ∧ (m = b ∨ m ∈ l) ∧ le2 true fs s m b ∧ ∀ x ∈ l, le2 true fs s m x := by
  intro l
  induction l with
  | nil => intro b _ _; exact ⟨b, rfl, .inl rfl, le2_refl b, fun x hx => by cases hx⟩
  | cons r l ih =>
    intro b hb hp
    rw [List.pairwise_cons] at hp
    rw [List.foldl_cons]
    by_cases h : r.length < b.length
    · have e : mnF (some b) r = some r := by unfold mnF; simp [h]
      rw [e]
      obtain ⟨m, h1, h2, h3, h4⟩ := ih r hp.1 hp.2
      have hrb : le2 true fs s r b := .inl h
      refine ⟨m, h1, .inr (h2.elim (fun x => by rw [x]; exact List.mem_cons_self) (fun x => List.mem_cons_of_mem _ x)), le2_trans h3 hrb, fun x hx => ?_⟩
      rcases List.mem_cons.1 hx with rfl | hx
      · exact h3
      · exact h4 x hx
    · have e : mnF (some b) r = some b := by unfold mnF; simp [h]
      rw [e]
      obtain ⟨m, h1, h2, h3, h4⟩ := ih b (fun x hx => hb x (List.mem_cons_of_mem _ hx)) hp.2
      have hbr : le2 true fs s b r := by
        show b.length < r.length ∨ _
        rcases Nat.lt_or_ge b.length r.length with h5 | h5
        · exact .inl h5
        · exact .inr ⟨by omega, hb r List.mem_cons_self⟩
      refine ⟨m, h1, h2.elim .inl (fun x => .inr (List.mem_cons_of_mem _ x)), h3, fun x hx => ?_⟩
      rcases List.mem_cons.1 hx with rfl | hx
      · exact le2_trans h3 hbr
      · exact h4 x hx
theorem best_few (D : List (List Int)) : D.foldl (bst true fs s) none = mnO (srtR fs s D) := by
  have hs := srtR_ok (fs := fs) (s := s) D
  unfold mnO
  rcases best_of (few := true) (fs := fs) (s := s) D with ⟨h1, h2⟩ | ⟨m, h1, h2, h3⟩
  · subst h1; rfl
  · rw [h1]
    cases hl : srtR fs s D with
    | nil => rw [hl] at hs; exact absurd (hs.2.mem_iff.2 h2) (by simp)
    | cons r l =>
      rw [hl] at hs
      have hp := List.pairwise_cons.1 hs.1
      obtain ⟨m2, g1, g2, g3, g4⟩ := mnF_some l r hp.1 hp.2
      show some m = l.foldl mnF (some r)
      rw [g1]
      have hm2 : m2 ∈ D := hs.2.mem_iff.1 (by
        rcases g2 with rfl | g2
        · exact List.mem_cons_self
        · exact List.mem_cons_of_mem _ g2)
      have hm : le2 true fs s m2 m := by
        rcases List.mem_cons.1 (hs.2.mem_iff.2 h2) with h | h
        · rw [h]; exact g3
        · exact g4 m h
      rw [le2_anti (h3 m2 hm2) hm]
end
end Go.Proofs.Ytfepilpllfiegaa
/- Routes turned round and joined, in plain Lean. Conditions: as each states. -/
namespace Go.Proofs.Ytfepilpllfiegaa
open Go.RowKit
section
variable {n : Nat} {fs : List Fib} {s : Int} {ids : List Int}
theorem otherF_back {f : Fib} {v : Int} (h1 : 0 ≤ f.a ∧ f.a < f.b) (h : 0 ≤ otherF f v) : otherF f (otherF f v) = v := by
  unfold otherF at *
  by_cases ha : v = f.a
  · rw [if_pos ha, if_neg (by omega), if_pos rfl]; exact ha.symm
  · by_cases hb : v = f.b
    · rw [if_neg ha, if_pos hb, if_pos rfl]; exact hb.symm
    · rw [if_neg ha, if_neg hb] at h; omega
theorem otherF_ends {f : Fib} {v : Int} (h : 0 ≤ otherF f v) : (v = f.a ∧ otherF f v = f.b) ∨ (v = f.b ∧ v ≠ f.a ∧ otherF f v = f.a) := by
  unfold otherF at *
  by_cases ha : v = f.a
  · rw [if_pos ha]; exact .inl ⟨ha, rfl⟩
  · by_cases hb : v = f.b
    · rw [if_neg ha, if_pos hb]; exact .inr ⟨hb, ha, rfl⟩
    · rw [if_neg ha, if_neg hb] at h; omega
theorem fibB_ab {f : Fib} (h : fibB n f = true) : 0 ≤ f.a ∧ f.a < f.b := by
  unfold fibB at h
  simp at h
  omega
theorem atW_range (hf : ∀ f ∈ fs, fibB n f = true) (h : rtB n fs s ids = true) {k : Nat} (hk : k ≤ ids.length) : 0 ≤ atW fs s ids k ∧ atW fs s ids k < n :=
  outW_range hf h k hk _ (List.mem_of_getElem? (outW_get fs s ids k))
theorem atW_ne (h : rtB n fs s ids = true) {i j : Nat} (hij : i < j) (hj : j ≤ ids.length) : atW fs s ids i ≠ atW fs s ids j := by
  have h1 := outW_nodup (rtB_parts h).2.2 _ (Nat.le_refl _)
  rw [List.Nodup, List.pairwise_iff_getElem] at h1
  have h2 := h1 i j (by rw [outW_len]; omega) (by rw [outW_len]; omega) hij
  simpa [outW] using h2
/-- Step j of a route: its fiber, and where it leads. -/
theorem rt_step (hf : ∀ f ∈ fs, fibB n f = true) (h : rtB n fs s ids = true) {j : Nat} (hj : j < ids.length) :
    ∃ i f, ids[j]? = some i ∧ fs[i.toNat]? = some f ∧ 0 ≤ i ∧ (0 ≤ f.a ∧ f.a < f.b) ∧ atW fs s ids (j + 1) = otherF f (atW fs s ids j) ∧ 0 ≤ otherF f (atW fs s ids j) := by
  have hi := rtB_at h (List.getElem?_eq_getElem hj)
  have hfi : fs[(ids[j]).toNat]? = some (fs[(ids[j]).toNat]'(by omega)) := List.getElem?_eq_getElem _
  have e := atW_succ (s := s) (List.getElem?_eq_getElem hj) hfi
  have hr := atW_range hf h (k := j + 1) (by omega)
  exact ⟨_, _, List.getElem?_eq_getElem hj, hfi, hi.1, fibB_ab (hf _ (List.mem_of_getElem? hfi)), e, by rw [← e]; exact hr.1⟩
/-- No fiber is used twice. -/
theorem rt_once (hf : ∀ f ∈ fs, fibB n f = true) (h : rtB n fs s ids = true) {u v : Nat} {x : Int} (huv : u < v) (hu : ids[u]? = some x) (hv : ids[v]? = some x) : False := by
  have hul := (List.getElem?_eq_some_iff.1 hu).1
  have hvl := (List.getElem?_eq_some_iff.1 hv).1
  obtain ⟨i, f, h1, h2, _, hab, h3, h4⟩ := rt_step hf h hul
  obtain ⟨i', f', k1, k2, _, _, k3, k4⟩ := rt_step hf h hvl
  rw [hu] at h1; injection h1 with h1; subst h1
  rw [hv] at k1; injection k1 with k1; subst k1
  rw [h2] at k2; injection k2 with k2; subst k2
  have n1 := atW_ne h huv (by omega)
  have n2 := atW_ne h (show u < v + 1 by omega) (by omega)
  rw [k3] at n2
  have back := otherF_back hab h4
  have e : atW fs s ids v = otherF f (atW fs s ids u) := by
    rcases otherF_ends h4 with ⟨a1, a2⟩ | ⟨a1, _, a2⟩ <;> rcases otherF_ends k4 with ⟨b1, b2⟩ | ⟨b1, _, b2⟩
    · exact absurd (a1.trans b1.symm) n1
    · rw [a2]; exact b1
    · rw [a2]; exact b1
    · exact absurd (a1.trans b1.symm) n1
  rw [e, back] at n2
  exact n2 rfl
theorem rev_at (hf : ∀ f ∈ fs, fibB n f = true) (h : rtB n fs s ids = true) : ∀ k, k ≤ ids.length → atW fs (atW fs s ids ids.length) ids.reverse k = atW fs s ids (ids.length - k) := by
  intro k
  induction k with
  | zero => intro _; rfl
  | succ k ih =>
    intro hk
    obtain ⟨i, f, h1, h2, _, hab, h3, h4⟩ := rt_step hf h (j := ids.length - 1 - k) (by omega)
    have hr : ids.reverse[k]? = some i := by rw [List.getElem?_reverse (by omega)]; exact h1
    rw [atW_succ hr h2, ih (by omega), show ids.length - k = (ids.length - 1 - k) + 1 by omega, h3, otherF_back hab h4]
    congr 1
    omega
theorem rev_ok (hf : ∀ f ∈ fs, fibB n f = true) (h : rtB n fs s ids = true) : rtB n fs (atW fs s ids ids.length) ids.reverse = true := by
  have hr := atW_range hf h (k := ids.length) (Nat.le_refl _)
  have hne := (rtB_parts h).2.1
  unfold rtB
  rw [Bool.and_eq_true, Bool.and_eq_true]
  refine ⟨by unfold inB; simp; omega, by simpa using hne, allB_iff.2 fun k hk => ?_⟩
  have hk2 : k < ids.length := by simpa using hk
  have hat := rev_at hf h
  have h1 := atW_range hf h (k := ids.length - (k + 1)) (by omega)
  have hm := rtB_mem h (ids.reverse.getD k 0) (by
    rw [List.getD_eq_getElem?_getD, List.getElem?_reverse hk2, List.getElem?_eq_getElem (by omega)]
    exact List.getElem_mem _)
  have hin : inB 0 ((fs.length : Int) - 1) (ids.reverse.getD k 0) = true := by
    generalize ids.reverse.getD k 0 = y at hm
    unfold inB; simp; omega
  unfold okW
  rw [Bool.and_eq_true, Bool.and_eq_true, hat (k + 1) (by omega)]
  refine ⟨hin, by rw [Bool.not_eq_true', decide_eq_false_iff_not]; omega, ?_⟩
  rw [Bool.not_eq_true', Bool.eq_false_iff]
  intro hx
  have hx2 := hasB_iff.1 hx
  unfold outW at hx2
  obtain ⟨j, hj, he⟩ := List.mem_map.1 hx2
  have hj2 : j ≤ k := by have := List.mem_range.1 hj; omega
  rw [hat j (by omega)] at he
  exact atW_ne h (show ids.length - (k + 1) < ids.length - j by omega) (by omega) he.symm
theorem rev_end (hf : ∀ f ∈ fs, fibB n f = true) (h : rtB n fs s ids = true) : atW fs (atW fs s ids ids.length) ids.reverse ids.reverse.length = s := by
  rw [List.length_reverse, rev_at hf h _ (Nat.le_refl _), Nat.sub_self]; rfl
theorem lenR_rev : ∀ ids : List Int, lenR fs ids.reverse = lenR fs ids := by
  intro ids
  induction ids with
  | nil => rfl
  | cons x l ih =>
    rw [List.reverse_cons, lenR_app, ih, Int.add_comm, ← lenR_app]; rfl
theorem join_apart (hf : ∀ f ∈ fs, fibB n f = true) {a b : List Int} (h : rtB n fs s (a ++ b) = true) : comL a b = [] := by
  rw [List.eq_nil_iff_forall_not_mem]
  intro x hx
  obtain ⟨ha, hb⟩ := ((comL_asc a b).2 x).1 hx
  obtain ⟨p, hp⟩ := List.getElem?_of_mem ha
  obtain ⟨q, hq⟩ := List.getElem?_of_mem hb
  have hpl := (List.getElem?_eq_some_iff.1 hp).1
  refine rt_once hf h (u := p) (v := a.length + q) (x := x) (by omega) ?_ ?_
  · rw [List.getElem?_append_left hpl]; exact hp
  · rw [List.getElem?_append_right (by omega), show a.length + q - a.length = q by omega]; exact hq
end
end Go.Proofs.Ytfepilpllfiegaa
/- l4Pair, l4All, AllRoutes of the reference, walked. Conditions: none. By alls.py. -/
namespace Go.Proofs.Ytfepilpllfiegaa
open Go.RowKit
/-- All routes sorted, if there are few enough. -/
def alL (fs : List Fib) (n s to : Nat) : List (List Int) := if (rbL fs n s to).length ≤ 200 then srtR fs (s : Int) (rbL fs n s to) else []
def alB (fs : List Fib) (n s to : Nat) : Bool := decide ((rbL fs n s to).length ≤ 200)
def arB (xs : List ByteArray) (fs : List Fib) (f t : Int) : Bool := mcB xs fs f t && alB fs xs.length f.toNat t.toNat
def arL (xs : List ByteArray) (fs : List Fib) (f t : Int) : List (Int × List Int) := if mcB xs fs f t then (alL fs xs.length f.toNat t.toNat).map fun r => (f, r) else []
theorem arL_parts {xs : List ByteArray} {fs : List Fib} {f t : Int} : (arL xs fs f t).length ≤ 200 ∧ ∀ r ∈ arL xs fs f t, r.2.length ≤ 8 := by
  unfold arL
  cases g : mcB xs fs f t
  · exact ⟨by simp, fun r hr => by cases hr⟩
  · have hb := goodB_bd (mcB_parts g).1
    refine ⟨?_, fun r hr => ?_⟩
    · rw [if_pos rfl, List.length_map]
      unfold alL
      split
      · rw [(srtR_ok _).2.length_eq]; assumption
      · simp
    · rw [if_pos rfl] at hr
      obtain ⟨q, hq, rfl⟩ := List.mem_map.1 hr
      unfold alL at hq
      split at hq
      · have := (rbL_ok q ((srtR_ok _).2.mem_iff.1 hq)).1
        simp only; omega
      · cases hq
theorem sum_le : ∀ (l : List (Int × List Int)), (∀ r ∈ l, r.2.length ≤ 8) → (l.map fun r => 1 + r.2.length).sum ≤ 9 * l.length := by
  intro l
  induction l with
  | nil => intro _; simp
  | cons r l ih =>
    intro h
    have h1 := ih fun x hx => h x (List.mem_cons_of_mem _ hx)
    have h2 := h r List.mem_cons_self
    simp only [List.map_cons, List.sum_cons, List.length_cons]
    omega
theorem off_small {l : List (Int × List Int)} (h : l.length ≤ 200 ∧ ∀ r ∈ l, r.2.length ≤ 8) : offR 1 l l.length ≤ 1099511627776 := by
  unfold offR
  rw [List.take_length]
  have := sum_le l h.2
  have := h.1
  omega
theorem Led.recopy {w0 w : World} {base b2 : Nat} {V V2 : Value} {ss : List (Int × Sl)} {rows : List (Int × List Int)} {R : List Thing} (h : Led w0 w (tOwns elRt b2 35 V2 ss :: tRS base V ss rows :: R)) (hb2 : base ≤ b2) : Led w0 w (tRS base V2 ss rows :: R) := by
  have hO : OwnsRS w base V ss rows := h.get 1 rfl
  have hN : Owns elRt w b2 35 V2 ss := h.get 0 rfl
  have h3 : Led w0 w (tOwns elRt b2 35 V2 ss :: tRS base V ss rows :: tOwns elInt 0 3 (.slice none 0 0) [] :: R) := (h.nilS elInt 3 0).front (P := [_, _, _]) (R := R) [1, 2, 0] (by decide) rfl
  refine h3.fuse3 (fun k hk => ?_) ⟨hN.base hb2, hO.2.1, hO.2.2.1, hO.2.2.2⟩
  rcases hk with hk | hk
  · exact .inl hk
  · exact .inr (.inl (.inr hk))
theorem Led.nilRS {w0 w : World} {L : List Thing} (h : Led w0 w L) (b0 : Nat) : Led w0 w (tRS b0 (.slice none 0 0) [] [] :: L) :=
  h.put (Below.refl _ _) (tRS b0 (.slice none 0 0) [] []) (fun b e => by
    rcases e with e | ⟨i, s, h1, _⟩
    · cases e
    · simp at h1) (OwnsRS.nil _ _)
theorem rfL_whole {fs : List Fib} {n s to : Nat} (h : s ≠ to) : ((rfL fs s to n s [s] [] []).length ≤ 200 ∧ rfL fs s to n s [s] [] [] = alL fs n s to ∧ alB fs n s to = true) ∨ (200 < (rfL fs s to n s [s] [] []).length ∧ alL fs n s to = [] ∧ alB fs n s to = false) := by
  have hr : rbL fs n s to = dfsL fs.length to (nxF fs) n s [s] [] := by unfold rbL; rw [if_neg h]; rfl
  rcases refL_all (m := fs.length) (to := to) (M := 200) (nx := nxF fs) (ins := insR fs (s : Int)) (fun l r => insR_len l r) n s [s] [] with ⟨h1, h2⟩ | ⟨h1, h2⟩
  · refine .inl ⟨?_, ?_, ?_⟩
    · unfold rfL
      rw [h1, ins_foldl (fun l r => insR_len l r)]
      simpa using h2
    · unfold rfL alL srtR
      rw [h1, hr, if_pos h2]
    · unfold alB; rw [hr]; exact decide_eq_true h2
  · refine .inr ⟨h1, ?_, ?_⟩
    · unfold alL; rw [hr, if_neg (by omega)]
    · unfold alB; rw [hr]; exact decide_eq_false (by omega)
section
variable {n c m d : Nat} {A A' : Option Addr} {xs : List ByteArray} {fs : List Fib}
set_option maxHeartbeats 2000000 in
set_option maxRecDepth 100000 in
theorem l4Pair_any (f t : Int) (w : World) (h : NetIs w A n c A' m d xs fs) :
    Calls Try.prog 58 #[.agg #[.slice A n c, .slice A' m d], .int .i64 f, .int .i64 t] w fun e w' => e = .returned (.bool (mcB xs fs f t)) ∧ Below w.heap.size w w' := by
  have hS := (Led.nil w).blk_ w.heap.size rfl 27 #[.slice A n c, .slice A' m d]
  have hn := h.nle
  have HK : Hid (mcB xs fs f t = (((goodB xs fs && inB 0 ((n : Int) - 1) f) && inB 0 ((n : Int) - 1) t) && !(f == t))) := by unfold Hid mcB; rw [h.xlen]
  have iw : IntKind.i64.wrap ((n : Int) - 1) = (n : Int) - 1 := IntWalk.i64_in _ (by omega)
  rw [HK.out]
  clear HK
  cases g : goodB xs fs
  · go_enter Try.func58, Try.ntmps58
    go_wp2_with fail
    refine (goodN _ (h.grow hS.bl)).mono ?_
    rintro e w1 ⟨rfl, hb⟩
    rw [g]
    go_wp2_with fail
    go_ret
    exact ⟨rfl, bl_then hS.bl hb⟩
  · cases g2 : inB 0 ((n : Int) - 1) f
    · go_enter Try.func58, Try.ntmps58
      go_wp2_with fail
      refine (goodN _ (h.grow hS.bl)).mono ?_
      rintro e w1 ⟨rfl, hb⟩
      rw [g]
      replace hS := hS.step hb
      have q0 := hS.cell 0 0 rfl rfl
      clear hb
      go_wp2_with fail
      refine (l1In_any _ _ _ _).mono ?_
      rintro e w3 ⟨rfl, rfl⟩
      rw [g2]
      go_wp2_with fail
      go_ret
      exact ⟨rfl, hS.bl⟩
    · cases g3 : inB 0 ((n : Int) - 1) t
      · go_enter Try.func58, Try.ntmps58
        go_wp2_with fail
        refine (goodN _ (h.grow hS.bl)).mono ?_
        rintro e w1 ⟨rfl, hb⟩
        rw [g]
        replace hS := hS.step hb
        have q0 := hS.cell 0 0 rfl rfl
        clear hb
        go_wp2_with fail
        refine (l1In_any _ _ _ _).mono ?_
        rintro e w3 ⟨rfl, rfl⟩
        rw [g2]
        go_wp2_with fail
        refine (l1In_any _ _ _ _).mono ?_
        rintro e w3 ⟨rfl, rfl⟩
        rw [g3]
        go_wp2_with fail
        go_ret
        exact ⟨rfl, hS.bl⟩
      · go_enter Try.func58, Try.ntmps58
        go_wp2_with fail
        refine (goodN _ (h.grow hS.bl)).mono ?_
        rintro e w1 ⟨rfl, hb⟩
        rw [g]
        replace hS := hS.step hb
        have q0 := hS.cell 0 0 rfl rfl
        clear hb
        go_wp2_with fail
        refine (l1In_any _ _ _ _).mono ?_
        rintro e w3 ⟨rfl, rfl⟩
        rw [g2]
        go_wp2_with fail
        refine (l1In_any _ _ _ _).mono ?_
        rintro e w3 ⟨rfl, rfl⟩
        rw [g3]
        go_wp2_with fail
        go_ret
        exact ⟨by cases hft : (f == t) <;> simp_all [bne], hS.bl⟩
set_option maxHeartbeats 4000000 in
set_option maxRecDepth 100000 in
theorem l4All_any (w : World) (h : NetIs w A n c A' m d xs fs) (g : goodB xs fs = true) (s to : Nat) (hs : s < n) (hne : s ≠ to) :
    Calls Try.prog 59 #[.agg #[.slice A n c, .slice A' m d], .int .i64 (s : Int), .int .i64 (to : Int)] w fun e w' => ∃ v ss, e = .returned (.tuple #[v, .bool (alB fs n s to)]) ∧ OwnsRS w' w.heap.size v ss ((alL fs n s to).map fun r => ((s : Int), r)) ∧ Below w.heap.size w w' := by
  obtain ⟨he, hn0, hn8, hm14⟩ := good_parts h g
  have hS := (((Led.nil w).blk_ w.heap.size rfl 27 #[.slice A n c, .slice A' m d]).blk_ (w.heap.size + 1) (by simp) 133 (srX A n c A' m d to (.slice none 0 0))).single elInt (s : Int) 3 (w.heap.size + 1 + 1) (by simp) w.heap.size (by omega)
  have H0 := hid (((hS.nilRS w.heap.size).nilS elInt 3 w.heap.size).pick [0, 2, 1, 3, 4] (by decide) rfl)
  have HN := hid h
  have HW := hid (rfL_whole (fs := fs) (n := n) hne)
  have HEXT := hid (sext_any h g (to := to) (gx := w.heap.size + 1) (show s ≤ 1048576 by omega) n s [s] [] [] (.slice none 0 0) [] [tBlk w.heap.size 27 #[.slice A n c, .slice A' m d]] none 0 w.heap.size (some ⟨w.heap.size + 1 + 1, 0, none⟩) 1 w.heap.size _ (by simp) (fun u hu => by rw [List.mem_singleton.1 hu]; exact hs) (by simp; omega) rfl rfl (fun x hx => by cases hx) ⟨by simp, fun r hr => by cases hr⟩ (by simp) (Nat.le_refl _) H0.out)
  obtain ⟨i0, hi, hz0, hz1, hz2⟩ := info_parts rt_info
  have hcells : (elInt.cells (s : Int)).toArray = #[.int .i64 (s : Int)] := rfl
  rw [hcells] at HEXT
  clear hS h H0 he hne hcells
  unfold srX at HEXT
  go_enter Try.func59, Try.ntmps59
  go_wp2_with fail
  refine HEXT.out.mono ?_
  rintro e w4 ⟨rfl, V', ss', h4⟩
  clear HEXT
  have hO : OwnsRS w4 w.heap.size V' ss' ((rfL fs s to n s [s] [] []).map fun r => ((s : Int), r)) := h4.get 0 rfl
  obtain ⟨AV, cV, hV, _, _, _⟩ := hO.1.form
  have hsl1 : ss'.length = (rfL fs s to n s [s] [] []).length := by rw [hO.2.1, List.length_map]
  rw [hsl1] at hV
  subst hV
  have H4 := hid h4
  have HSL := hid hsl1
  clear hO h4 hsl1
  have x3 := H4.out.cell (l := [.slice A n c, .slice A' m d, .int .i64 (to : Int), .slice AV (rfL fs s to n s [s] [] []).length cV]) 1 3 rfl rfl
  rcases HW.out with ⟨h200, hL, hB⟩ | ⟨h200, hL, hB⟩
  · have HL := hid hL
    have HBB := hid hB
    have hle : (rfL fs s to n s [s] [] []).length ≤ 201 := by omega
    generalize hrf : rfL fs s to n s [s] [] [] = rf at *
    clear hL hB HW hrf
    have H5 := hid (H4.out.empty elRt 35 w4.heap.size rfl w.heap.size H4.out.bl.size)
    have x4 : (w4.alloc (.cells #[] 35)).cell? ⟨w.heap.size + 1, 3, none⟩ = some (.slice AV rf.length cV) := H5.out.cell (l := [.slice A n c, .slice A' m d, .int .i64 (to : Int), .slice AV rf.length cV]) 2 3 rfl rfl
    go_wp2_with (first
      | (at_builtin; refine wpList_append_led rfl _ _ 30 rfl H5.out 0 rfl Try.underlying30 hi hz0 hz1 (by rw [hz2]; decide) rfl rfl rfl (H5.out.seesRS 1 rfl) (by simp; omega) H5.out.bl.size ?_)
      | go_in)
    intro A2 c2 w5 h5
    have H6 := hid (Led.recopy (base := w.heap.size) h5 (Nat.le_refl _))
    clear h5 x3 x4 H5 H4
    go_wp2_with fail
    go_ret2
    refine ⟨_, ss', by rw [HBB.out]; rfl, ?_, H6.out.bl⟩
    rw [← HL.out]
    exact H6.out.get 0 rfl
  · have HL := hid hL
    have HBB := hid hB
    generalize hrf : rfL fs s to n s [s] [] [] = rf at *
    clear hL hB HW hrf
    have H5 := hid (H4.out.emptyRS w4.heap.size rfl w.heap.size H4.out.bl.size)
    clear H4
    go_wp2_with fail
    go_ret2
    refine ⟨_, [], by rw [HBB.out]; rfl, ?_, H5.out.bl⟩
    rw [HL.out]
    exact H5.out.get 0 rfl
set_option maxHeartbeats 4000000 in
set_option maxRecDepth 100000 in
theorem specAllRoutes (f t : Int) (w : World) (h : NetIs w A n c A' m d xs fs) :
    Calls Try.prog 12 #[.agg #[.slice A n c, .slice A' m d], .int .i64 f, .int .i64 t] w fun e w' => ∃ v ss, e = .returned (.tuple #[v, .bool (arB xs fs f t)]) ∧ OwnsRS w' w.heap.size v ss (arL xs fs f t) ∧ Below w.heap.size w w' := by
  have hS := (Led.nil w).blk_ w.heap.size rfl 27 #[.slice A n c, .slice A' m d]
  cases g : mcB xs fs f t
  · have H : Hid (arL xs fs f t = []) := by unfold Hid arL; rw [g]; rfl
    have HB : Hid (arB xs fs f t = false) := by unfold Hid arB; rw [g]; rfl
    rw [HB.out]
    go_enter Try.func12, Try.ntmps12
    go_wp2_with fail
    refine (l4Pair_any f t _ (h.grow hS.bl)).mono ?_
    rintro e w1 ⟨rfl, hb⟩
    rw [g]
    replace hS := hS.step hb
    clear hb
    have HS1 := hid (hS.emptyRS w1.heap.size rfl w.heap.size hS.bl.size)
    clear hS
    go_wp2_with fail
    go_ret2
    exact ⟨_, [], rfl, by rw [H.out]; exact HS1.out.get 0 rfl, HS1.out.bl⟩
  · obtain ⟨hg, hf, ht, hne⟩ := mcB_parts g
    rw [h.xlen] at hf ht
    obtain ⟨f', rfl⟩ : ∃ f' : Nat, f = (f' : Int) := ⟨f.toNat, by omega⟩
    obtain ⟨t', rfl⟩ : ∃ t' : Nat, t = (t' : Int) := ⟨t.toNat, by omega⟩
    have H : Hid (arL xs fs (f' : Int) (t' : Int) = (alL fs n f' t').map fun r => ((f' : Int), r)) := by unfold Hid arL; rw [g, h.xlen]; rfl
    have HB : Hid (arB xs fs (f' : Int) (t' : Int) = alB fs n f' t') := by unfold Hid arB; rw [g, h.xlen]; rfl
    rw [HB.out]
    have HN := hid h
    have HG := hid g
    clear h g
    go_enter Try.func12, Try.ntmps12
    go_wp2_with fail
    refine (l4Pair_any _ _ _ (HN.out.grow hS.bl)).mono ?_
    rintro e w1 ⟨rfl, hb⟩
    rw [HG.out]
    replace hS := hS.step hb
    have q0 := hS.cell 0 0 rfl rfl
    have q1 := hS.cell 0 1 rfl rfl
    clear hb
    go_wp2_with fail
    refine (l4All_any _ (HN.out.grow hS.bl) hg f' t' (by omega) (by omega)).mono ?_
    rintro e w2 ⟨v, ss, rfl, ho, hb2⟩
    have HO := hid (ho.base_ hS.bl.size)
    have HZ := hid (bl_then hS.bl hb2)
    clear ho hb2 q0 q1 hS
    go_wp2_with fail
    go_ret2
    exact ⟨_, ss, rfl, by rw [H.out]; exact HO.out, HZ.out⟩
end
end Go.Proofs.Ytfepilpllfiegaa
/- The list of routes is strictly ascending, in plain Lean. Conditions: as each states. -/
namespace Go.Proofs.Ytfepilpllfiegaa
open Go.RowKit
section
variable {fs : List Fib} {to : Nat}
/-- The search finds no route twice. -/
theorem rtsL_nodup : ∀ (k v : Nat) (seen : List Nat) (ids : List Int), (rtsL fs to k v seen ids).Nodup := by
  intro k
  induction k with
  | zero => intro v seen ids; exact List.Pairwise.nil
  | succ k ih =>
    intro v seen ids
    by_cases hv : v = to
    · subst hv; rw [rtsL_end]; simp
    · rw [rtsL_on hv]
      unfold rtsJ List.Nodup
      rw [List.pairwise_flatMap]
      have sub : ∀ (i : Nat), ∀ r ∈ rtsI fs to k v seen ids i, r[ids.length]? = some (i : Int) := fun i r hr => by
        unfold rtsI at hr
        cases hn : nxF fs i v with
        | none => rw [hn] at hr; cases hr
        | some u =>
          rw [hn] at hr
          simp only at hr
          split at hr
          · cases hr
          · obtain ⟨e, rfl, _⟩ := rtsL_mem _ _ _ _ r hr
            rw [List.append_assoc, List.getElem?_append_right (Nat.le_refl _), Nat.sub_self]; rfl
      refine ⟨fun i _ => ?_, ?_⟩
      · unfold rtsI
        cases nxF fs i v with
        | none => exact List.Pairwise.nil
        | some u =>
          simp only
          split
          · exact List.Pairwise.nil
          · exact ih _ _ _
      · refine List.pairwise_lt_range.imp fun {i j} hij x hx y hy e => ?_
        have h1 := sub i x hx
        have h2 := sub j y hy
        rw [e, h2] at h1
        injection h1 with h1
        omega
theorem rbL_nodup {n s : Nat} : (rbL fs n s to).Nodup := by
  unfold rbL
  split
  · exact List.Pairwise.nil
  · exact rtsL_nodup _ _ _ _
theorem cmpL_sign : ∀ (a b : List Int), cmpL a b = -1 ∨ cmpL a b = 0 ∨ cmpL a b = 1 := by
  intro a
  induction a with
  | nil => intro b; cases b <;> simp [cmpL]
  | cons x a ih =>
    intro b
    cases b with
    | nil => simp [cmpL]
    | cons y b =>
      unfold cmpL
      split
      · exact .inl rfl
      · split
        · exact .inr (.inr rfl)
        · exact ih b
/-- Neighbours in the sorted list are in strict order. -/
theorem srt_next {s : Int} {D : List (List Int)} (hD : D.Nodup) {i : Nat} {a b : List Int} (ha : (srtR fs s D)[i]? = some a) (hb : (srtR fs s D)[i + 1]? = some b) : ordR fs s a s b = -1 := by
  have hs := (srtR_ok (fs := fs) (s := s) D).1
  have hn : (srtR fs s D).Nodup := (srtR_ok (fs := fs) (s := s) D).2.nodup_iff.2 hD
  have h1 := (List.getElem?_eq_some_iff.1 hb).1
  rw [List.getElem?_eq_getElem (by omega)] at ha
  rw [List.getElem?_eq_getElem h1] at hb
  injection ha with ha
  injection hb with hb
  have hle := (List.pairwise_iff_getElem.1 hs) i (i + 1) (by omega) h1 (by omega)
  have hne := (List.pairwise_iff_getElem.1 hn) i (i + 1) (by omega) h1 (by omega)
  rw [ha, hb] at hle hne
  unfold leR at hle
  have h0 : ordR fs s a s b ≠ 0 := fun e => by
    refine hne (leR_anti (fs := fs) (s := s) (by unfold leR; omega) ?_)
    unfold leR
    rw [ordR_flip, e]
    omega
  have hv := ordR_eq fs s a b
  have hc := cmpL_sign a b
  split at hv
  · exact hv
  · split at hv
    · omega
    · split at hv
      · exact hv
      · split at hv
        · omega
        · omega
end
end Go.Proofs.Ytfepilpllfiegaa
/- AllRoutes of the program, walked. Conditions: none. By alli.py. -/
namespace Go.Proofs.Ytfepilpllfiegaa
open Go.RowKit
section
variable {n c m d : Nat} {A A' : Option Addr} {xs : List ByteArray} {fs : List Fib}
set_option maxHeartbeats 4000000 in
set_option maxRecDepth 100000 in
theorem implAllRoutes (f t : Int) (w : World) (h : NetIs w A n c A' m d xs fs) :
    Calls Try.prog 11 #[.agg #[.slice A n c, .slice A' m d], .int .i64 f, .int .i64 t] w fun e w' => ∃ v ss, e = .returned (.tuple #[v, .bool (arB xs fs f t)]) ∧ OwnsRS w' w.heap.size v ss (arL xs fs f t) ∧ Below w.heap.size w w' := by
  have hS := ((Led.nil w).blk_ w.heap.size rfl 27 #[.slice A n c, .slice A' m d]).blk_ (w.heap.size + 1) (by simp) 3 #[.int .i64 f, .int .i64 t]
  have hs2 : Sees elInt ((w.alloc (.cells #[.slice A n c, .slice A' m d] 27)).alloc (.cells #[.int .i64 f, .int .i64 t] 3)) (w.heap.size + 1 + 1) (some ⟨w.heap.size + 1, 0, none⟩) 2 [f, t] := by
    refine ⟨rfl, .inr ⟨_, _, rfl, Nat.lt_succ_self _, fun k x hx j u hu => ?_⟩⟩
    have hj : j = 0 := by have := (List.getElem?_eq_some_iff.1 hu).1; simp [elInt] at this; omega
    subst hj
    have hu' : Value.int .i64 x = u := by simpa [elInt] using hu
    subst hu'
    rcases k with _ | _ | k
    · simp at hx; subst hx; exact hS.cell 0 0 rfl rfl
    · simp at hx; subst hx; exact hS.cell 0 1 rfl rfl
    · simp at hx
  have HB : Hid (mcB xs fs f t = ((goodB xs fs && nodesB n [f, t]) && !(f == t))) := by unfold Hid mcB; rw [nodesB_two, h.xlen, Bool.and_assoc (goodB xs fs)]
  cases g : (goodB xs fs && nodesB n [f, t])
  · have HF : Hid (mcB xs fs f t = false) := by unfold Hid; rw [HB.out, g]; rfl
    have H : Hid (arL xs fs f t = []) := by unfold Hid arL; rw [HF.out]; rfl
    have H2 : Hid (arB xs fs f t = false) := by unfold Hid arB; rw [HF.out]; rfl
    rw [H2.out]
    go_enter Try.func11, Try.ntmps11
    go_wp2_with fail
    refine (calls_bool (isNode_any _ (h.grow hS.bl) hs2 (by decide)) g).mono ?_
    rintro e w1 ⟨rfl, hb⟩
    go_wp2_with fail
    go_ret2
    exact ⟨_, [], rfl, by rw [H.out]; exact OwnsRS.nil _ _, bl_then hS.bl hb⟩
  · cases g2 : (f == t)
    · have HF : Hid (mcB xs fs f t = true) := by unfold Hid; rw [HB.out, g, g2]; rfl
      obtain ⟨hg, hf, ht, hne⟩ := mcB_parts HF.out
      rw [h.xlen] at hf ht
      obtain ⟨f', rfl⟩ : ∃ f' : Nat, f = (f' : Int) := ⟨f.toNat, by omega⟩
      obtain ⟨t', rfl⟩ : ∃ t' : Nat, t = (t' : Int) := ⟨t.toNat, by omega⟩
      have H : Hid (arL xs fs (f' : Int) (t' : Int) = (alL fs n f' t').map fun r => ((f' : Int), r)) := by unfold Hid arL; rw [HF.out, h.xlen]; rfl
      have HB2 : Hid (arB xs fs (f' : Int) (t' : Int) = alB fs n f' t') := by unfold Hid arB; rw [HF.out, h.xlen]; rfl
      rw [HB2.out]
      have HN := hid h
      have g3 : ((f' : Int) == (t' : Int)) = false := g2
      clear h
      go_enter Try.func11, Try.ntmps11
      go_wp2_with fail
      refine (calls_bool (isNode_any _ (HN.out.grow hS.bl) hs2 (by decide)) g).mono ?_
      rintro e w1 ⟨rfl, hb⟩
      replace hS := hS.step hb
      have q0 := hS.cell 1 0 rfl rfl
      have q1 := hS.cell 1 1 rfl rfl
      clear hb hs2
      go_wp2_with fail
      refine (routesBetween_any _ (HN.out.grow hS.bl) hg f' t' (by omega) (by omega)).mono ?_
      rintro e w2 ⟨v, ss, rows, rfl, hp, hpw, ho, hb2⟩
      have hrows := srtR_rows (D := rbL fs n f' t') hpw hp
      subst hrows
      obtain ⟨A2, c2, hv, _, _, _⟩ := ho.1.form
      have hlen : ss.length = (rbL fs n f' t').length := by rw [ho.2.1, List.length_map]; exact (srtR_ok _).2.length_eq
      have HO := hid (ho.base_ hS.bl.size)
      have HZ := hid (bl_then hS.bl hb2)
      rw [hlen] at hv
      subst hv
      clear ho hb2 q0 q1 hS hp hpw hlen
      by_cases h200 : (rbL fs n f' t').length ≤ 200
      · have HA : Hid (alB fs n f' t' = true ∧ alL fs n f' t' = srtR fs (f' : Int) (rbL fs n f' t')) := ⟨decide_eq_true h200, if_pos h200⟩
        generalize hD : (rbL fs n f' t').length = D at *
        have hD2 : ¬ (D : Int) > 200 := by omega
        go_wp2_with fail
        go_ret2
        exact ⟨_, ss, by rw [HA.out.1]; rfl, by rw [H.out, HA.out.2]; exact HO.out, HZ.out⟩
      · have HA : Hid (alB fs n f' t' = false ∧ alL fs n f' t' = []) := ⟨decide_eq_false h200, if_neg h200⟩
        generalize hD : (rbL fs n f' t').length = D at *
        have hD2 : (D : Int) > 200 := by omega
        go_wp2_with fail
        go_ret2
        exact ⟨_, [], by rw [HA.out.1]; rfl, by rw [H.out, HA.out.2]; exact OwnsRS.nil _ _, HZ.out⟩
    · have HF : Hid (mcB xs fs f t = false) := by unfold Hid; rw [HB.out, g2]; simp
      have H : Hid (arL xs fs f t = []) := by unfold Hid arL; rw [HF.out]; rfl
      have H2 : Hid (arB xs fs f t = false) := by unfold Hid arB; rw [HF.out]; rfl
      rw [H2.out]
      go_enter Try.func11, Try.ntmps11
      go_wp2_with fail
      refine (calls_bool (isNode_any _ (h.grow hS.bl) hs2 (by decide)) g).mono ?_
      rintro e w1 ⟨rfl, hb⟩
      go_wp2_with fail
      go_ret2
      exact ⟨_, [], rfl, by rw [H.out]; exact OwnsRS.nil _ _, bl_then hS.bl hb⟩
end
end Go.Proofs.Ytfepilpllfiegaa
/- slices.IndexFunc over routes, firstRoute, walked. Conditions: as each states. By fst.py. -/
namespace Go.Proofs.Ytfepilpllfiegaa
open Go.RowKit
theorem findPF_find {α : Type} (p : α → Bool) : ∀ (l : List α) (k0 : Nat), (∃ k x, findPF p l k0 = ((k0 + k : Nat) : Int) ∧ l[k]? = some x ∧ l.find? p = some x) ∨ (findPF p l k0 = -1 ∧ l.find? p = none) := by
  intro l
  induction l with
  | nil => intro k0; exact .inr ⟨rfl, rfl⟩
  | cons y l ih =>
    intro k0
    unfold findPF
    cases g : p y
    · rcases ih (k0 + 1) with ⟨k, x, h1, h2, h3⟩ | ⟨h1, h2⟩
      · refine .inl ⟨k + 1, x, ?_, by simpa using h2, by rw [List.find?_cons, g]; exact h3⟩
        simp only [Bool.false_eq_true, if_false]
        rw [h1]; congr 1; omega
      · exact .inr ⟨by simpa using h1, by rw [List.find?_cons, g]; exact h2⟩
    · exact .inl ⟨0, y, by simp, rfl, by rw [List.find?_cons, g]⟩
theorem findP_find {α : Type} (p : α → Bool) (l : List α) : (∃ (k : Nat) (x : α), findP p l = (k : Int) ∧ l[k]? = some x ∧ l.find? p = some x) ∨ (findP p l = -1 ∧ l.find? p = none) := by
  rcases findPF_find p l 0 with ⟨k, x, h1, h2, h3⟩ | h
  · exact .inl ⟨k, x, by unfold findP; rw [h1]; simp, h2, h3⟩
  · exact .inr h
section
variable {n c : Nat} {A : Option Addr} {ss : List (Int × Sl)} {rows : List (Int × List Int)} {F : FuncId} {cap : Array Value}
set_option maxHeartbeats 1000000 in
set_option maxRecDepth 100000 in
theorem indexFuncRS_any (p : Int × List Int → Bool) (w : World) (hA : SeesRS w A n ss rows) (hn : n ≤ 1099511627776)
    (hcall : ∀ args wr, (callFunc F args).run Try.prog wr = .ok (.enter F args) wr)
    (hF : ∀ (i : Nat) s r w', ss[i]? = some s → rows[i]? = some r → Cls w w' → Calls Try.prog F (#[.agg #[.int .i64 s.1, .slice s.2.A s.2.n s.2.c]] ++ cap) w' fun e w2 => e = .returned (.bool (p r)) ∧ Below w'.heap.size w' w2) :
    Calls Try.prog 127 #[.slice A n c, .func (.func F) #[] cap] w fun e w' => e = .returned (.int .i64 (findP p rows)) ∧ Below w.heap.size w w' := by
  have HF := hid hF
  have hlr : rows.length = n := by rw [← hA.2.1]; exact hA.1.len
  have HLR := hid hlr
  clear hF hlr
  go_enter Try.func127, Try.ntmps127
  go_wp2
  go_loopw [8] (fun i wr => ∃ k : Nat, k ≤ n ∧ i = .int .i64 k ∧ Hid (noneP p rows k) ∧ Below w.heap.size w wr) (fun i _ => n - (intOf i).toNat)
  case atStart => exact ⟨0, Nat.zero_le _, rfl, noneP_zero _ _, Below.refl _ _⟩
  case round =>
    obtain ⟨k, hk, rfl, hno, hb⟩ := hrel
    by_cases hlt : k < n
    · obtain ⟨b, o, rfl, _, hc⟩ := hA.1.at_ hlt
      obtain ⟨x, hxk⟩ := get_of (k := k) HLR.out hlt
      obtain ⟨s, hsk⟩ := get_of (k := k) hA.1.len hlt
      have hcx := bl_cell hb (hc k s hsk 0 _ rfl)
      have hcy := bl_cell hb (hc k s hsk 1 _ rfl)
      simp only [elRt, Nat.add_zero, slV] at hcx hcy
      have HC := hid (HF.out k s x wr hsk hxk hb)
      clear hc
      go_wp2_with fail
      refine HC.out.mono ?_
      rintro e w' ⟨rfl, hb2⟩
      have hbb : Below w.heap.size w w' := bl_then hb hb2
      clear HC hcx hcy hb hb2
      by_cases hp : p x = true
      · have HR := hid (findP_at hno.out hxk hp)
        clear hno hxk
        rw [hp]
        go_wp2_with fail
        go_ret
        exact ⟨by rw [HR.out]; rfl, hbb⟩
      · have hp' : p x = false := by simpa using hp
        have HR := hid (noneP_succ hno.out hxk hp')
        clear hno hxk
        rw [hp']
        go_wp2_with fail
        exact ⟨⟨k + 1, by omega, by go_num, HR, hbb⟩, by simp [intOf]; omega⟩
    · have HN := hid (findP_none (p := p) HLR.out (by obtain rfl : k = n := (by omega); exact hno.out))
      clear hno
      go_wp2
      go_ret
      exact ⟨by rw [HN.out]; rfl, hb⟩
end
/-- The first of all routes that p holds. -/
def frO (fs : List Fib) (n s to : Nat) (p : List Int → Bool) : Option (List Int) := (srtR fs (s : Int) (rbL fs n s to)).find? p
theorem frO_ok {fs : List Fib} {n s to : Nat} {p : List Int → Bool} : (frL (frO fs n s to p)).length ≤ n ∧ ∀ x ∈ frL (frO fs n s to p), 0 ≤ x ∧ x < fs.length := by
  unfold frL
  cases h : frO fs n s to p with
  | none => exact ⟨Nat.zero_le _, fun x hx => by cases hx⟩
  | some r =>
    have h1 := List.mem_of_find?_eq_some (by unfold frO at h; exact h)
    exact rbL_ok r ((srtR_ok _).2.mem_iff.1 h1)
theorem find_rows {D : List (List Int)} {s : Int} {p : List Int → Bool} : (D.map fun r => (s, r)).find? (fun r => p r.2) = (D.find? p).map fun r => (s, r) := by
  rw [List.find?_map]
  rfl
section
variable {n c m d : Nat} {A A' : Option Addr} {xs : List ByteArray} {fs : List Fib} {F : FuncId} {cap : Array Value}
set_option maxHeartbeats 4000000 in
set_option maxRecDepth 100000 in
theorem firstRoute_any (p : List Int → Bool) (w : World) (h : NetIs w A n c A' m d xs fs) (g : goodB xs fs = true) (s to : Nat) (hs : s < n) (ht : to < n)
    (hcall : ∀ args wr, (callFunc F args).run Try.prog wr = .ok (.enter F args) wr)
    (hF : ∀ w' B (r : List Int) e, Cls w w' → r.length ≤ n → (∀ x ∈ r, 0 ≤ x ∧ x < fs.length) → r ∈ rbL fs n s to → r.length ≤ e → Sees elInt w' w'.heap.size B r.length r → Calls Try.prog F (#[.agg #[.int .i64 (s : Int), .slice B r.length e]] ++ cap) w' fun e w2 => e = .returned (.bool (p r)) ∧ Below w'.heap.size w' w2) :
    Calls Try.prog 60 #[.agg #[.slice A n c, .slice A' m d], .int .i64 (s : Int), .int .i64 (to : Int), .func (.func F) #[] cap] w fun e w' => ∃ R k, e = .returned (.tuple #[.agg #[.int .i64 (frS (frO fs n s to p) (s : Int)), .slice R (frL (frO fs n s to p)).length k], .bool (frO fs n s to p).isSome]) ∧ Owns elInt w' w.heap.size 3 (.slice R (frL (frO fs n s to p)).length k) (frL (frO fs n s to p)) ∧ Below w.heap.size w w' := by
  have hS := ((Led.nil w).blk_ w.heap.size rfl 27 #[.slice A n c, .slice A' m d]).blk_ (w.heap.size + 1) (by simp) 35 #[.int .i64 0, .slice none 0 0]
  obtain ⟨he, hn0, hn8, hm14⟩ := good_parts h g
  have hbl0 := hS.bl
  obtain ⟨o, ho⟩ : ∃ o, frO fs n s to p = o := ⟨_, rfl⟩
  have HFR := hid ho
  rw [ho]
  have HF := hid hF
  have HN := hid h
  have HLF := hid h.flen
  clear hF h ho
  go_enter Try.func60, Try.ntmps60
  go_wp2_with fail
  refine (routesBetween_any _ (HN.out.grow hbl0) g s to hs ht).mono ?_
  rintro e w2 ⟨v, ss, rows, rfl, hp, hpw, ho, hb2⟩
  have hrows := srtR_rows (D := rbL fs n s to) hpw hp
  obtain ⟨A2, c2, hv, _, _, _⟩ := ho.1.form
  subst hv
  have hlen : ss.length = (rbL fs n s to).length := by rw [ho.2.1, hrows, List.length_map]; exact (srtR_ok _).2.length_eq
  have hlen2 := rbL_len (fs := fs) (n := n) (s := s) (to := to) hn8 (by rw [HLF.out]; exact hm14)
  have HI := hid (indexFuncRS_any (c := c2) (cap := cap) (fun r => p r.2) w2 ho.sees (by omega) hcall (fun i s1 r w' h1 h2 hw' => by
    have hr : r ∈ rows := List.mem_of_getElem? h2
    obtain ⟨q, hq, hrq⟩ := List.mem_map.1 (hp.mem_iff.1 hr)
    obtain ⟨e1, ho2⟩ := ho.2.2.1 i s1 r h1 h2
    have e3 : r.1 = (s : Int) := by rw [← hrq]
    have e4 : r.2 = q := by rw [← hrq]
    obtain ⟨B, e5, hv, h5, _, hsee⟩ := (ho2.below hw').form
    unfold slV at hv
    injection hv with v1 v2 v3
    rw [e1, e3, v1, v2, v3]
    have hok := rbL_ok q hq
    rw [← e4] at hq hok
    exact HF.out w' B r.2 e5 ((bl_then hbl0 hb2).trans (hw'.mono (Nat.le_trans hbl0.size hb2.size))) hok.1 hok.2 hq h5 hsee))
  rw [hrows] at HI
  have hbl2 := bl_then hbl0 hb2
  have hS2 := hS.step hb2
  have HO := hid (hrows ▸ ho : OwnsRS w2 _ _ ss ((srtR fs (s : Int) (rbL fs n s to)).map fun r => ((s : Int), r)))
  have HP := hid hp
  clear hb2 hrows hpw ho hlen hp hS
  rcases findP_find (fun r : Int × List Int => p r.2) ((srtR fs (s : Int) (rbL fs n s to)).map fun r => ((s : Int), r)) with ⟨k, x, h1, h2, h3⟩ | ⟨h1, h2⟩
  · rw [h1] at HI
    rw [find_rows] at h3
    obtain ⟨q, hq, hqx⟩ := Option.map_eq_some_iff.1 h3
    have ho2 : o = some q := by rw [← HFR.out]; exact hq
    subst hqx
    have hkl : k < ss.length := by rw [HO.out.2.1]; exact (List.getElem?_eq_some_iff.1 h2).1
    obtain ⟨⟨s1, t1⟩, hsk⟩ : ∃ s1, ss[k]? = some s1 := ⟨ss[k], List.getElem?_eq_getElem hkl⟩
    obtain ⟨e1, how⟩ := HO.out.2.2.1 k (s1, t1) _ hsk h2
    simp only at e1 how
    subst e1
    obtain ⟨B, e5, hv, h5, _, _⟩ := how.form
    obtain ⟨tA, tn, tc⟩ := t1
    unfold slV at hv how
    injection hv with v1 v2 v3
    simp only at v1 v2 v3 how
    subst v1
    subst v2
    subst v3
    have HW := hid how
    have HH := hid (show frS o (s : Int) = (s : Int) ∧ frL o = q ∧ o.isSome = true by rw [ho2]; exact ⟨rfl, rfl, rfl⟩)
    clear h1 h2 h3 hq ho2 how HFR
    go_wp2_with fail
    refine HI.out.mono ?_
    rintro e w3 ⟨rfl, hb3⟩
    have hS3 := hS2.step hb3
    obtain ⟨gb, go, rfl, _, hc⟩ := (HO.out.below hb3).1.sees.at_ (k := k) hkl
    have f0 := hc k _ hsk 0 _ rfl
    have f1 := hc k _ hsk 1 _ rfl
    simp only [elRt, Nat.add_zero, slV] at f0 f1
    have q0 := hS3.cell 0 0 rfl rfl
    have q1 := hS3.cell 0 1 rfl rfl
    have z0 := hS3.frozen 0 0 rfl
    have z1 := hS3.frozen 0 1 rfl
    have hS4 := (hS3.set 0 rfl 0 (.int .i64 (s : Int))).set 0 rfl 1 (.slice tA q.length tc)
    have ik0 : ¬ ((k : Int) < 0) := by omega
    have ik1 : (0 : Int) ≤ (k : Int) := by omega
    have ik2 : (k : Int) < (ss.length : Int) := by omega
    have HZ := hid (bl_then hbl2 hb3)
    have HW3 := hid (HW.out.below hb3)
    have HS4 := hid hS4
    clear hc hS3 hS4 hS2 HI HO HF hb3 hsk hbl0 hbl2 HP
    go_wp2_with fail
    exact bodyPost_ret (v := .tuple #[.agg #[.int .i64 (s : Int), .slice tA q.length tc], .bool true]) (by simp [results, Try.results60, go_sem, q0, q1]) rfl
      ⟨tA, tc, by rw [HH.out.1, HH.out.2.1, HH.out.2.2], by rw [HH.out.2.1]; exact ((HW3.out.far (p := ⟨w.heap.size + 1, 0, none⟩) (by simp) _).far (p := ⟨w.heap.size + 1, 1, none⟩) (by simp) _).base (by simp; omega), HS4.out.bl⟩
  · rw [h1] at HI
    rw [find_rows] at h2
    have ho2 : o = none := by rw [← HFR.out]; exact Option.map_eq_none_iff.1 h2
    have HH := hid (show frS o (s : Int) = 0 ∧ frL o = [] ∧ o.isSome = false by rw [ho2]; exact ⟨rfl, rfl, rfl⟩)
    clear h1 h2 ho2 HFR
    go_wp2_with fail
    refine HI.out.mono ?_
    rintro e w3 ⟨rfl, hb3⟩
    have hS3 := hS2.step hb3
    have q0 := hS3.cell 0 0 rfl rfl
    have q1 := hS3.cell 0 1 rfl rfl
    have z0 := hS3.frozen 0 0 rfl
    have z1 := hS3.frozen 0 1 rfl
    have HS4 := hid ((hS3.set 0 rfl 0 (.int .i64 0)).set 0 rfl 1 (.slice none 0 0))
    clear hS3 hS2 HI HO HF hb3 hbl0 hbl2 HP
    go_wp2_with fail
    exact bodyPost_ret (v := .tuple #[.agg #[.int .i64 0, .slice none 0 0], .bool false]) (by simp [results, Try.results60, go_sem, q0, q1]) rfl
      ⟨none, 0, by rw [HH.out.1, HH.out.2.1, HH.out.2.2]; rfl, by rw [HH.out.2.1]; exact World.ownsRow_nil _ _ _ _, HS4.out.bl⟩
set_option maxRecDepth 100000 in
theorem shortC (s : Int) (B : Option Addr) (k e : Nat) (w : World) : Calls Try.prog 61 #[.agg #[.int .i64 s, .slice B k e]] w fun e w' => e = .returned (.bool true) ∧ Below w.heap.size w w' := by
  go_enter Try.func61, Try.ntmps61
  go_wp2_with fail
  go_ret
  exact ⟨rfl, by first | exact Below.refl _ _ | exact bl_alloc (Below.refl _ _) _⟩
/-- ShortestRoute's answer. -/
def shB (xs : List ByteArray) (fs : List Fib) (f t : Int) : Bool := ((goodB xs fs && inB 0 ((xs.length : Int) - 1) f) && inB 0 ((xs.length : Int) - 1) t)
def shO (xs : List ByteArray) (fs : List Fib) (f t : Int) (p : List Int → Bool) : Option (List Int) := if mcB xs fs f t then frO fs xs.length f.toNat t.toNat p else none
theorem shO_len {xs : List ByteArray} {fs : List Fib} {f t : Int} {p : List Int → Bool} : (frL (shO xs fs f t p)).length ≤ 8 := by
  unfold shO
  cases g : mcB xs fs f t
  · exact Nat.zero_le _
  · have := (frO_ok (fs := fs) (n := xs.length) (s := f.toNat) (to := t.toNat) (p := p)).1
    have := goodB_bd (mcB_parts g).1
    rw [if_pos rfl]; omega
theorem shO_same {xs : List ByteArray} {fs : List Fib} {f t : Nat} {p : List Int → Bool} (h : shB xs fs (f : Int) (t : Int) = true) : frO fs xs.length f t p = shO xs fs (f : Int) (t : Int) p := by
  unfold shO
  cases g : mcB xs fs (f : Int) (t : Int)
  · have e : (f : Int) = (t : Int) := by
      unfold mcB at g
      unfold shB at h
      rw [h] at g
      simpa using g
    have e2 : f = t := by omega
    subst e2
    unfold frO rbL
    rw [if_pos rfl]
    rfl
  · rfl
set_option maxHeartbeats 4000000 in
set_option maxRecDepth 100000 in
theorem implShortestRoute (f t : Int) (w : World) (h : NetIs w A n c A' m d xs fs) :
    Calls Try.prog 13 #[.agg #[.slice A n c, .slice A' m d], .int .i64 f, .int .i64 t] w fun e w' => ∃ R k, e = .returned (.tuple #[.agg #[.int .i64 (frS (shO xs fs f t fun _ => true) f), .slice R (frL (shO xs fs f t fun _ => true)).length k], .bool (shO xs fs f t fun _ => true).isSome]) ∧ Owns elInt w' w.heap.size 3 (.slice R (frL (shO xs fs f t fun _ => true)).length k) (frL (shO xs fs f t fun _ => true)) ∧ Below w.heap.size w w' := by
  have hS := (((Led.nil w).blk_ w.heap.size rfl 27 #[.slice A n c, .slice A' m d]).blk_ (w.heap.size + 1) (by simp) 35 #[.int .i64 0, .slice none 0 0]).blk_ (w.heap.size + 1 + 1) (by simp) 3 #[.int .i64 f, .int .i64 t]
  have hs2 : Sees elInt (((w.alloc (.cells #[.slice A n c, .slice A' m d] 27)).alloc (.cells #[.int .i64 0, .slice none 0 0] 35)).alloc (.cells #[.int .i64 f, .int .i64 t] 3)) (w.heap.size + 1 + 1 + 1) (some ⟨w.heap.size + 1 + 1, 0, none⟩) 2 [f, t] := by
    refine ⟨rfl, .inr ⟨_, _, rfl, Nat.lt_succ_self _, fun k x hx j u hu => ?_⟩⟩
    have hj : j = 0 := by have := (List.getElem?_eq_some_iff.1 hu).1; simp [elInt] at this; omega
    subst hj
    have hu' : Value.int .i64 x = u := by simpa [elInt] using hu
    subst hu'
    rcases k with _ | _ | k
    · simp at hx; subst hx; exact hS.cell 0 0 rfl rfl
    · simp at hx; subst hx; exact hS.cell 0 1 rfl rfl
    · simp at hx
  have HB : Hid (shB xs fs f t = (goodB xs fs && nodesB n [f, t])) := by unfold Hid shB; rw [nodesB_two, h.xlen, Bool.and_assoc (goodB xs fs)]
  obtain ⟨o, ho⟩ : ∃ o, shO xs fs f t (fun _ => true) = o := ⟨_, rfl⟩
  rw [ho]
  cases g : (goodB xs fs && nodesB n [f, t])
  · have HH : Hid (frS o f = 0 ∧ frL o = [] ∧ o.isSome = false) := by
      have : mcB xs fs f t = false := by
        have h1 := HB.out
        rw [g] at h1
        unfold mcB
        unfold shB at h1
        rw [h1]; rfl
      have h2 : o = none := by rw [← ho]; unfold shO; rw [this]; rfl
      rw [h2]; exact ⟨rfl, rfl, rfl⟩
    clear ho
    go_enter Try.func13, Try.ntmps13
    go_wp2_with fail
    refine (calls_bool (isNode_any _ (h.grow hS.bl) hs2 (by decide)) g).mono ?_
    rintro e w1 ⟨rfl, hb⟩
    have hS3 := hS.step hb
    have q0 := hS3.cell 1 0 rfl rfl
    have q1 := hS3.cell 1 1 rfl rfl
    have z0 := hS3.frozen 1 0 rfl
    have z1 := hS3.frozen 1 1 rfl
    have HS4 := hid ((hS3.set 1 rfl 0 (.int .i64 0)).set 1 rfl 1 (.slice none 0 0))
    clear hS3 hS hb hs2
    go_wp2_with fail
    exact bodyPost_ret (v := .tuple #[.agg #[.int .i64 0, .slice none 0 0], .bool false]) (by simp [results, Try.results13, go_sem, q0, q1]) rfl
      ⟨none, 0, by rw [HH.out.1, HH.out.2.1, HH.out.2.2]; rfl, by rw [HH.out.2.1]; exact World.ownsRow_nil _ _ _ _, HS4.out.bl⟩
  · have hsb : shB xs fs f t = true := by rw [HB.out, g]
    have hp := hsb
    unfold shB at hp
    rw [Bool.and_eq_true, Bool.and_eq_true] at hp
    have hf := inB_idx hp.1.2
    have ht := inB_idx hp.2
    have hg := hp.1.1
    rw [h.xlen] at hf ht
    obtain ⟨f', rfl⟩ : ∃ f' : Nat, f = (f' : Int) := ⟨f.toNat, by omega⟩
    obtain ⟨t', rfl⟩ : ∃ t' : Nat, t = (t' : Int) := ⟨t.toNat, by omega⟩
    rw [← shO_same hsb, h.xlen] at ho
    have HO := hid ho
    have HN := hid h
    clear hp ho h hsb
    go_enter Try.func13, Try.ntmps13
    go_wp2_with fail
    refine (calls_bool (isNode_any _ (HN.out.grow hS.bl) hs2 (by decide)) g).mono ?_
    rintro e w1 ⟨rfl, hb⟩
    have hS3 := hS.step hb
    have q0 := hS3.cell 2 0 rfl rfl
    have q1 := hS3.cell 2 1 rfl rfl
    have HF := hid (firstRoute_any (F := 61) (cap := #[]) (fun _ => true) w1 (HN.out.grow hS3.bl) hg f' t' (by omega) (by omega) (fun _ _ => by rfl) (fun w' B r e _ _ _ _ _ _ => shortC _ _ _ _ w'))
    rw [HO.out] at HF
    have HS3 := hid hS3
    have HLT : Hid (w.heap.size + 1 < w1.heap.size) := by have := hb.size; simp at this; refine hid ?_; omega
    clear hS hb hs2 hS3
    go_wp2_with fail
    refine HF.out.mono ?_
    rintro e w2 ⟨R, k, rfl, ho2, hb2⟩
    have hS4 := HS3.out.step hb2
    have r0 := hS4.cell 1 0 rfl rfl
    have r1 := hS4.cell 1 1 rfl rfl
    have z0 := hS4.frozen 1 0 rfl
    have z1 := hS4.frozen 1 1 rfl
    have HS5 := hid ((hS4.set 1 rfl 0 (.int .i64 (frS o (f' : Int)))).set 1 rfl 1 (.slice R (frL o).length k))
    have HSZ := hid (((ho2.far (p := ⟨w.heap.size + 1, 0, none⟩) HLT.out (.int .i64 (frS o (f' : Int)))).far (p := ⟨w.heap.size + 1, 1, none⟩) HLT.out (.slice R (frL o).length k)).base (base' := w.heap.size) (by have := HLT.out; omega))
    clear hS4 HF q0 q1 hb2 ho2
    go_wp2_with fail
    exact bodyPost_ret (v := .tuple #[.agg #[.int .i64 (frS o (f' : Int)), .slice R (frL o).length k], .bool o.isSome]) (by simp [results, Try.results13, go_sem, r0, r1]) rfl
      ⟨R, k, rfl, HSZ.out, HS5.out.bl⟩
end
end Go.Proofs.Ytfepilpllfiegaa
/- Distances are the lengths of shortest routes, in plain Lean. Conditions: as each states. -/
namespace Go.Proofs.Ytfepilpllfiegaa
open Go.RowKit
section
variable {q : Nat → Bool} {fs : List Fib} {n s : Nat}
/-- Each node that is reached is reached from another one that is nearer. -/
def predP (q : Nat → Bool) (fs : List Fib) (n s : Nat) (D : List Int) : Prop := ∀ v, v < n → v ≠ s → 0 ≤ valL D v → ∃ j, j < 2 * fs.length ∧ q (j / 2) = false ∧ arcV fs j = v ∧ 0 ≤ valL D (arcU fs j) ∧ valL D (arcU fs j) + arcLn fs j ≤ valL D v
theorem pred_to {D : List Int} (hD : D.length = n) (he : endsB n fs) (hl : lensB fs) (h : predP q fs n s D) : ∀ j, j ≤ 2 * fs.length → predP q fs n s (dstTo q fs D j) := by
  intro j
  induction j with
  | zero => intro _; exact h
  | succ j ih =>
    intro hj
    have ih := ih (by omega)
    cases hq : q (j / 2)
    · rw [dstTo_no hq]
      obtain ⟨hu, hv, huv⟩ := arc_in he (j := j) (by omega)
      have hlen : (dstTo q fs D j).length = n := by rw [dstTo_len]; exact hD
      have hval := fun w => relax_val (u := arcU fs j) (v := arcV fs j) (w := w) (l := arcLn fs j) (D := dstTo q fs D j) (by omega)
      intro w hw hws h0
      rw [hval w] at h0
      by_cases hc : w = arcV fs j ∧ canB (arcU fs j) (arcV fs j) (arcLn fs j) (dstTo q fs D j) = true
      · have hcan := canB_iff.1 hc.2
        refine ⟨j, by omega, hq, hc.1.symm, ?_, ?_⟩
        · rw [hval, if_neg (fun e => huv e.1)]; exact hcan.1
        · rw [hval w, if_pos hc, hval (arcU fs j), if_neg (fun e => huv e.1)]; exact Int.le_refl _
      · rw [if_neg hc] at h0
        obtain ⟨i, hi, hqi, hvi, h1, h2⟩ := ih w hw hws h0
        refine ⟨i, hi, hqi, hvi, ?_, ?_⟩
        · rw [hval]
          split
          · rename_i hx
            have := (canB_iff.1 hx.2).1
            have := arc_len hl (j := j) (by omega)
            omega
          · exact h1
        · rw [hval w, if_neg hc, hval (arcU fs i)]
          split
          · rename_i hx
            have h3 := canB_iff.1 hx.2
            rw [hx.1] at h1 h2
            omega
          · exact h2
    · rw [dstTo_succ, hq, if_pos rfl]; exact ih
theorem pred_dist (he : endsB n fs) (hl : lensB fs) (hs : s < n) : predP q fs n s (distL q fs n s) := by
  have key : ∀ k, predP q fs n s (dstRnd q fs n s k) := by
    intro k
    induction k with
    | zero =>
      intro v hv hvs h0
      have h0 : 0 ≤ valL (dst0 n s) v := h0
      rw [dst0_val hs v hv, if_neg hvs] at h0
      omega
    | succ k ih => exact pred_to (dstRnd_len k) he hl ih _ (Nat.le_refl _)
  exact key n
theorem fib_at {i : Nat} (hi : i < fs.length) : fs[i]? = some (fibD fs i) := by
  obtain ⟨f, hf⟩ := get_of (k := i) (l := fs) rfl hi
  rw [hf, show fibD fs i = f from getD_of hf]
/-- The arc into v as a step over a fiber. -/
theorem pred_step (he : endsB n fs) (hl : lensB fs) (hs : s < n) {v : Nat} (hv : v < n) (hvs : v ≠ s) (h0 : 0 ≤ valL (distL q fs n s) v) :
    ∃ i u, i < fs.length ∧ q i = false ∧ u < n ∧ otherF (fibD fs i) (u : Int) = (v : Int) ∧ 0 ≤ valL (distL q fs n s) u ∧ valL (distL q fs n s) u + (fibD fs i).len = valL (distL q fs n s) v := by
  obtain ⟨j, hj, hq, hjv, h1, h2⟩ := pred_dist (q := q) he hl hs v hv hvs h0
  obtain ⟨hu, _, _⟩ := arc_in he hj
  obtain ⟨e0, e1, e2⟩ := he (j / 2) (by omega)
  have hstep : otherF (fibD fs (j / 2)) (arcU fs j : Int) = (v : Int) := by
    unfold arcU arcV at *
    unfold otherF
    by_cases hp : j % 2 = 0
    · rw [if_pos hp] at hjv ⊢
      rw [if_pos (by omega)]; omega
    · rw [if_neg hp] at hjv ⊢
      rw [if_neg (by omega), if_pos (by omega)]; omega
  have hback : otherF (fibD fs (j / 2)) (v : Int) = (arcU fs j : Int) := by
    have := otherF_back (f := fibD fs (j / 2)) (v := (arcU fs j : Int)) ⟨e0, e1⟩ (by rw [hstep]; omega)
    rw [hstep] at this; exact this
  have h3 := dist_arc (q := q) he hl hs (i := j / 2) (by omega) hq (nxF_some hback) h1
  have hL : arcLn fs j = (fibD fs (j / 2)).len := rfl
  refine ⟨j / 2, arcU fs j, by omega, hq, hu, hstep, h1, ?_⟩
  omega
/-- Along a fiber distances differ by its length at most. -/
theorem dist_fib (he : endsB n fs) (hl : lensB fs) (hs : s < n) {i : Nat} (hi : i < fs.length) (hq : q i = false) :
    (valL (distL q fs n s) (fibD fs i).a.toNat < 0 ↔ valL (distL q fs n s) (fibD fs i).b.toNat < 0) ∧
    (0 ≤ valL (distL q fs n s) (fibD fs i).a.toNat → valL (distL q fs n s) (fibD fs i).a.toNat - valL (distL q fs n s) (fibD fs i).b.toNat ≤ (fibD fs i).len ∧ valL (distL q fs n s) (fibD fs i).b.toNat - valL (distL q fs n s) (fibD fs i).a.toNat ≤ (fibD fs i).len) := by
  obtain ⟨e0, e1, e2⟩ := he i hi
  have sa : otherF (fibD fs i) (((fibD fs i).a.toNat : Nat) : Int) = (((fibD fs i).b.toNat : Nat) : Int) := by unfold otherF; rw [if_pos (by omega)]; omega
  have sb : otherF (fibD fs i) (((fibD fs i).b.toNat : Nat) : Int) = (((fibD fs i).a.toNat : Nat) : Int) := by unfold otherF; rw [if_neg (by omega), if_pos (by omega)]; omega
  have ha := fun h => dist_arc (q := q) he hl hs hi hq (nxF_some sa) h
  have hb := fun h => dist_arc (q := q) he hl hs hi hq (nxF_some sb) h
  constructor
  · constructor
    · intro h; apply Classical.byContradiction; intro h2; have := ha (by omega); omega
    · intro h; apply Classical.byContradiction; intro h2; have := hb (by omega); omega
  · intro h
    have h1 := hb h
    have h2 := ha h1.1
    omega
/-- No route is shorter than the distance. -/
theorem dist_route (hf : ∀ f ∈ fs, fibB n f = true) (he : endsB n fs) (hl : lensB fs) (hs : s < n) {ids : List Int} (h : rtB n fs (s : Int) ids = true) : ∀ k, k ≤ ids.length → 0 ≤ valL (distL (goneF []) fs n s) (atW fs (s : Int) ids k).toNat ∧ valL (distL (goneF []) fs n s) (atW fs (s : Int) ids k).toNat ≤ rlTo fs ids k := by
  intro k
  induction k with
  | zero =>
    intro _
    have := dist_src (q := goneF []) he hl hs
    show 0 ≤ valL _ ((s : Int)).toNat ∧ valL _ ((s : Int)).toNat ≤ _
    rw [Int.toNat_natCast, rlTo_zero]; omega
  | succ k ih =>
    intro hk
    have ih := ih (by omega)
    obtain ⟨i, f, h1, h2, h3, hab, h4, h5⟩ := rt_step hf h (j := k) (by omega)
    have hr := atW_range hf h (k := k) (by omega)
    have hr1 := atW_range hf h (k := k + 1) (by omega)
    have hil : i.toNat < fs.length := (List.getElem?_eq_some_iff.1 h2).1
    have hfd : fibD fs i.toNat = f := getD_of h2
    have hb : otherF (fibD fs i.toNat) (((atW fs (s : Int) ids (k + 1)).toNat : Nat) : Int) = (((atW fs (s : Int) ids k).toNat : Nat) : Int) := by
      rw [hfd, show (((atW fs (s : Int) ids (k + 1)).toNat : Nat) : Int) = atW fs (s : Int) ids (k + 1) by omega, h4, otherF_back hab h5]; omega
    have h6 := dist_arc (q := goneF []) he hl hs hil rfl (nxF_some hb) ih.1
    rw [rlTo_succ h1 h2]
    rw [hfd] at h6
    omega
/-- A path of steps, with its lengths the distances. -/
def pathP (fs : List Fib) (n s : Nat) (ids : List Int) (v : Nat) : Prop :=
  allTo (okW fs.length fs (s : Int) ids) ids.length ∧ atW fs (s : Int) ids ids.length = (v : Int) ∧ ∀ k, k ≤ ids.length → valL (distL (goneF []) fs n s) (atW fs (s : Int) ids k).toNat = rlTo fs ids k
theorem rlTo_app (a b : List Int) {k : Nat} (h : k ≤ a.length) : rlTo fs (a ++ b) k = rlTo fs a k := by
  unfold rlTo
  rw [List.take_append_of_le_length h]
theorem rlTo_up (hl : lensB fs) {ids : List Int} (hin : ∀ x ∈ ids, 0 ≤ x ∧ x < fs.length) {j : Nat} : ∀ {k : Nat}, j < k → k ≤ ids.length → rlTo fs ids j < rlTo fs ids k := by
  intro k
  induction k with
  | zero => intro h; omega
  | succ k ih =>
    intro hjk hk
    obtain ⟨x, hx⟩ := get_of (k := k) (l := ids) rfl (by omega)
    have hxb := hin x (List.mem_of_getElem? hx)
    have hf := fib_at (fs := fs) (i := x.toNat) (by omega)
    have h1 := hl x.toNat (by omega)
    rw [rlTo_succ hx hf]
    rcases Nat.lt_or_ge j k with h2 | h2
    · have := ih h2 (by omega); omega
    · obtain rfl : j = k := by omega
      omega
theorem okW_in {m : Nat} {s : Int} {ids : List Int} (h : allTo (okW m fs s ids) ids.length) : ∀ x ∈ ids, 0 ≤ x ∧ x < m := by
  intro x hx
  obtain ⟨k, hk⟩ := List.getElem?_of_mem hx
  have h1 := (okW_parts (h k (List.getElem?_eq_some_iff.1 hk).1)).1
  rw [getD_of hk] at h1
  exact inB_idx h1
theorem path_to (he : endsB n fs) (hl : lensB fs) (hs : s < n) : ∀ (d v : Nat), v < n → 0 ≤ valL (distL (goneF []) fs n s) v → (valL (distL (goneF []) fs n s) v).toNat ≤ d → ∃ ids, pathP fs n s ids v := by
  intro d
  induction d with
  | zero =>
    intro v hv h0 hd
    by_cases hvs : v = s
    · subst hvs
      have h1 := dist_src (q := goneF []) he hl hs
      exact ⟨[], fun k hk => by simp at hk, rfl, fun k hk => by
        obtain rfl : k = 0 := by simpa using hk
        show valL _ ((v : Int)).toNat = _
        rw [Int.toNat_natCast, rlTo_zero]; omega⟩
    · have := (distL_pos (q := goneF []) he hl hs hv).2 hvs
      omega
  | succ d ih =>
    intro v hv h0 hd
    by_cases hvs : v = s
    · subst hvs
      have h1 := dist_src (q := goneF []) he hl hs
      exact ⟨[], fun k hk => by simp at hk, rfl, fun k hk => by
        obtain rfl : k = 0 := by simpa using hk
        show valL _ ((v : Int)).toNat = _
        rw [Int.toNat_natCast, rlTo_zero]; omega⟩
    · obtain ⟨i, u, hi, _, hu, hstep, hu0, hsum⟩ := pred_step (q := goneF []) he hl hs hv hvs h0
      have hli := hl i hi
      obtain ⟨ids, hok, hend, hdist⟩ := ih u hu hu0 (by omega)
      have hin := okW_in hok
      have hat : atW fs (s : Int) (ids ++ [(i : Int)]) (ids.length + 1) = (v : Int) := by
        have h1 : (ids ++ [(i : Int)])[ids.length]? = some (i : Int) := by rw [List.getElem?_append_right (Nat.le_refl _), Nat.sub_self]; rfl
        rw [atW_succ h1 (by rw [Int.toNat_natCast]; exact fib_at hi), atW_app _ _ _ (Nat.le_refl _), hend]
        exact hstep
      have hdist2 : ∀ k, k ≤ ids.length + 1 → valL (distL (goneF []) fs n s) (atW fs (s : Int) (ids ++ [(i : Int)]) k).toNat = rlTo fs (ids ++ [(i : Int)]) k := fun k hk => by
        rcases Nat.lt_or_ge ids.length k with h1 | h1
        · obtain rfl : k = ids.length + 1 := by omega
          have h2 := hdist ids.length (Nat.le_refl _)
          rw [hend, Int.toNat_natCast] at h2
          have h3 : (ids ++ [(i : Int)])[ids.length]? = some (i : Int) := by rw [List.getElem?_append_right (Nat.le_refl _), Nat.sub_self]; rfl
          rw [hat, Int.toNat_natCast, rlTo_succ h3 (by rw [Int.toNat_natCast]; exact fib_at hi), rlTo_app _ _ (Nat.le_refl _), ← h2]
          omega
        · rw [atW_app _ _ _ h1, rlTo_app _ _ h1]; exact hdist k h1
      have hin2 : ∀ x ∈ ids ++ [(i : Int)], 0 ≤ x ∧ x < fs.length := fun x hx => by
        rcases List.mem_append.1 hx with hx | hx
        · exact hin x hx
        · simp at hx; subst hx; omega
      refine ⟨ids ++ [(i : Int)], fun k hk => ?_, ?_, ?_⟩
      · rw [List.length_append] at hk
        simp at hk
        rcases Nat.lt_or_ge k ids.length with h1 | h1
        · rw [okW_app _ _ h1]; exact hok k h1
        · obtain rfl : k = ids.length := by omega
          unfold okW
          rw [Bool.and_eq_true, Bool.and_eq_true, hat]
          refine ⟨?_, by simp, ?_⟩
          · have h3 : (ids ++ [(i : Int)])[ids.length]? = some (i : Int) := by rw [List.getElem?_append_right (Nat.le_refl _), Nat.sub_self]; rfl
            rw [getD_of h3]; unfold inB; simp; omega
          · rw [Bool.not_eq_true', Bool.eq_false_iff]
            intro hx
            have hx2 := hasB_iff.1 hx
            unfold outW at hx2
            obtain ⟨j, hj, hje⟩ := List.mem_map.1 hx2
            have hj2 : j ≤ ids.length := by have := List.mem_range.1 hj; omega
            have h5 := hdist2 j (by omega)
            have h6 := hdist2 (ids.length + 1) (Nat.le_refl _)
            rw [hje] at h5
            rw [hat] at h6
            have h7 := rlTo_up hl hin2 (j := j) (k := ids.length + 1) (by omega) (by rw [List.length_append]; exact Nat.le_refl _)
            omega
      · rw [List.length_append]; exact hat
      · intro k hk
        rw [List.length_append] at hk
        exact hdist2 k hk
/-- The search finds every route. -/
theorem rts_all {to : Nat} {s : Int} : ∀ (e : List Int) (k v : Nat) (seen : List Nat) (ids : List Int), e.length < k → atW fs s ids ids.length = (v : Int) → allTo (okW fs.length fs s (ids ++ e)) (ids ++ e).length →
    (∀ u : Nat, u ∈ seen ↔ (u : Int) ∈ outW fs s ids ids.length) → atW fs s (ids ++ e) (ids ++ e).length = (to : Int) → (∀ j, j < (ids ++ e).length → atW fs s (ids ++ e) j ≠ (to : Int)) → ids ++ e ∈ rtsL fs to k v seen ids := by
  intro e
  induction e with
  | nil =>
    intro k v seen ids hk hv _ _ hend _
    rw [List.append_nil] at hend ⊢
    have : v = to := by rw [hv] at hend; omega
    subst this
    obtain ⟨k', rfl⟩ : ∃ k', k = k' + 1 := ⟨k - 1, by simp at hk; omega⟩
    rw [rtsL_end]; exact List.mem_singleton.2 rfl
  | cons i e ih =>
    intro k v seen ids hk hv hok hseen hend hno
    obtain ⟨k', rfl⟩ : ∃ k', k = k' + 1 := ⟨k - 1, by simp at hk; omega⟩
    have hlen : (ids ++ i :: e).length = ids.length + 1 + e.length := by simp; omega
    have hvt : v ≠ to := fun h => by
      have := hno ids.length (by omega)
      rw [atW_app _ _ _ (Nat.le_refl _), hv, h] at this
      exact this rfl
    have h1 := okW_parts (hok ids.length (by omega))
    have hi : (ids ++ i :: e)[ids.length]? = some i := by rw [List.getElem?_append_right (Nat.le_refl _), Nat.sub_self]; rfl
    rw [getD_of hi] at h1
    have hib := inB_idx h1.1
    obtain ⟨j, rfl⟩ : ∃ j : Nat, i = (j : Int) := ⟨i.toNat, by omega⟩
    have hjl : j < fs.length := by omega
    have hat := atW_succ (s := s) hi (by rw [Int.toNat_natCast]; exact fib_at hjl)
    rw [atW_app _ _ _ (Nat.le_refl _), hv] at hat
    obtain ⟨u, hu⟩ : ∃ u : Nat, atW fs s (ids ++ (j : Int) :: e) (ids.length + 1) = (u : Int) := ⟨(atW fs s (ids ++ (j : Int) :: e) (ids.length + 1)).toNat, by omega⟩
    rw [hu] at hat h1
    have hns : ¬ u ∈ seen := fun h => by
      have h2 := (hseen u).1 h
      have h3 := h1.2.2
      rw [outW_app _ _ (Nat.le_refl _)] at h3
      rw [hasB_iff.2 h2] at h3
      cases h3
    have e2 : ids ++ (j : Int) :: e = (ids ++ [(j : Int)]) ++ e := by simp
    have hat2 : atW fs s (ids ++ [(j : Int)]) (ids ++ [(j : Int)]).length = (u : Int) := by
      rw [e2] at hu
      rw [List.length_append, ← hu]
      exact (atW_app (ids ++ [(j : Int)]) e (ids.length + 1) (by simp)).symm
    have hmem : ids ++ (j : Int) :: e ∈ rtsL fs to k' u (u :: seen) (ids ++ [(j : Int)]) := by
      rw [e2]
      rw [e2] at hok hend hno
      refine ih k' u (u :: seen) (ids ++ [(j : Int)]) (by simp at hk; omega) hat2 hok (fun x => ?_) hend hno
      rw [List.length_append]
      show _ ↔ (x : Int) ∈ outW fs s (ids ++ [(j : Int)]) (ids.length + 1)
      rw [List.mem_cons, outW_succ, List.mem_append, outW_app _ _ (Nat.le_refl _), hseen x]
      rw [List.length_append] at hat2
      have hat3 : atW fs s (ids ++ [(j : Int)]) (ids.length + 1) = (u : Int) := hat2
      rw [hat3, List.mem_singleton]
      constructor
      · rintro (h | h)
        · exact .inr (by rw [h])
        · exact .inl h
      · rintro (h | h)
        · exact .inr h
        · exact .inl (by omega)
    rw [rtsL_on hvt]
    unfold rtsJ
    rw [List.mem_flatMap]
    exact ⟨j, List.mem_range.2 hjl, by rw [rtsI_on hat.symm hns]; exact hmem⟩
theorem rbL_all {to : Nat} (hf : ∀ f ∈ fs, fibB n f = true) {ids : List Int} (h : rtB n fs (s : Int) ids = true) (hend : atW fs (s : Int) ids ids.length = (to : Int)) : ids ∈ rbL fs n s to := by
  have hsh := rtB_short hf h
  have hne := (rtB_parts h).2.1
  have hpos : 0 < ids.length := List.length_pos_iff.2 hne
  unfold rbL
  rw [if_neg (fun e => by
    have := atW_ne h (i := 0) (j := ids.length) hpos (Nat.le_refl _)
    rw [hend, ← e] at this
    exact this rfl)]
  have := rts_all (fs := fs) (to := to) (s := (s : Int)) ids n s [s] [] (by omega) rfl (by simpa using (rtB_parts h).2.2) (fun u => by show u ∈ [s] ↔ (u : Int) ∈ [(s : Int)]; simp; omega) (by simpa using hend) (fun j hj => by
    have h2 : j < ids.length := by simpa using hj
    have := atW_ne h h2 (Nat.le_refl _)
    rw [hend] at this
    simpa using this)
  simpa using this
theorem leR_len {a b : List Int} {s : Int} (h : leR fs s a b) : lenR fs a ≤ lenR fs b := by
  unfold leR at h
  rw [ordR_eq] at h
  apply Classical.byContradiction
  intro h2
  rw [if_neg (by omega), if_pos (by omega)] at h
  omega
/-- The shortest route is as long as the distance. -/
theorem short_dist {to : Nat} (hf : ∀ f ∈ fs, fibB n f = true) (he : endsB n fs) (hl : lensB fs) (hs : s < n) (ht : to < n) (hne : s ≠ to) :
    (frO fs n s to (fun _ => true) = none ∧ valL (distL (goneF []) fs n s) to < 0) ∨ ∃ r, frO fs n s to (fun _ => true) = some r ∧ r ∈ rbL fs n s to ∧ valL (distL (goneF []) fs n s) to = lenR fs r ∧ 0 ≤ lenR fs r := by
  cases hfr : frO fs n s to (fun _ => true) with
  | none =>
    left
    refine ⟨rfl, ?_⟩
    apply Classical.byContradiction
    intro h0
    obtain ⟨ids, h1, h2, h3⟩ := path_to he hl hs _ to ht (by omega) (Nat.le_refl _)
    have hids : ids ≠ [] := fun e => by
      rw [e] at h2
      have h2 : (s : Int) = (to : Int) := h2
      omega
    have hr : rtB n fs (s : Int) ids = true := by
      unfold rtB
      rw [Bool.and_eq_true, Bool.and_eq_true]
      exact ⟨by unfold inB; simp; omega, by simpa using hids, allB_iff.2 h1⟩
    have hm := rbL_all hf hr h2
    unfold frO at hfr
    rw [List.find?_eq_none] at hfr
    exact hfr ids ((srtR_ok _).2.mem_iff.2 hm) rfl
  | some r =>
    right
    have hm : r ∈ rbL fs n s to := (srtR_ok _).2.mem_iff.1 (List.mem_of_find?_eq_some (by unfold frO at hfr; exact hfr))
    obtain ⟨hr, hend⟩ := rbL_rt hs hm
    have hd := dist_route hf he hl hs hr r.length (Nat.le_refl _)
    rw [hend, Int.toNat_natCast] at hd
    have hd2 : valL (distL (goneF []) fs n s) to ≤ lenR fs r := hd.2
    obtain ⟨ids, h1, h2, h3⟩ := path_to he hl hs _ to ht hd.1 (Nat.le_refl _)
    have hids : ids ≠ [] := fun e => by
      rw [e] at h2
      have h2 : (s : Int) = (to : Int) := h2
      omega
    have hr2 : rtB n fs (s : Int) ids = true := by
      unfold rtB
      rw [Bool.and_eq_true, Bool.and_eq_true]
      exact ⟨by unfold inB; simp; omega, by simpa using hids, allB_iff.2 h1⟩
    have hm2 := rbL_all hf hr2 h2
    have hle := leR_len (find_least (srtR_ok _).1 (by unfold frO at hfr; exact hfr) ids ((srtR_ok _).2.mem_iff.2 hm2) rfl)
    have h4 := h3 ids.length (Nat.le_refl _)
    rw [h2, Int.toNat_natCast] at h4
    have h5 : rlTo fs ids ids.length = lenR fs ids := rfl
    rw [h5] at h4
    exact ⟨r, rfl, hm, by omega, by omega⟩
end
end Go.Proofs.Ytfepilpllfiegaa
/- What the law of the list of routes asks, in plain Lean. Conditions: as each states. -/
namespace Go.Proofs.Ytfepilpllfiegaa
open Go.RowKit
theorem ar_facts {xs : List ByteArray} {fs : List Fib} {f t : Int} (h : arB xs fs f t = true) : ∃ (s to : Nat) (D : List (List Int)), f = (s : Int) ∧ t = (to : Int) ∧ goodB xs fs = true ∧ (s < xs.length ∧ to < xs.length) ∧ arL xs fs f t = D.map (fun r => ((s : Int), r)) ∧
    shO xs fs f t (fun _ => true) = D.head? ∧ (∀ r ∈ D, routeB xs fs (s : Int) r = true ∧ atW fs (s : Int) r r.length = (to : Int)) ∧ ∀ (i : Nat) a b, D[i]? = some a → D[i + 1]? = some b → ordR fs (s : Int) a (s : Int) b = -1 := by
  unfold arB at h
  rw [Bool.and_eq_true] at h
  obtain ⟨hmc, hal⟩ := h
  have hmc' := hmc
  unfold mcB at hmc'
  rw [Bool.and_eq_true, Bool.and_eq_true, Bool.and_eq_true] at hmc'
  obtain ⟨⟨⟨hg, hf1⟩, ht1⟩, hne⟩ := hmc'
  have hf2 := inB_idx hf1
  have ht2 := inB_idx ht1
  obtain ⟨s, rfl⟩ : ∃ s : Nat, f = (s : Int) := ⟨f.toNat, by omega⟩
  obtain ⟨to, rfl⟩ : ∃ to : Nat, t = (to : Int) := ⟨t.toNat, by omega⟩
  unfold alB at hal
  simp only [Int.toNat_natCast, decide_eq_true_eq] at hal
  refine ⟨s, to, srtR fs (s : Int) (rbL fs xs.length s to), rfl, rfl, hg, by omega, ?_, ?_, fun r hr => ?_, fun i a b ha hb => srt_next rbL_nodup ha hb⟩
  · unfold arL alL
    rw [hmc, if_pos rfl]
    simp only [Int.toNat_natCast]
    rw [if_pos hal]
  · unfold shO frO
    rw [hmc, if_pos rfl]
    simp only [Int.toNat_natCast]
    cases srtR fs (s : Int) (rbL fs xs.length s to) with
    | nil => rfl
    | cons a l => rfl
  · have hm := (srtR_ok _).2.mem_iff.1 hr
    obtain ⟨h1, h2⟩ := rbL_rt (n := xs.length) (by omega) hm
    exact ⟨by unfold routeB; rw [hg, h1]; rfl, h2⟩
theorem ar_none {xs : List ByteArray} {fs : List Fib} {f t : Int} (h : arB xs fs f t = false) : arL xs fs f t = [] := by
  unfold arB at h
  unfold arL
  cases g : mcB xs fs f t
  · rfl
  · rw [g] at h
    have h2 : alB fs xs.length f.toNat t.toNat = false := by simpa using h
    unfold alB at h2
    rw [if_pos rfl]
    unfold alL
    rw [if_neg (by simpa using h2)]
    rfl
end Go.Proofs.Ytfepilpllfiegaa
