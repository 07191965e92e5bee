/- Lemmas and walks that the claim rests on, laid together. Conditions: none. -/
import Derived.Test.YthjnddkppodioaaZ36b3fa9a13fd
import Derived.Test.YthjnddkppodioaaZ4823b98cab7c
import Derived.Test.YthjnddkppodioaaZa3b676bb5bc3
import Derived.Laws.EntriesVeiled
import Derived.Test.YthjnddkppodioaaZ92334171a5bf
import Derived.Test.YthjnddkppodioaaZf35e667cb5d2
import Derived.Test.YthjnddkppodioaaZcfae11148e2e
import Derived.Test.YthjnddkppodioaaZad4c98039d2f
import Derived.Deep.RegionHeld3
/- routesBetween, walked: all routes, sorted. Conditions: none. -/
namespace Go.Proofs.Ythjnddkppodioaa
open Go.RowKit
/-- All routes from s to another node. -/
def rbL (fs : List Fib) (n s to : Nat) : List (List Int) := if s = to then [] else rtsL fs to n s [s] []
theorem Led.emptyRS {w0 w : World} {L : List Thing} (h : Led w0 w L) (g : Nat) (hg : g = w.heap.size) (b0 : Nat) (h0 : b0 ≤ g) : Led w0 (w.alloc (.cells #[] 45)) (tRS b0 (.slice (some ⟨g, 0, none⟩) 0 0) [] [] :: L) := by
  subst hg
  have ho : Owns elRt (w.alloc (.cells #[] 45)) w.heap.size 45 (.slice (some ⟨w.heap.size, 0, none⟩) 0 0) [] := Owns.of_blk (n := 0) (cap := 0) (cur := #[]) (Blk.new w 45 #[]) (Nat.le_refl _) rfl (Nat.le_refl _) (by simp) (by decide) (Filled.zero _ _ _)
  have hO : OwnsRS (w.alloc (.cells #[] 45)) w.heap.size (.slice (some ⟨w.heap.size, 0, none⟩) 0 0) [] [] := ⟨ho, rfl, fun i s r h1 => by simp at h1, fun i j s t g _ h1 => by simp at h1⟩
  exact h.put (bl_alloc (Below.refl _ _) _) (tRS b0 _ [] []) (fun _ e => (hO.lies e).1) (hO.base_ h0)
section
variable {n c m d : Nat} {A A' : Option Addr} {xs : List ByteArray} {fs : List Fib}
theorem rbL_ok {s to : Nat} : ∀ r ∈ rbL fs n s to, r.length ≤ n ∧ ∀ x ∈ r, 0 ≤ x ∧ x < fs.length := by
  intro r hr
  unfold rbL at hr
  split at hr
  · cases hr
  · obtain ⟨e, he, h1, h2⟩ := rtsL_mem _ _ _ _ r hr
    rw [List.nil_append] at he
    subst he
    exact ⟨by omega, h2⟩
theorem rbL_len {s to : Nat} (hn : n ≤ 8) (hm : fs.length ≤ 14) : (rbL fs n s to).length ≤ 2562890625 := by
  unfold rbL
  split
  · exact Nat.zero_le _
  · refine Nat.le_trans (rtsL_len _ _ _ _) ?_
    have h1 : (fs.length + 1) ^ n ≤ 15 ^ n := Nat.pow_le_pow_left (by omega) _
    have h2 : 15 ^ n ≤ 15 ^ 8 := Nat.pow_le_pow_right (by decide) hn
    exact Nat.le_trans h1 (Nat.le_trans h2 (by decide))
set_option maxHeartbeats 4000000 in
set_option maxRecDepth 100000 in
theorem routesBetween_any (w : World) (h : NetIs w A n c A' m d xs fs) (g : goodB xs fs = true) (s to : Nat) (hs : s < n) (_ht : to < n) :
    Calls Try.prog 88 #[.agg #[.slice A n c, .slice A' m d], .int .i64 (s : Int), .int .i64 (to : Int)] w fun e w' => ∃ v ss rows, e = .returned v ∧ rows.Perm ((rbL fs n s to).map fun r => ((s : Int), r)) ∧ rows.Pairwise (fun a b => leR fs (s : Int) a.2 b.2) ∧ OwnsRS w' w.heap.size v ss rows ∧ Below w.heap.size w w' := by
  obtain ⟨he, hn0, hn8, hm14⟩ := good_parts h g
  obtain ⟨w0, hw0⟩ : ∃ w0, w0 = ((w.alloc (.cells #[.slice A n c, .slice A' m d] 32)).alloc (.cells #[.int .i64 (s : Int)] 3)).alloc (.cells #[.int .i64 (to : Int)] 3) := ⟨_, rfl⟩
  have hb0 : Below w.heap.size w w0 := by rw [hw0]; exact bl_alloc (bl_alloc (bl_alloc (Below.refl _ _) _) _) _
  have hsz : w0.heap.size = w.heap.size + 1 + 1 + 1 := by rw [hw0]; simp
  have kN : Blk w0 w.heap.size 32 #[.slice A n c, .slice A' m d] := by rw [hw0]; exact ((Blk.new w _ _).alloc _).alloc _
  have kF : Blk w0 (w.heap.size + 1) 3 #[.int .i64 (s : Int)] := by
    rw [hw0]
    have h1 : Blk ((w.alloc (.cells #[.slice A n c, .slice A' m d] 32)).alloc (.cells #[.int .i64 (s : Int)] 3)) (w.alloc (.cells #[.slice A n c, .slice A' m d] 32)).heap.size 3 #[.int .i64 (s : Int)] := Blk.new _ _ _
    have h2 := h1.alloc (.cells #[.int .i64 (to : Int)] 3)
    simpa using h2
  have kT : Blk w0 (w.heap.size + 1 + 1) 3 #[.int .i64 (to : Int)] := by
    rw [hw0]
    have h1 : Blk (((w.alloc (.cells #[.slice A n c, .slice A' m d] 32)).alloc (.cells #[.int .i64 (s : Int)] 3)).alloc (.cells #[.int .i64 (to : Int)] 3)) ((w.alloc (.cells #[.slice A n c, .slice A' m d] 32)).alloc (.cells #[.int .i64 (s : Int)] 3)).heap.size 3 #[.int .i64 (to : Int)] := Blk.new _ _ _
    simpa using h1
  have hn : NetIs w0 A n c A' m d xs fs := h.grow hb0
  have hL0 := (((Led.nil w0).emptyRS w0.heap.size rfl w0.heap.size (Nat.le_refl _)).blk_ (w0.heap.size + 1) (by simp) 39 #[.slice (some ⟨w0.heap.size, 0, none⟩) 0 0]).blk_ (w0.heap.size + 1 + 1) (by simp) 148 #[.func (.func 145) #[] (capE (w.heap.size + 1 + 1) (w0.heap.size + 1) (w.heap.size + 1) w.heap.size (w0.heap.size + 1 + 1))]
  have hL1 : Led w0 _ (exT w0.heap.size (.slice (some ⟨w0.heap.size, 0, none⟩) 0 0) [] [] (w.heap.size + 1 + 1) (w0.heap.size + 1) (w.heap.size + 1) w.heap.size (w0.heap.size + 1 + 1) w0.heap.size none 0 [] []) := (hL0.nilS elInt 3 w0.heap.size).pick [3, 2, 1, 0] (by decide) rfl
  clear hL0
  rw [hsz] at hL1
  have HL1 : Hid (Led w0 ((((((w.alloc (.cells #[.slice A n c, .slice A' m d] 32)).alloc (.cells #[.int .i64 (s : Int)] 3)).alloc (.cells #[.int .i64 (to : Int)] 3)).alloc (.cells #[] 45)).alloc (.cells #[.slice (some ⟨w.heap.size + 1 + 1 + 1, 0, none⟩) 0 0] 39)).alloc (.cells #[.func (.func 145) #[] #[.pointer (some ⟨w.heap.size + 1 + 1, 0, none⟩), .pointer (some ⟨w.heap.size + 1 + 1 + 1 + 1, 0, none⟩), .pointer (some ⟨w.heap.size + 1, 0, none⟩), .pointer (some ⟨w.heap.size, 0, none⟩), .pointer (some ⟨w.heap.size + 1 + 1 + 1 + 1 + 1, 0, none⟩)]] 148)) (exT w0.heap.size (.slice (some ⟨w.heap.size + 1 + 1 + 1, 0, none⟩) 0 0) [] [] (w.heap.size + 1 + 1) (w.heap.size + 1 + 1 + 1 + 1) (w.heap.size + 1) w.heap.size (w.heap.size + 1 + 1 + 1 + 1 + 1) w0.heap.size none 0 [] [])) := by
    have h1 := hL1
    rw [← hw0, hsz]
    exact h1
  have HN := hid hn
  have HKN := hid kN
  have HKF := hid kF
  have HKT := hid kT
  have HSZ := hid hsz
  have HB0 := hid hb0
  clear hL1 hn kN kF kT hsz hb0 hw0 h he
  by_cases hst : s = to
  · have hst1 : ((s : Int) != (to : Int)) = false := by rw [hst]; simp
    have HR : Hid (rbL fs n s to = []) := by unfold Hid rbL; rw [if_pos hst]
    clear hst
    go_enter Try.func88, Try.ntmps88
    have hl1 := HL1.out
    have hsort := sortRoutes_led (s := (s : Int)) (xs := xs) (fs := fs) hl1 0 rfl (HKN.out.below hl1.bl HKN.out.lt) (fun g' hg' e => by
      have h1 := (hl1.all 0 _ rfl).2 g' (.inl hg')
      have h2 := HSZ.out
      omega) HN.out (goodB_lens g) (fun r hr => by cases hr) (by decide)
    have q0 := hl1.cell 1 0 rfl rfl
    have HSORT := hid hsort
    clear hl1 hsort
    unfold capE at HSORT q0
    go_wp2_with fail
    refine Calls.mono HSORT.out ?_
    rintro e5 w5 ⟨rfl, ss5, rows5, hp5, hs5, hl5⟩
    have H5 := hid hl5
    have q1 := hl5.cell 1 0 rfl rfl
    have HP5 := hid hp5
    have HS5 := hid hs5
    clear hl5 HSORT q0 hp5 hs5
    go_wp2_with fail
    go_ret
    refine ⟨_, ss5, rows5, rfl, ?_, HS5.out, ?_, HB0.out.trans (H5.out.bl.mono HB0.out.size)⟩
    · rw [HR.out]; exact HP5.out
    · exact (show OwnsRS w5 w0.heap.size _ ss5 rows5 from H5.out.get 0 rfl).base_ HB0.out.size
  · have hst1 : ((s : Int) != (to : Int)) = true := by rw [bne_iff_ne]; omega
    have HR : Hid (rbL fs n s to = rtsL fs to n s [s] []) := by unfold Hid rbL; rw [if_neg hst]
    go_enter Try.func88, Try.ntmps88
    go_wp2_with fail
    generalize ((((((w.alloc (.cells #[.slice A n c, .slice A' m d] 32)).alloc (.cells #[.int .i64 (s : Int)] 3)).alloc (.cells #[.int .i64 (to : Int)] 3)).alloc (.cells #[] 45)).alloc (.cells #[.slice (some ⟨w.heap.size + 1 + 1 + 1, 0, none⟩) 0 0] 39)).alloc (.cells #[.func (.func 145) #[] #[.pointer (some ⟨w.heap.size + 1 + 1, 0, none⟩), .pointer (some ⟨w.heap.size + 1 + 1 + 1 + 1, 0, none⟩), .pointer (some ⟨w.heap.size + 1, 0, none⟩), .pointer (some ⟨w.heap.size, 0, none⟩), .pointer (some ⟨w.heap.size + 1 + 1 + 1 + 1 + 1, 0, none⟩)]] 148)) = W1 at HL1 ⊢
    have E0 : ∀ w', exS w0 (w.heap.size + 1 + 1) (w.heap.size + 1 + 1 + 1 + 1) (w.heap.size + 1) w.heap.size (w.heap.size + 1 + 1 + 1 + 1 + 1) w' → w'.cell? ⟨w.heap.size + 1 + 1 + 1 + 1 + 1, 0, none⟩ = some (.func (.func 145) #[] #[.pointer (some ⟨w.heap.size + 1 + 1, 0, none⟩), .pointer (some ⟨w.heap.size + 1 + 1 + 1 + 1, 0, none⟩), .pointer (some ⟨w.heap.size + 1, 0, none⟩), .pointer (some ⟨w.heap.size, 0, none⟩), .pointer (some ⟨w.heap.size + 1 + 1 + 1 + 1 + 1, 0, none⟩)]) := fun _ h => Led.cell h 0 0 rfl rfl
    have E1 : ∀ w', exS w0 (w.heap.size + 1 + 1) (w.heap.size + 1 + 1 + 1 + 1) (w.heap.size + 1) w.heap.size (w.heap.size + 1 + 1 + 1 + 1 + 1) w' → w'.cell? ⟨w.heap.size + 1, 0, none⟩ = some (.int .i64 (s : Int)) := fun _ h => bl_cell (Led.bl h) (by rw [HKF.out.cell]; rfl)
    have hpos : (2 : Nat) ^ s < 2 ^ 20 := Nat.pow_lt_pow_right (by decide) (by omega)
    have hw : IntKind.i64.wrap ((2 : Int) ^ s) = ((2 ^ s : Nat) : Int) := by
      have e : ((2 : Int) ^ s) = ((2 ^ s : Nat) : Int) := by simp
      rw [e]
      have h62 : 2 ^ s < 4611686018427387904 := Nat.lt_trans hpos (by decide)
      generalize 2 ^ s = y at *
      exact IntWalk.i64_in _ (by omega)
    have HW := hid hw
    have hS0 : exS w0 (w.heap.size + 1 + 1) (w.heap.size + 1 + 1 + 1 + 1) (w.heap.size + 1) w.heap.size (w.heap.size + 1 + 1 + 1 + 1 + 1) W1.drew := exS_of (HL1.out.step (Cls.drew W1))
    have HCALL := hid (ext_any HN.out g (by rw [HKT.out.cell]; rfl) (by rw [HKF.out.cell]; rfl) (by rw [HKN.out.cell]; rfl) (by rw [HKN.out.cell]; rfl) (gt := w.heap.size + 1 + 1) (gf := w.heap.size + 1) (gn := w.heap.size) (to := to) (s := s) n s (2 ^ s) [s] [] _ _ _ _ none 0 _ W1.drew (by simp) (fun u hu => by rw [List.mem_singleton.1 hu]; exact hs) (by simp; omega) hs hpos (fun u hu => by rw [Nat.testBit_two_pow, decide_eq_true_eq, List.mem_singleton]; exact eq_comm) (by
      have := rbL_len (fs := fs) (n := n) (s := s) (to := to) hn8 (by have := HN.out.flen; omega)
      rw [HR.out] at this
      simp; omega) rfl (Nat.le_refl _) (HL1.out.step (Cls.drew W1)))
    rw [← HW.out] at HCALL
    unfold capE at HCALL
    clear hpos hw
    have iu : IntKind.u64.wrap (s : Int) = (s : Int) := by rw [IntKind.wrap_u64]; omega
    have imn : min s 64 = s := by omega
    go_region_held3 (fun w' => exS w0 (w.heap.size + 1 + 1) (w.heap.size + 1 + 1 + 1 + 1) (w.heap.size + 1) w.heap.size (w.heap.size + 1 + 1 + 1 + 1 + 1) w') (first | exact hS0 | assumption)
      (first
        | (go_at_call 145; refine HCALL.out.mono ?_; rintro e4 w4 ⟨rfl, V4, ss4, h4⟩; have hS4 := exS_of h4))
    rw [List.nil_append] at h4
    have HLEN : Hid (ss4.length ≤ 1099511627776) := by
      have h1 := (show OwnsRS w4 w0.heap.size V4 ss4 _ from h4.get 0 rfl).2.1
      have := rbL_len (fs := fs) (n := n) (s := s) (to := to) hn8 (by have := HN.out.flen; omega)
      rw [HR.out] at this
      rw [List.length_map] at h1
      refine hid ?_
      omega
    have HOK : Hid (∀ r ∈ (rtsL fs to n s [s] []).map (fun r => ((s : Int), r)), r.1 = (s : Int) ∧ r.2.length ≤ 1048576 ∧ ∀ x ∈ r.2, 0 ≤ x ∧ x < fs.length) := fun r hr => by
      obtain ⟨q, hq, rfl⟩ := List.mem_map.1 hr
      have := rbL_ok (n := n) (fs := fs) (s := s) (to := to) q (by rw [HR.out]; exact hq)
      exact ⟨rfl, by simp only; omega, this.2⟩
    have H4 := hid h4
    clear h4 hS4 hS0 HCALL E0 E1
    have hl1 := H4.out
    obtain ⟨A4, c4, hv4, _⟩ := (show OwnsRS w4 w0.heap.size _ _ _ from hl1.get 0 rfl).1.form
    subst hv4
    have q0 := hl1.cell 1 0 rfl rfl
    have hsort := sortRoutes_led (s := (s : Int)) hl1 0 rfl (HKN.out.below hl1.bl HKN.out.lt) (fun g' hg' e => by
      have h1 := (hl1.all 0 _ rfl).2 g' (.inl hg')
      have h2 := HSZ.out
      omega) HN.out (goodB_lens g) HOK.out HLEN.out
    have HSORT := hid hsort
    have HBL := hid hl1.bl
    clear hl1 hsort
    go_wp2_with fail
    refine HSORT.out.mono ?_
    rintro e5 w5 ⟨rfl, ss5, rows5, hp5, hs5, hl5⟩
    have H5 := hid hl5
    have q1 := hl5.cell 1 0 rfl rfl
    have HP5 := hid hp5
    have HS5 := hid hs5
    clear hl5 HSORT q0 hp5 hs5
    go_wp2_with fail
    go_ret
    refine ⟨_, ss5, rows5, rfl, ?_, HS5.out, ?_, HB0.out.trans (H5.out.bl.mono HB0.out.size)⟩
    · rw [HR.out]; exact HP5.out
    · exact (show OwnsRS w5 w0.heap.size _ ss5 rows5 from H5.out.get 0 rfl).base_ HB0.out.size
end
end Go.Proofs.Ythjnddkppodioaa
/- l4Pair, l4All, AllRoutes of the reference, walked. Conditions: none. By alls.py. -/
namespace Go.Proofs.Ythjnddkppodioaa
open Go.RowKit
/-- All routes sorted, if there are few enough. -/
def alL (fs : List Fib) (n s to : Nat) : List (List Int) := if (rbL fs n s to).length ≤ 200 then srtR fs (s : Int) (rbL fs n s to) else []
def alB (fs : List Fib) (n s to : Nat) : Bool := decide ((rbL fs n s to).length ≤ 200)
def arB (xs : List ByteArray) (fs : List Fib) (f t : Int) : Bool := mcB xs fs f t && alB fs xs.length f.toNat t.toNat
def arL (xs : List ByteArray) (fs : List Fib) (f t : Int) : List (Int × List Int) := if mcB xs fs f t then (alL fs xs.length f.toNat t.toNat).map fun r => (f, r) else []
theorem arL_parts {xs : List ByteArray} {fs : List Fib} {f t : Int} : (arL xs fs f t).length ≤ 200 ∧ ∀ r ∈ arL xs fs f t, r.2.length ≤ 8 := by
  unfold arL
  cases g : mcB xs fs f t
  · exact ⟨by simp, fun r hr => by cases hr⟩
  · have hb := goodB_bd (mcB_parts g).1
    refine ⟨?_, fun r hr => ?_⟩
    · rw [if_pos rfl, List.length_map]
      unfold alL
      split
      · rw [(srtR_ok _).2.length_eq]; assumption
      · simp
    · rw [if_pos rfl] at hr
      obtain ⟨q, hq, rfl⟩ := List.mem_map.1 hr
      unfold alL at hq
      split at hq
      · have := (rbL_ok q ((srtR_ok _).2.mem_iff.1 hq)).1
        simp only; omega
      · cases hq
theorem sum_le : ∀ (l : List (Int × List Int)), (∀ r ∈ l, r.2.length ≤ 8) → (l.map fun r => 1 + r.2.length).sum ≤ 9 * l.length := by
  intro l
  induction l with
  | nil => intro _; simp
  | cons r l ih =>
    intro h
    have h1 := ih fun x hx => h x (List.mem_cons_of_mem _ hx)
    have h2 := h r List.mem_cons_self
    simp only [List.map_cons, List.sum_cons, List.length_cons]
    omega
theorem off_small {l : List (Int × List Int)} (h : l.length ≤ 200 ∧ ∀ r ∈ l, r.2.length ≤ 8) : offR 1 l l.length ≤ 1099511627776 := by
  unfold offR
  rw [List.take_length]
  have := sum_le l h.2
  have := h.1
  omega
theorem Led.recopy {w0 w : World} {base b2 : Nat} {V V2 : Value} {ss : List (Int × Sl)} {rows : List (Int × List Int)} {R : List Thing} (h : Led w0 w (tOwns elRt b2 45 V2 ss :: tRS base V ss rows :: R)) (hb2 : base ≤ b2) : Led w0 w (tRS base V2 ss rows :: R) := by
  have hO : OwnsRS w base V ss rows := h.get 1 rfl
  have hN : Owns elRt w b2 45 V2 ss := h.get 0 rfl
  have h3 : Led w0 w (tOwns elRt b2 45 V2 ss :: tRS base V ss rows :: tOwns elInt 0 3 (.slice none 0 0) [] :: R) := (h.nilS elInt 3 0).front (P := [_, _, _]) (R := R) [1, 2, 0] (by decide) rfl
  refine h3.fuse3 (fun k hk => ?_) ⟨hN.base hb2, hO.2.1, hO.2.2.1, hO.2.2.2⟩
  rcases hk with hk | hk
  · exact .inl hk
  · exact .inr (.inl (.inr hk))
theorem Led.nilRS {w0 w : World} {L : List Thing} (h : Led w0 w L) (b0 : Nat) : Led w0 w (tRS b0 (.slice none 0 0) [] [] :: L) :=
  h.put (Below.refl _ _) (tRS b0 (.slice none 0 0) [] []) (fun b e => by
    rcases e with e | ⟨i, s, h1, _⟩
    · cases e
    · simp at h1) (OwnsRS.nil _ _)
theorem rfL_whole {fs : List Fib} {n s to : Nat} (h : s ≠ to) : ((rfL fs s to n s [s] [] []).length ≤ 200 ∧ rfL fs s to n s [s] [] [] = alL fs n s to ∧ alB fs n s to = true) ∨ (200 < (rfL fs s to n s [s] [] []).length ∧ alL fs n s to = [] ∧ alB fs n s to = false) := by
  have hr : rbL fs n s to = dfsL fs.length to (nxF fs) n s [s] [] := by unfold rbL; rw [if_neg h]; rfl
  rcases refL_all (m := fs.length) (to := to) (M := 200) (nx := nxF fs) (ins := insR fs (s : Int)) (fun l r => insR_len l r) n s [s] [] with ⟨h1, h2⟩ | ⟨h1, h2⟩
  · refine .inl ⟨?_, ?_, ?_⟩
    · unfold rfL
      rw [h1, ins_foldl (fun l r => insR_len l r)]
      simpa using h2
    · unfold rfL alL srtR
      rw [h1, hr, if_pos h2]
    · unfold alB; rw [hr]; exact decide_eq_true h2
  · refine .inr ⟨h1, ?_, ?_⟩
    · unfold alL; rw [hr, if_neg (by omega)]
    · unfold alB; rw [hr]; exact decide_eq_false (by omega)
section
variable {n c m d : Nat} {A A' : Option Addr} {xs : List ByteArray} {fs : List Fib}
set_option maxHeartbeats 2000000 in
set_option maxRecDepth 100000 in
theorem l4Pair_any (f t : Int) (w : World) (h : NetIs w A n c A' m d xs fs) :
    Calls Try.prog 86 #[.agg #[.slice A n c, .slice A' m d], .int .i64 f, .int .i64 t] w fun e w' => e = .returned (.bool (mcB xs fs f t)) ∧ Below w.heap.size w w' := by
  have hS := (Led.nil w).blk_ w.heap.size rfl 32 #[.slice A n c, .slice A' m d]
  have hn := h.nle
  have HK : Hid (mcB xs fs f t = (((goodB xs fs && inB 0 ((n : Int) - 1) f) && inB 0 ((n : Int) - 1) t) && !(f == t))) := by unfold Hid mcB; rw [h.xlen]
  have iw : IntKind.i64.wrap ((n : Int) - 1) = (n : Int) - 1 := IntWalk.i64_in _ (by omega)
  rw [HK.out]
  clear HK
  cases g : goodB xs fs
  · go_enter Try.func86, Try.ntmps86
    go_wp2_with fail
    refine (goodN _ (h.grow hS.bl)).mono ?_
    rintro e w1 ⟨rfl, hb⟩
    rw [g]
    go_wp2_with fail
    go_ret
    exact ⟨rfl, bl_then hS.bl hb⟩
  · cases g2 : inB 0 ((n : Int) - 1) f
    · go_enter Try.func86, Try.ntmps86
      go_wp2_with fail
      refine (goodN _ (h.grow hS.bl)).mono ?_
      rintro e w1 ⟨rfl, hb⟩
      rw [g]
      replace hS := hS.step hb
      have q0 := hS.cell 0 0 rfl rfl
      clear hb
      go_wp2_with fail
      refine (l1In_any _ _ _ _).mono ?_
      rintro e w3 ⟨rfl, rfl⟩
      rw [g2]
      go_wp2_with fail
      go_ret
      exact ⟨rfl, hS.bl⟩
    · cases g3 : inB 0 ((n : Int) - 1) t
      · go_enter Try.func86, Try.ntmps86
        go_wp2_with fail
        refine (goodN _ (h.grow hS.bl)).mono ?_
        rintro e w1 ⟨rfl, hb⟩
        rw [g]
        replace hS := hS.step hb
        have q0 := hS.cell 0 0 rfl rfl
        clear hb
        go_wp2_with fail
        refine (l1In_any _ _ _ _).mono ?_
        rintro e w3 ⟨rfl, rfl⟩
        rw [g2]
        go_wp2_with fail
        refine (l1In_any _ _ _ _).mono ?_
        rintro e w3 ⟨rfl, rfl⟩
        rw [g3]
        go_wp2_with fail
        go_ret
        exact ⟨rfl, hS.bl⟩
      · go_enter Try.func86, Try.ntmps86
        go_wp2_with fail
        refine (goodN _ (h.grow hS.bl)).mono ?_
        rintro e w1 ⟨rfl, hb⟩
        rw [g]
        replace hS := hS.step hb
        have q0 := hS.cell 0 0 rfl rfl
        clear hb
        go_wp2_with fail
        refine (l1In_any _ _ _ _).mono ?_
        rintro e w3 ⟨rfl, rfl⟩
        rw [g2]
        go_wp2_with fail
        refine (l1In_any _ _ _ _).mono ?_
        rintro e w3 ⟨rfl, rfl⟩
        rw [g3]
        go_wp2_with fail
        go_ret
        exact ⟨by cases hft : (f == t) <;> simp_all [bne], hS.bl⟩
set_option maxHeartbeats 4000000 in
set_option maxRecDepth 100000 in
theorem l4All_any (w : World) (h : NetIs w A n c A' m d xs fs) (g : goodB xs fs = true) (s to : Nat) (hs : s < n) (hne : s ≠ to) :
    Calls Try.prog 87 #[.agg #[.slice A n c, .slice A' m d], .int .i64 (s : Int), .int .i64 (to : Int)] w fun e w' => ∃ v ss, e = .returned (.tuple #[v, .bool (alB fs n s to)]) ∧ OwnsRS w' w.heap.size v ss ((alL fs n s to).map fun r => ((s : Int), r)) ∧ Below w.heap.size w w' := by
  obtain ⟨he, hn0, hn8, hm14⟩ := good_parts h g
  have hS := (((Led.nil w).blk_ w.heap.size rfl 32 #[.slice A n c, .slice A' m d]).blk_ (w.heap.size + 1) (by simp) 146 (srX A n c A' m d to (.slice none 0 0))).single elInt (s : Int) 3 (w.heap.size + 1 + 1) (by simp) w.heap.size (by omega)
  have H0 := hid (((hS.nilRS w.heap.size).nilS elInt 3 w.heap.size).pick [0, 2, 1, 3, 4] (by decide) rfl)
  have HN := hid h
  have HW := hid (rfL_whole (fs := fs) (n := n) hne)
  have HEXT := hid (sext_any h g (to := to) (gx := w.heap.size + 1) (show s ≤ 1048576 by omega) n s [s] [] [] (.slice none 0 0) [] [tBlk w.heap.size 32 #[.slice A n c, .slice A' m d]] none 0 w.heap.size (some ⟨w.heap.size + 1 + 1, 0, none⟩) 1 w.heap.size _ (by simp) (fun u hu => by rw [List.mem_singleton.1 hu]; exact hs) (by simp; omega) rfl rfl (fun x hx => by cases hx) ⟨by simp, fun r hr => by cases hr⟩ (by simp) (Nat.le_refl _) H0.out)
  obtain ⟨i0, hi, hz0, hz1, hz2⟩ := info_parts rt_info
  have hcells : (elInt.cells (s : Int)).toArray = #[.int .i64 (s : Int)] := rfl
  rw [hcells] at HEXT
  clear hS h H0 he hne hcells
  unfold srX at HEXT
  go_enter Try.func87, Try.ntmps87
  go_wp2_with fail
  refine HEXT.out.mono ?_
  rintro e w4 ⟨rfl, V', ss', h4⟩
  clear HEXT
  have hO : OwnsRS w4 w.heap.size V' ss' ((rfL fs s to n s [s] [] []).map fun r => ((s : Int), r)) := h4.get 0 rfl
  obtain ⟨AV, cV, hV, _, _, _⟩ := hO.1.form
  have hsl1 : ss'.length = (rfL fs s to n s [s] [] []).length := by rw [hO.2.1, List.length_map]
  rw [hsl1] at hV
  subst hV
  have H4 := hid h4
  have HSL := hid hsl1
  clear hO h4 hsl1
  have x3 := H4.out.cell (l := [.slice A n c, .slice A' m d, .int .i64 (to : Int), .slice AV (rfL fs s to n s [s] [] []).length cV]) 1 3 rfl rfl
  rcases HW.out with ⟨h200, hL, hB⟩ | ⟨h200, hL, hB⟩
  · have HL := hid hL
    have HBB := hid hB
    have hle : (rfL fs s to n s [s] [] []).length ≤ 201 := by omega
    generalize hrf : rfL fs s to n s [s] [] [] = rf at *
    clear hL hB HW hrf
    have H5 := hid (H4.out.empty elRt 45 w4.heap.size rfl w.heap.size H4.out.bl.size)
    have x4 : (w4.alloc (.cells #[] 45)).cell? ⟨w.heap.size + 1, 3, none⟩ = some (.slice AV rf.length cV) := H5.out.cell (l := [.slice A n c, .slice A' m d, .int .i64 (to : Int), .slice AV rf.length cV]) 2 3 rfl rfl
    go_wp2_with (first
      | (at_builtin; refine wpList_append_led rfl _ _ 39 rfl H5.out 0 rfl Try.underlying39 hi hz0 hz1 (by rw [hz2]; decide) rfl rfl rfl (H5.out.seesRS 1 rfl) (by simp; omega) H5.out.bl.size ?_)
      | go_in)
    intro A2 c2 w5 h5
    have H6 := hid (Led.recopy (base := w.heap.size) h5 (Nat.le_refl _))
    clear h5 x3 x4 H5 H4
    go_wp2_with fail
    go_ret2
    refine ⟨_, ss', by rw [HBB.out]; rfl, ?_, H6.out.bl⟩
    rw [← HL.out]
    exact H6.out.get 0 rfl
  · have HL := hid hL
    have HBB := hid hB
    generalize hrf : rfL fs s to n s [s] [] [] = rf at *
    clear hL hB HW hrf
    have H5 := hid (H4.out.emptyRS w4.heap.size rfl w.heap.size H4.out.bl.size)
    clear H4
    go_wp2_with fail
    go_ret2
    refine ⟨_, [], by rw [HBB.out]; rfl, ?_, H5.out.bl⟩
    rw [HL.out]
    exact H5.out.get 0 rfl
set_option maxHeartbeats 4000000 in
set_option maxRecDepth 100000 in
theorem specAllRoutes (f t : Int) (w : World) (h : NetIs w A n c A' m d xs fs) :
    Calls Try.prog 23 #[.agg #[.slice A n c, .slice A' m d], .int .i64 f, .int .i64 t] w fun e w' => ∃ v ss, e = .returned (.tuple #[v, .bool (arB xs fs f t)]) ∧ OwnsRS w' w.heap.size v ss (arL xs fs f t) ∧ Below w.heap.size w w' := by
  have hS := (Led.nil w).blk_ w.heap.size rfl 32 #[.slice A n c, .slice A' m d]
  cases g : mcB xs fs f t
  · have H : Hid (arL xs fs f t = []) := by unfold Hid arL; rw [g]; rfl
    have HB : Hid (arB xs fs f t = false) := by unfold Hid arB; rw [g]; rfl
    rw [HB.out]
    go_enter Try.func23, Try.ntmps23
    go_wp2_with fail
    refine (l4Pair_any f t _ (h.grow hS.bl)).mono ?_
    rintro e w1 ⟨rfl, hb⟩
    rw [g]
    replace hS := hS.step hb
    clear hb
    have HS1 := hid (hS.emptyRS w1.heap.size rfl w.heap.size hS.bl.size)
    clear hS
    go_wp2_with fail
    go_ret2
    exact ⟨_, [], rfl, by rw [H.out]; exact HS1.out.get 0 rfl, HS1.out.bl⟩
  · obtain ⟨hg, hf, ht, hne⟩ := mcB_parts g
    rw [h.xlen] at hf ht
    obtain ⟨f', rfl⟩ : ∃ f' : Nat, f = (f' : Int) := ⟨f.toNat, by omega⟩
    obtain ⟨t', rfl⟩ : ∃ t' : Nat, t = (t' : Int) := ⟨t.toNat, by omega⟩
    have H : Hid (arL xs fs (f' : Int) (t' : Int) = (alL fs n f' t').map fun r => ((f' : Int), r)) := by unfold Hid arL; rw [g, h.xlen]; rfl
    have HB : Hid (arB xs fs (f' : Int) (t' : Int) = alB fs n f' t') := by unfold Hid arB; rw [g, h.xlen]; rfl
    rw [HB.out]
    have HN := hid h
    have HG := hid g
    clear h g
    go_enter Try.func23, Try.ntmps23
    go_wp2_with fail
    refine (l4Pair_any _ _ _ (HN.out.grow hS.bl)).mono ?_
    rintro e w1 ⟨rfl, hb⟩
    rw [HG.out]
    replace hS := hS.step hb
    have q0 := hS.cell 0 0 rfl rfl
    have q1 := hS.cell 0 1 rfl rfl
    clear hb
    go_wp2_with fail
    refine (l4All_any _ (HN.out.grow hS.bl) hg f' t' (by omega) (by omega)).mono ?_
    rintro e w2 ⟨v, ss, rfl, ho, hb2⟩
    have HO := hid (ho.base_ hS.bl.size)
    have HZ := hid (bl_then hS.bl hb2)
    clear ho hb2 q0 q1 hS
    go_wp2_with fail
    go_ret2
    exact ⟨_, ss, rfl, by rw [H.out]; exact HO.out, HZ.out⟩
end
end Go.Proofs.Ythjnddkppodioaa
/- AllRoutes of the program, walked. Conditions: none. By alli.py. -/
namespace Go.Proofs.Ythjnddkppodioaa
open Go.RowKit
section
variable {n c m d : Nat} {A A' : Option Addr} {xs : List ByteArray} {fs : List Fib}
set_option maxHeartbeats 4000000 in
set_option maxRecDepth 100000 in
theorem implAllRoutes (f t : Int) (w : World) (h : NetIs w A n c A' m d xs fs) :
    Calls Try.prog 24 #[.agg #[.slice A n c, .slice A' m d], .int .i64 f, .int .i64 t] w fun e w' => ∃ v ss, e = .returned (.tuple #[v, .bool (arB xs fs f t)]) ∧ OwnsRS w' w.heap.size v ss (arL xs fs f t) ∧ Below w.heap.size w w' := by
  have hS := ((Led.nil w).blk_ w.heap.size rfl 32 #[.slice A n c, .slice A' m d]).blk_ (w.heap.size + 1) (by simp) 3 #[.int .i64 f, .int .i64 t]
  have hs2 : Sees elInt ((w.alloc (.cells #[.slice A n c, .slice A' m d] 32)).alloc (.cells #[.int .i64 f, .int .i64 t] 3)) (w.heap.size + 1 + 1) (some ⟨w.heap.size + 1, 0, none⟩) 2 [f, t] := by
    refine ⟨rfl, .inr ⟨_, _, rfl, Nat.lt_succ_self _, fun k x hx j u hu => ?_⟩⟩
    have hj : j = 0 := by have := (List.getElem?_eq_some_iff.1 hu).1; simp [elInt] at this; omega
    subst hj
    have hu' : Value.int .i64 x = u := by simpa [elInt] using hu
    subst hu'
    rcases k with _ | _ | k
    · simp at hx; subst hx; exact hS.cell 0 0 rfl rfl
    · simp at hx; subst hx; exact hS.cell 0 1 rfl rfl
    · simp at hx
  have HB : Hid (mcB xs fs f t = ((goodB xs fs && nodesB n [f, t]) && !(f == t))) := by unfold Hid mcB; rw [nodesB_two, h.xlen, Bool.and_assoc (goodB xs fs)]
  cases g : (goodB xs fs && nodesB n [f, t])
  · have HF : Hid (mcB xs fs f t = false) := by unfold Hid; rw [HB.out, g]; rfl
    have H : Hid (arL xs fs f t = []) := by unfold Hid arL; rw [HF.out]; rfl
    have H2 : Hid (arB xs fs f t = false) := by unfold Hid arB; rw [HF.out]; rfl
    rw [H2.out]
    go_enter Try.func24, Try.ntmps24
    go_wp2_with fail
    refine (calls_bool (isNode_any _ (h.grow hS.bl) hs2 (by decide)) g).mono ?_
    rintro e w1 ⟨rfl, hb⟩
    go_wp2_with fail
    go_ret2
    exact ⟨_, [], rfl, by rw [H.out]; exact OwnsRS.nil _ _, bl_then hS.bl hb⟩
  · cases g2 : (f == t)
    · have HF : Hid (mcB xs fs f t = true) := by unfold Hid; rw [HB.out, g, g2]; rfl
      obtain ⟨hg, hf, ht, hne⟩ := mcB_parts HF.out
      rw [h.xlen] at hf ht
      obtain ⟨f', rfl⟩ : ∃ f' : Nat, f = (f' : Int) := ⟨f.toNat, by omega⟩
      obtain ⟨t', rfl⟩ : ∃ t' : Nat, t = (t' : Int) := ⟨t.toNat, by omega⟩
      have H : Hid (arL xs fs (f' : Int) (t' : Int) = (alL fs n f' t').map fun r => ((f' : Int), r)) := by unfold Hid arL; rw [HF.out, h.xlen]; rfl
      have HB2 : Hid (arB xs fs (f' : Int) (t' : Int) = alB fs n f' t') := by unfold Hid arB; rw [HF.out, h.xlen]; rfl
      rw [HB2.out]
      have HN := hid h
      have g3 : ((f' : Int) == (t' : Int)) = false := g2
      clear h
      go_enter Try.func24, Try.ntmps24
      go_wp2_with fail
      refine (calls_bool (isNode_any _ (HN.out.grow hS.bl) hs2 (by decide)) g).mono ?_
      rintro e w1 ⟨rfl, hb⟩
      replace hS := hS.step hb
      have q0 := hS.cell 1 0 rfl rfl
      have q1 := hS.cell 1 1 rfl rfl
      clear hb hs2
      go_wp2_with fail
      refine (routesBetween_any _ (HN.out.grow hS.bl) hg f' t' (by omega) (by omega)).mono ?_
      rintro e w2 ⟨v, ss, rows, rfl, hp, hpw, ho, hb2⟩
      have hrows := srtR_rows (D := rbL fs n f' t') hpw hp
      subst hrows
      obtain ⟨A2, c2, hv, _, _, _⟩ := ho.1.form
      have hlen : ss.length = (rbL fs n f' t').length := by rw [ho.2.1, List.length_map]; exact (srtR_ok _).2.length_eq
      have HO := hid (ho.base_ hS.bl.size)
      have HZ := hid (bl_then hS.bl hb2)
      rw [hlen] at hv
      subst hv
      clear ho hb2 q0 q1 hS hp hpw hlen
      by_cases h200 : (rbL fs n f' t').length ≤ 200
      · have HA : Hid (alB fs n f' t' = true ∧ alL fs n f' t' = srtR fs (f' : Int) (rbL fs n f' t')) := ⟨decide_eq_true h200, if_pos h200⟩
        generalize hD : (rbL fs n f' t').length = D at *
        have hD2 : ¬ (D : Int) > 200 := by omega
        go_wp2_with fail
        go_ret2
        exact ⟨_, ss, by rw [HA.out.1]; rfl, by rw [H.out, HA.out.2]; exact HO.out, HZ.out⟩
      · have HA : Hid (alB fs n f' t' = false ∧ alL fs n f' t' = []) := ⟨decide_eq_false h200, if_neg h200⟩
        generalize hD : (rbL fs n f' t').length = D at *
        have hD2 : (D : Int) > 200 := by omega
        go_wp2_with fail
        go_ret2
        exact ⟨_, [], by rw [HA.out.1]; rfl, by rw [H.out, HA.out.2]; exact OwnsRS.nil _ _, HZ.out⟩
    · have HF : Hid (mcB xs fs f t = false) := by unfold Hid; rw [HB.out, g2]; simp
      have H : Hid (arL xs fs f t = []) := by unfold Hid arL; rw [HF.out]; rfl
      have H2 : Hid (arB xs fs f t = false) := by unfold Hid arB; rw [HF.out]; rfl
      rw [H2.out]
      go_enter Try.func24, Try.ntmps24
      go_wp2_with fail
      refine (calls_bool (isNode_any _ (h.grow hS.bl) hs2 (by decide)) g).mono ?_
      rintro e w1 ⟨rfl, hb⟩
      go_wp2_with fail
      go_ret2
      exact ⟨_, [], rfl, by rw [H.out]; exact OwnsRS.nil _ _, bl_then hS.bl hb⟩
end
end Go.Proofs.Ythjnddkppodioaa
/- ShortestRoutes of both sides, walked. Conditions: none. By shr.py. -/
namespace Go.Proofs.Ythjnddkppodioaa
open Go.RowKit
theorem flat_take {α : Type} (E : El α) : ∀ (xs : List α) (k : Nat), (xs.take k).flatMap E.cells = (xs.flatMap E.cells).take (k * E.sz) := by
  intro xs
  induction xs with
  | nil => intro k; simp
  | cons x xs ih =>
    intro k
    cases k with
    | zero => simp
    | succ k =>
      rw [List.take_succ_cons, List.flatMap_cons, List.flatMap_cons, ih k, List.take_append, E.len, Nat.add_mul, Nat.one_mul, Nat.add_sub_cancel, List.take_of_length_le (l := E.cells x) (by rw [E.len]; omega)]
theorem Owns.takeN {α : Type} {E : El α} {w : World} {base n c k : Nat} {e : TypeId} {A : Option Addr} {xs : List α} (h : Owns E w base e (.slice A n c) xs) (hk : k ≤ n) : Owns E w base e (.slice A k c) (xs.take k) := by
  obtain ⟨A', c', hv, _, _, _⟩ := h.form
  injection hv with _ hn _
  have hl : (xs.take k).length = k := by rw [List.length_take]; omega
  unfold Owns
  rw [hl]
  refine ⟨by rw [flat_len, hl], ?_⟩
  rcases h.2 with ⟨hv, hz⟩ | ⟨g, cap, cur, hv, hb, hg, hnc, hcm, hcs, ht⟩
  · injection hv with e1 e2 e3
    exact .inl ⟨by rw [e1, e3, show k = 0 by omega], by omega⟩
  · injection hv with e1 e2 e3
    refine .inr ⟨g, cap, cur, by rw [e1, e3], hb, hg, by omega, hcm, hcs, ?_⟩
    rw [flat_take, ← ht, List.take_take]
    congr 1
    have : k * E.sz ≤ xs.length * E.sz := Nat.mul_le_mul_right _ (by omega)
    omega
theorem OwnsRS.takeN {w : World} {base n c k : Nat} {A : Option Addr} {ss : List (Int × Sl)} {rows : List (Int × List Int)} (h : OwnsRS w base (.slice A n c) ss rows) (hk : k ≤ n) : OwnsRS w base (.slice A k c) (ss.take k) (rows.take k) := by
  refine ⟨h.1.takeN hk, by rw [List.length_take, List.length_take, h.2.1], fun i s r h1 h2 => ?_, fun i j s t g hij h1 h2 => ?_⟩
  · rw [List.getElem?_take] at h1 h2
    split at h1
    · rename_i hi
      rw [if_pos hi] at h2
      exact h.2.2.1 i s r h1 h2
    · cases h1
  · rw [List.getElem?_take] at h1 h2
    split at h1
    · split at h2
      · exact h.2.2.2 i j s t g hij h1 h2
      · cases h2
    · cases h1
def srB (xs : List ByteArray) (fs : List Fib) (f t k : Int) : Bool := arB xs fs f t && inB 1 200 k
def srL (xs : List ByteArray) (fs : List Fib) (f t k : Int) : List (Int × List Int) := if srB xs fs f t k then (arL xs fs f t).take k.toNat else []
theorem srL_parts {xs : List ByteArray} {fs : List Fib} {f t k : Int} : (srL xs fs f t k).length ≤ 200 ∧ ∀ r ∈ srL xs fs f t k, r.2.length ≤ 8 := by
  have h := arL_parts (xs := xs) (fs := fs) (f := f) (t := t)
  unfold srL
  split
  · exact ⟨Nat.le_trans (by rw [List.length_take]; omega) h.1, fun r hr => h.2 r (List.mem_of_mem_take hr)⟩
  · exact ⟨by simp, fun r hr => by cases hr⟩
theorem inB_200 {k : Int} (h : inB 1 200 k = true) : 1 ≤ k ∧ k ≤ 200 := by unfold inB at h; simp at h; exact h
section
variable {n c m d : Nat} {A A' : Option Addr} {xs : List ByteArray} {fs : List Fib}
set_option maxHeartbeats 4000000 in
set_option maxRecDepth 100000 in
theorem implShortestRoutes (f t k : Int) (w : World) (h : NetIs w A n c A' m d xs fs) :
    Calls Try.prog 34 #[.agg #[.slice A n c, .slice A' m d], .int .i64 f, .int .i64 t, .int .i64 k] w fun e w' => ∃ v ss, e = .returned (.tuple #[v, .bool (srB xs fs f t k)]) ∧ OwnsRS w' w.heap.size v ss (srL xs fs f t k) ∧ Below w.heap.size w w' := by
  have hS := (Led.nil w).blk_ w.heap.size rfl 32 #[.slice A n c, .slice A' m d]
  cases g : arB xs fs f t
  · have H : Hid (srB xs fs f t k = false ∧ srL xs fs f t k = []) := by
      have : srB xs fs f t k = false := by unfold srB; rw [g]; rfl
      exact ⟨this, by unfold srL; rw [this]; rfl⟩
    go_enter Try.func34, Try.ntmps34
    go_wp2_with fail
    refine (implAllRoutes f t _ (h.grow hS.bl)).mono ?_
    rintro e w1 ⟨v, ss, rfl, ho, hb⟩
    rw [g]
    have HZ := hid (bl_then hS.bl hb)
    clear ho hb hS
    go_wp2_with fail
    go_ret2
    exact ⟨_, [], by rw [H.out.1]; rfl, by rw [H.out.2]; exact OwnsRS.nil _ _, HZ.out⟩
  · cases g2 : inB 1 200 k
    · have H : Hid (srB xs fs f t k = false ∧ srL xs fs f t k = []) := by
        have : srB xs fs f t k = false := by unfold srB; rw [g, g2]; rfl
        exact ⟨this, by unfold srL; rw [this]; rfl⟩
      go_enter Try.func34, Try.ntmps34
      go_wp2_with fail
      refine (implAllRoutes f t _ (h.grow hS.bl)).mono ?_
      rintro e w1 ⟨v, ss, rfl, ho, hb⟩
      rw [g]
      have HZ := hid (bl_then hS.bl hb)
      clear ho hb hS
      go_wp2_with fail
      refine (within_any _ _ _ _).mono ?_
      rintro e w3 ⟨rfl, rfl⟩
      rw [g2]
      go_wp2_with fail
      go_ret2
      exact ⟨_, [], by rw [H.out.1]; rfl, by rw [H.out.2]; exact OwnsRS.nil _ _, HZ.out⟩
    · obtain ⟨k', rfl⟩ : ∃ k' : Nat, k = (k' : Int) := ⟨k.toNat, by have := inB_200 g2; omega⟩
      have H : Hid (srB xs fs f t (k' : Int) = true ∧ srL xs fs f t (k' : Int) = (arL xs fs f t).take k') := by
        have : srB xs fs f t (k' : Int) = true := by unfold srB; rw [g, g2]; rfl
        exact ⟨this, by unfold srL; rw [this]; rfl⟩
      have hk := inB_200 g2
      go_enter Try.func34, Try.ntmps34
      go_wp2_with fail
      refine (implAllRoutes f t _ (h.grow hS.bl)).mono ?_
      rintro e w1 ⟨v, ss, rfl, ho, hb⟩
      rw [g]
      obtain ⟨A2, c2, hv, hc2, _, _⟩ := ho.1.form
      have HO := hid (ho.base_ hS.bl.size)
      have HZ := hid (bl_then hS.bl hb)
      have HL : Hid (ss.length = (arL xs fs f t).length) := ho.2.1
      subst hv
      clear ho hb hS
      go_wp2_with fail
      refine (within_any _ _ _ _).mono ?_
      rintro e w3 ⟨rfl, rfl⟩
      rw [g2]
      obtain ⟨N, hN⟩ : ∃ N, ss.length = N := ⟨_, rfl⟩
      rw [hN] at hc2 HO HL
      rw [hN]
      by_cases hkn : k' ≤ N
      · have hm : min (k' : Int) (N : Int) = (k' : Int) := by omega
        have b1 : (0 : Int) ≤ (k' : Int) := by omega
        have b2 : (k' : Int) ≤ (c2 : Int) := by omega
        have b3 : (k' : Int) ≤ (N : Int) := by omega
        clear hN
        go_wp2_with fail
        go_ret2
        exact ⟨_, _, by rw [H.out.1]; rfl, by rw [H.out.2]; exact HO.out.takeN hkn, HZ.out⟩
      · have hm : min (k' : Int) (N : Int) = (N : Int) := by omega
        have b1 : (0 : Int) ≤ (N : Int) := by omega
        have b2 : (N : Int) ≤ (c2 : Int) := by omega
        clear hN
        go_wp2_with fail
        go_ret2
        refine ⟨_, ss, by rw [H.out.1]; rfl, ?_, HZ.out⟩
        rw [H.out.2, List.take_of_length_le (by rw [← HL.out]; omega)]
        exact HO.out
set_option maxHeartbeats 4000000 in
set_option maxRecDepth 100000 in
theorem specShortestRoutes (f t k : Int) (w : World) (h : NetIs w A n c A' m d xs fs) :
    Calls Try.prog 33 #[.agg #[.slice A n c, .slice A' m d], .int .i64 f, .int .i64 t, .int .i64 k] w fun e w' => ∃ v ss, e = .returned (.tuple #[v, .bool (srB xs fs f t k)]) ∧ OwnsRS w' w.heap.size v ss (srL xs fs f t k) ∧ Below w.heap.size w w' := by
  have hS := (Led.nil w).blk_ w.heap.size rfl 32 #[.slice A n c, .slice A' m d]
  cases g : mcB xs fs f t
  · have H : Hid (srB xs fs f t k = false ∧ srL xs fs f t k = []) := by
      have : srB xs fs f t k = false := by unfold srB arB; rw [g]; rfl
      exact ⟨this, by unfold srL; rw [this]; rfl⟩
    go_enter Try.func33, Try.ntmps33
    go_wp2_with fail
    refine (l4Pair_any f t _ (h.grow hS.bl)).mono ?_
    rintro e w1 ⟨rfl, hb⟩
    rw [g]
    have HS1 := hid ((hS.step hb).emptyRS w1.heap.size rfl w.heap.size (hS.step hb).bl.size)
    clear hS hb
    go_wp2_with fail
    go_ret2
    exact ⟨_, [], by rw [H.out.1]; rfl, by rw [H.out.2]; exact HS1.out.get 0 rfl, HS1.out.bl⟩
  · cases g2 : inB 1 200 k
    · have H : Hid (srB xs fs f t k = false ∧ srL xs fs f t k = []) := by
        have : srB xs fs f t k = false := by unfold srB; rw [g2, Bool.and_false]
        exact ⟨this, by unfold srL; rw [this]; rfl⟩
      go_enter Try.func33, Try.ntmps33
      go_wp2_with fail
      refine (l4Pair_any f t _ (h.grow hS.bl)).mono ?_
      rintro e w1 ⟨rfl, hb⟩
      rw [g]
      have HS1 := hid ((hS.step hb).emptyRS w1.heap.size rfl w.heap.size (hS.step hb).bl.size)
      clear hS hb
      go_wp2_with fail
      refine (l1In_any _ _ _ _).mono ?_
      rintro e w3 ⟨rfl, rfl⟩
      rw [g2]
      go_wp2_with fail
      go_ret2
      exact ⟨_, [], by rw [H.out.1]; rfl, by rw [H.out.2]; exact HS1.out.get 0 rfl, HS1.out.bl⟩
    · obtain ⟨k', rfl⟩ : ∃ k' : Nat, k = (k' : Int) := ⟨k.toNat, by have := inB_200 g2; omega⟩
      obtain ⟨hg, hf, ht, hne⟩ := mcB_parts g
      rw [h.xlen] at hf ht
      obtain ⟨f', rfl⟩ : ∃ f' : Nat, f = (f' : Int) := ⟨f.toNat, by omega⟩
      obtain ⟨t', rfl⟩ : ∃ t' : Nat, t = (t' : Int) := ⟨t.toNat, by omega⟩
      have HA : Hid (arL xs fs (f' : Int) (t' : Int) = (alL fs n f' t').map fun r => ((f' : Int), r)) := by unfold Hid arL; rw [g, h.xlen]; rfl
      have HB : Hid (arB xs fs (f' : Int) (t' : Int) = alB fs n f' t') := by unfold Hid arB; rw [g, h.xlen]; rfl
      have hk := inB_200 g2
      have HN := hid h
      have HG := hid g
      clear h g
      cases g3 : alB fs n f' t'
      · have H : Hid (srB xs fs (f' : Int) (t' : Int) (k' : Int) = false ∧ srL xs fs (f' : Int) (t' : Int) (k' : Int) = []) := by
          have : srB xs fs (f' : Int) (t' : Int) (k' : Int) = false := by unfold srB; rw [HB.out, g3]; rfl
          exact ⟨this, by unfold srL; rw [this]; rfl⟩
        go_enter Try.func33, Try.ntmps33
        go_wp2_with fail
        refine (l4Pair_any _ _ _ (HN.out.grow hS.bl)).mono ?_
        rintro e w1 ⟨rfl, hb⟩
        rw [HG.out]
        replace hS := hS.step hb
        have q0 := hS.cell 0 0 rfl rfl
        have q1 := hS.cell 0 1 rfl rfl
        clear hb
        go_wp2_with fail
        refine (l1In_any _ _ _ _).mono ?_
        rintro e w3 ⟨rfl, rfl⟩
        rw [g2]
        go_wp2_with fail
        refine (l4All_any _ (HN.out.grow hS.bl) hg f' t' (by omega) (by omega)).mono ?_
        rintro e w2 ⟨v, ss, rfl, ho, hb2⟩
        rw [g3]
        have HS1 := hid ((hS.step hb2).emptyRS w2.heap.size rfl w.heap.size (hS.step hb2).bl.size)
        clear ho hb2 q0 q1 hS
        go_wp2_with fail
        go_ret2
        exact ⟨_, [], by rw [H.out.1]; rfl, by rw [H.out.2]; exact HS1.out.get 0 rfl, HS1.out.bl⟩
      · have H : Hid (srB xs fs (f' : Int) (t' : Int) (k' : Int) = true ∧ srL xs fs (f' : Int) (t' : Int) (k' : Int) = ((alL fs n f' t').map fun r => ((f' : Int), r)).take k') := by
          have : srB xs fs (f' : Int) (t' : Int) (k' : Int) = true := by unfold srB; rw [HB.out, g3, g2]; rfl
          exact ⟨this, by unfold srL; rw [this, HA.out]; rfl⟩
        go_enter Try.func33, Try.ntmps33
        go_wp2_with fail
        refine (l4Pair_any _ _ _ (HN.out.grow hS.bl)).mono ?_
        rintro e w1 ⟨rfl, hb⟩
        rw [HG.out]
        replace hS := hS.step hb
        have q0 := hS.cell 0 0 rfl rfl
        have q1 := hS.cell 0 1 rfl rfl
        clear hb
        go_wp2_with fail
        refine (l1In_any _ _ _ _).mono ?_
        rintro e w3 ⟨rfl, rfl⟩
        rw [g2]
        go_wp2_with fail
        refine (l4All_any _ (HN.out.grow hS.bl) hg f' t' (by omega) (by omega)).mono ?_
        rintro e w2 ⟨v, ss, rfl, ho, hb2⟩
        rw [g3]
        obtain ⟨A2, c2, hv, hc2, _, _⟩ := ho.1.form
        have HO := hid (ho.base_ hS.bl.size)
        have HZ := hid (bl_then hS.bl hb2)
        have HL : Hid (ss.length = ((alL fs n f' t').map fun r => ((f' : Int), r)).length) := ho.2.1
        subst hv
        clear ho hb2 q0 q1 hS
        obtain ⟨N, hN⟩ : ∃ N, ss.length = N := ⟨_, rfl⟩
        rw [hN] at hc2 HO HL
        rw [hN]
        clear hN
        go_wp2_with fail
        refine (least_any _ _ _).mono ?_
        rintro e w4 ⟨rfl, rfl⟩
        by_cases hkn : k' ≤ N
        · have hm : min (k' : Int) (N : Int) = (k' : Int) := by omega
          have b1 : (0 : Int) ≤ (k' : Int) := by omega
          have b2 : (k' : Int) ≤ (c2 : Int) := by omega
          have b3 : (k' : Int) ≤ (N : Int) := by omega
          rw [hm]
          go_wp2_with fail
          go_ret2
          exact ⟨_, _, by rw [H.out.1]; rfl, by rw [H.out.2]; exact HO.out.takeN hkn, HZ.out⟩
        · have hm : min (k' : Int) (N : Int) = (N : Int) := by omega
          have b1 : (0 : Int) ≤ (N : Int) := by omega
          have b2 : (N : Int) ≤ (c2 : Int) := by omega
          rw [hm]
          go_wp2_with fail
          go_ret2
          refine ⟨_, ss, by rw [H.out.1]; rfl, ?_, HZ.out⟩
          rw [H.out.2, List.take_of_length_le (by rw [← HL.out]; omega)]
          exact HO.out
end
end Go.Proofs.Ythjnddkppodioaa
/- FnExactShortestRoutes, walked. Conditions: none. -/
namespace Go.Proofs.Ythjnddkppodioaa.fnExactShortestRoutes
open Go.RowKit
set_option maxHeartbeats 2000000 in
set_option maxRecDepth 100000 in
theorem walk (w : World) {A0 E0 : Option Addr} {n0 c0 m0 d0 : Nat} {xs0 : List ByteArray} {fs0 : List Fib} (h0 : NetArg w A0 n0 c0 E0 m0 d0 xs0 fs0) {a1 : Int} (_u1 : -9223372036854775808 ≤ a1 ∧ a1 ≤ 9223372036854775807) {a2 : Int} (_u2 : -9223372036854775808 ≤ a2 ∧ a2 ≤ 9223372036854775807) {a3 : Int} (_u3 : -9223372036854775808 ≤ a3 ∧ a3 ≤ 9223372036854775807) :
    Calls Try.prog 6 #[.agg #[.slice A0 n0 c0, .slice E0 m0 d0], .int .i64 a1, .int .i64 a2, .int .i64 a3] w fun e w' => e = .returned (.bool true) ∧ Below w.heap.size w w' := by
  obtain ⟨⟨h0nc, h0cm, h0A, h0x⟩, ⟨h0md, h0dm, h0F, _⟩⟩ := h0
  have hS := Led.nil w
  replace hS := hS.blk_ (w.heap.size) (by simp) 25 #[.slice A0 n0 c0, .slice E0 m0 d0]
  obtain ⟨r0, hr0⟩ : ∃ r, r = lessI 1048576 (netTot xs0 fs0) := ⟨_, rfl⟩
  have hlb0 := lessI_bd (left := 1048576) (t := (netTot xs0 fs0))
  rw [← hr0] at hlb0
  have HR0 := hid hr0
  clear hr0
  rcases hlb0 with ⟨hz0, _⟩ | ⟨hz0, hy0, hx0⟩
  case inl =>
    subst hz0
    go_enter Try.func6, Try.ntmps6
    go_wp2_with fail
    refine (szNetwork_any 1048576 _ (h0A.below hS.bl) (h0F.below hS.bl) hS.bl.size (by omega) (by omega) h0x (by omega) (by omega)).mono ?_
    rintro e W1 ⟨rfl, hb⟩; replace hS := hS.step hb; clear hb
    rw [← HR0.out]
    go_wp2_with fail
    go_ret
    exact ⟨rfl, hS.bl⟩
  have h0n : n0 ≤ 1048576 := by have := h0A.len; unfold netTot strTot at hx0; omega
  have h0m : m0 ≤ 1048576 := by have := h0F.len; unfold netTot strTot at hx0; omega
  have h0I := hid (show NetIs w A0 n0 c0 E0 m0 d0 xs0 fs0 from ⟨⟨h0nc, h0n⟩, ⟨h0md, h0m⟩, h0A, h0F, h0x⟩)
  clear hx0
  go_enter Try.func6, Try.ntmps6
  go_wp2_with fail
  refine (szNetwork_any 1048576 _ (h0A.below hS.bl) (h0F.below hS.bl) hS.bl.size (by omega) (by omega) h0x (by omega) (by omega)).mono ?_
  rintro e W1 ⟨rfl, hb⟩; replace hS := hS.step hb; clear hb
  rw [← HR0.out]
  -- the reference
  have q0 := hS.cell 0 0 rfl rfl
  have q1 := hS.cell 0 1 rfl rfl
  go_wp2_with fail
  refine (toNetwork_own _ (h0I.out.grow hS.bl).strs (h0I.out.grow hS.bl).fibs (Nat.le_refl _) h0n h0m).mono ?_
  rintro e W2 ⟨Aw0, cw0, Ew0, dw0, rfl, ho, hb⟩
  replace hS := hS.net hb ho
  clear hb ho
  clear q0 q1
  go_wp2_with fail
  refine (specShortestRoutes a1 a2 a3 _ (hS.netIs 0 rfl h0n h0m h0x)).mono ?_
  rintro e W3 ⟨vw0, ssw0, rfl, ho0, hb⟩
  have hlen0 := hid ((Nat.le_trans srL_parts.1 (by decide) : (srL xs0 fs0 a1 a2 a3).length ≤ 1048576))
  have hrow0 := hid ((fun r hr => Nat.le_trans (srL_parts.2 r hr) (by decide) : ∀ r ∈ srL xs0 fs0 a1 a2 a3, r.2.length ≤ 1048576))
  have hoff0 := hid ((off_small srL_parts : offR 1 (srL xs0 fs0 a1 a2 a3) (srL xs0 fs0 a1 a2 a3).length ≤ 1099511627776))
  generalize hL0 : srL xs0 fs0 a1 a2 a3 = L0 at *
  obtain ⟨Aw0, cw0, hv, _, _, _⟩ := ho0.1.form
  rw [ho0.2.1] at hv
  subst hv
  replace hS := hS.rs hb ho0
  clear hb ho0
  -- the program on copies that are kept
  have q0 := hS.cell 2 0 rfl rfl
  have q1 := hS.cell 2 1 rfl rfl
  go_wp2_with fail
  refine (toNetwork_own _ (h0I.out.grow hS.bl).strs (h0I.out.grow hS.bl).fibs (Nat.le_refl _) h0n h0m).mono ?_
  rintro e W4 ⟨Ax0, cx0, Ex0, dx0, rfl, ho, hb⟩
  replace hS := hS.net hb ho
  clear hb ho
  clear q0 q1
  replace hS := hS.blk_ (W4.heap.size) (by simp) 32 #[.slice Ax0 n0 cx0, .slice Ex0 m0 dx0]
  go_wp2_with fail
  refine (implShortestRoutes a1 a2 a3 _ (hS.netIs 1 rfl h0n h0m h0x)).mono ?_
  rintro e W5 ⟨vg0, ssg0, rfl, ho0, hb⟩
  rw [hL0] at ho0
  obtain ⟨Ag0, cg0, hv, _, _, _⟩ := ho0.1.form
  rw [ho0.2.1] at hv
  subst hv
  replace hS := hS.rs hb ho0
  clear hb ho0
  -- the results are equal
  go_wp2_with fail
  refine (eqRS_led hS 0 3 rfl rfl hlen0.out hrow0.out).mono ?_
  rintro e W6 ⟨rfl, hS1⟩; replace hS := hS1; clear hS1
  -- the arguments are as they were
  have C0 : ∀ w', Cls W6 w' → w'.cell? ⟨w.heap.size, 0, none⟩ = some (.slice A0 n0 c0) := fun _ h => h.cell (hS.cell 5 0 rfl rfl)
  have C1 : ∀ w', Cls W6 w' → w'.cell? ⟨w.heap.size, 1, none⟩ = some (.slice E0 m0 d0) := fun _ h => h.cell (hS.cell 5 1 rfl rfl)
  have C2 : ∀ w', Cls W6 w' → w'.cell? ⟨W4.heap.size, 0, none⟩ = some (.slice Ax0 n0 cx0) := fun _ h => h.cell (hS.cell 1 0 rfl rfl)
  have C3 : ∀ w', Cls W6 w' → w'.cell? ⟨W4.heap.size, 1, none⟩ = some (.slice Ex0 m0 dx0) := fun _ h => h.cell (hS.cell 1 1 rfl rfl)
  have HL := hid (fun w' (h : Cls W6 w') => hS.step h)
  go_wp2_with fail
  go_region_held3 (fun w' => Cls W6 w') (first | exact Cls.drew _ | exact Cls.next (by assumption) (by assumption))
    (first
      | (go_at_call 16; refine (toNetwork_own _ (h0I.out.grow (HL.out _ (by assumption)).bl).strs (h0I.out.grow (HL.out _ (by assumption)).bl).fibs (Nat.le_refl _) h0n h0m).mono ?_; rintro e w' ⟨Ay0, cy0, Ey0, dy0, rfl, ho1, hb1⟩; have hL1 := (HL.out _ (by assumption)).net hb1 ho1)
      | (go_at_call 19; refine (eqN_led2 hL1 3 0 rfl rfl h0n h0m).mono ?_; rintro e w' ⟨rfl, hS2, hb2⟩))
  clear HL hL1 ho1 hb1 hb2 C0 C1 C2 C3
  replace hS := hS2.drop 1
  clear hS2
  dsimp only [List.drop] at hS
  generalize w' = W7 at *
  -- marks
  have q0 := hS.cell 1 0 rfl rfl
  have q1 := hS.cell 1 1 rfl rfl
  go_wp2_with fail
  refine (markN_led hS 2 rfl _ h0n h0m (by omega) (by omega)).mono ?_
  rintro e W8 ⟨rfl, hS1⟩; replace hS := hS1; clear hS1; dsimp only [List.set] at hS
  clear q0 q1
  go_wp2_with fail
  refine (eqRS_led hS 0 3 rfl rfl hlen0.out hrow0.out).mono ?_
  rintro e W9 ⟨rfl, hS1⟩; replace hS := hS1; clear hS1
  go_wp2_with fail
  refine (markRS_led hS 0 rfl _ (rs_n hS 0 rfl) hlen0.out hrow0.out (by omega) hoff0.out).mono ?_
  rintro e W10 ⟨rfl, _, _, hS1⟩; replace hS := hS1; clear hS1; dsimp only [List.set] at hS
  go_wp2_with fail
  refine (heldRS_led hS 0 _ rfl (rs_n hS 0 rfl) rfl hlen0.out hrow0.out (by omega) hoff0.out).mono ?_
  rintro e W11 ⟨rfl, hS1⟩; replace hS := hS1; clear hS1
  -- once more
  have q0 := hS.cell 5 0 rfl rfl
  have q1 := hS.cell 5 1 rfl rfl
  go_wp2_with fail
  refine (toNetwork_own _ (h0I.out.grow hS.bl).strs (h0I.out.grow hS.bl).fibs (Nat.le_refl _) h0n h0m).mono ?_
  rintro e W12 ⟨Ah0, ch0, Eh0, dh0, rfl, ho, hb⟩
  replace hS := hS.net hb ho
  clear hb ho
  clear q0 q1
  go_wp2_with fail
  refine (implShortestRoutes a1 a2 a3 _ (hS.netIs 0 rfl h0n h0m h0x)).mono ?_
  rintro e W13 ⟨vh0, ssh0, rfl, ho0, hb⟩
  rw [hL0] at ho0
  obtain ⟨Ah0, ch0, hv, _, _, _⟩ := ho0.1.form
  rw [ho0.2.1] at hv
  subst hv
  replace hS := hS.rs hb ho0
  clear hb ho0
  go_wp2_with fail
  refine (eqRS_led hS 0 5 rfl rfl hlen0.out hrow0.out).mono ?_
  rintro e W14 ⟨rfl, hS1⟩; replace hS := hS1; clear hS1
  go_wp2_with fail
  refine (heldRS_led hS 2 _ rfl (rs_n hS 2 rfl) rfl hlen0.out hrow0.out (by omega) hoff0.out).mono ?_
  rintro e W15 ⟨rfl, hS1⟩; replace hS := hS1; clear hS1
  go_wp2_with fail
  go_ret
  exact ⟨rfl, hS.bl⟩
end Go.Proofs.Ythjnddkppodioaa.fnExactShortestRoutes
