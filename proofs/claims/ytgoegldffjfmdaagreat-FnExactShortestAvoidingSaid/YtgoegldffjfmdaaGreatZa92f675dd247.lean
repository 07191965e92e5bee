/- Lemmas and walks that the claim rests on, laid together. Conditions: none. -/
import Derived.Test.YtgoegldffjfmdaaGreatZe3e35d62457e
import Derived.Test.YtgoegldffjfmdaaGreatZa2993fb7b3f0
import Derived.Test.YtgoegldffjfmdaaGreatZ11e46bb6b321
import Derived.Laws.EntriesVeiled
import Derived.Test.YtgoegldffjfmdaaGreatZ096b426fdc7b
import Derived.Lib.SlicesCompact
import Derived.Lib.RowBridge
import Derived.Test.YtgoegldffjfmdaaGreatZ72a8aeab9d7c
import Derived.Deep.RegionLaw
/- routesBetween, walked: all routes, sorted. Conditions: none. -/
namespace Go.Proofs.YtgoegldffjfmdaaGreat
open Go.RowKit
/-- All routes from s to another node. -/
def rbL (fs : List Fib) (n s to : Nat) : List (List Int) := if s = to then [] else rtsL fs to n s [s] []
theorem Led.emptyRS {w0 w : World} {L : List Thing} (h : Led w0 w L) (g : Nat) (hg : g = w.heap.size) (b0 : Nat) (h0 : b0 ≤ g) : Led w0 (w.alloc (.cells #[] 29)) (tRS b0 (.slice (some ⟨g, 0, none⟩) 0 0) [] [] :: L) := by
  subst hg
  have ho : Owns elRt (w.alloc (.cells #[] 29)) w.heap.size 29 (.slice (some ⟨w.heap.size, 0, none⟩) 0 0) [] := Owns.of_blk (n := 0) (cap := 0) (cur := #[]) (Blk.new w 29 #[]) (Nat.le_refl _) rfl (Nat.le_refl _) (by simp) (by decide) (Filled.zero _ _ _)
  have hO : OwnsRS (w.alloc (.cells #[] 29)) w.heap.size (.slice (some ⟨w.heap.size, 0, none⟩) 0 0) [] [] := ⟨ho, rfl, fun i s r h1 => by simp at h1, fun i j s t g _ h1 => by simp at h1⟩
  exact h.put (bl_alloc (Below.refl _ _) _) (tRS b0 _ [] []) (fun _ e => (hO.lies e).1) (hO.base_ h0)
section
variable {n c m d : Nat} {A A' : Option Addr} {xs : List ByteArray} {fs : List Fib}
theorem rbL_ok {s to : Nat} : ∀ r ∈ rbL fs n s to, r.length ≤ n ∧ ∀ x ∈ r, 0 ≤ x ∧ x < fs.length := by
  intro r hr
  unfold rbL at hr
  split at hr
  · cases hr
  · obtain ⟨e, he, h1, h2⟩ := rtsL_mem _ _ _ _ r hr
    rw [List.nil_append] at he
    subst he
    exact ⟨by omega, h2⟩
theorem rbL_len {s to : Nat} (hn : n ≤ 8) (hm : fs.length ≤ 14) : (rbL fs n s to).length ≤ 2562890625 := by
  unfold rbL
  split
  · exact Nat.zero_le _
  · refine Nat.le_trans (rtsL_len _ _ _ _) ?_
    have h1 : (fs.length + 1) ^ n ≤ 15 ^ n := Nat.pow_le_pow_left (by omega) _
    have h2 : 15 ^ n ≤ 15 ^ 8 := Nat.pow_le_pow_right (by decide) hn
    exact Nat.le_trans h1 (Nat.le_trans h2 (by decide))
set_option maxHeartbeats 4000000 in
set_option maxRecDepth 100000 in
theorem routesBetween_any (w : World) (h : NetIs w A n c A' m d xs fs) (g : goodB xs fs = true) (s to : Nat) (hs : s < n) (_ht : to < n) :
    Calls Tryz.prog 48 #[.agg #[.slice A n c, .slice A' m d], .int .i64 (s : Int), .int .i64 (to : Int)] w fun e w' => ∃ v ss rows, e = .returned v ∧ rows.Perm ((rbL fs n s to).map fun r => ((s : Int), r)) ∧ rows.Pairwise (fun a b => leR fs (s : Int) a.2 b.2) ∧ OwnsRS w' w.heap.size v ss rows ∧ Below w.heap.size w w' := by
  obtain ⟨he, hn0, hn8, hm14⟩ := good_parts h g
  obtain ⟨w0, hw0⟩ : ∃ w0, w0 = ((w.alloc (.cells #[.slice A n c, .slice A' m d] 34)).alloc (.cells #[.int .i64 (s : Int)] 3)).alloc (.cells #[.int .i64 (to : Int)] 3) := ⟨_, rfl⟩
  have hb0 : Below w.heap.size w w0 := by rw [hw0]; exact bl_alloc (bl_alloc (bl_alloc (Below.refl _ _) _) _) _
  have hsz : w0.heap.size = w.heap.size + 1 + 1 + 1 := by rw [hw0]; simp
  have kN : Blk w0 w.heap.size 34 #[.slice A n c, .slice A' m d] := by rw [hw0]; exact ((Blk.new w _ _).alloc _).alloc _
  have kF : Blk w0 (w.heap.size + 1) 3 #[.int .i64 (s : Int)] := by
    rw [hw0]
    have h1 : Blk ((w.alloc (.cells #[.slice A n c, .slice A' m d] 34)).alloc (.cells #[.int .i64 (s : Int)] 3)) (w.alloc (.cells #[.slice A n c, .slice A' m d] 34)).heap.size 3 #[.int .i64 (s : Int)] := Blk.new _ _ _
    have h2 := h1.alloc (.cells #[.int .i64 (to : Int)] 3)
    simpa using h2
  have kT : Blk w0 (w.heap.size + 1 + 1) 3 #[.int .i64 (to : Int)] := by
    rw [hw0]
    have h1 : Blk (((w.alloc (.cells #[.slice A n c, .slice A' m d] 34)).alloc (.cells #[.int .i64 (s : Int)] 3)).alloc (.cells #[.int .i64 (to : Int)] 3)) ((w.alloc (.cells #[.slice A n c, .slice A' m d] 34)).alloc (.cells #[.int .i64 (s : Int)] 3)).heap.size 3 #[.int .i64 (to : Int)] := Blk.new _ _ _
    simpa using h1
  have hn : NetIs w0 A n c A' m d xs fs := h.grow hb0
  have hL0 := (((Led.nil w0).emptyRS w0.heap.size rfl w0.heap.size (Nat.le_refl _)).blk_ (w0.heap.size + 1) (by simp) 76 #[.slice (some ⟨w0.heap.size, 0, none⟩) 0 0]).blk_ (w0.heap.size + 1 + 1) (by simp) 106 #[.func (.func 75) #[] (capE (w.heap.size + 1 + 1) (w0.heap.size + 1) (w.heap.size + 1) w.heap.size (w0.heap.size + 1 + 1))]
  have hL1 : Led w0 _ (exT w0.heap.size (.slice (some ⟨w0.heap.size, 0, none⟩) 0 0) [] [] (w.heap.size + 1 + 1) (w0.heap.size + 1) (w.heap.size + 1) w.heap.size (w0.heap.size + 1 + 1) w0.heap.size none 0 [] []) := (hL0.nilS elInt 3 w0.heap.size).pick [3, 2, 1, 0] (by decide) rfl
  clear hL0
  rw [hsz] at hL1
  have HL1 : Hid (Led w0 ((((((w.alloc (.cells #[.slice A n c, .slice A' m d] 34)).alloc (.cells #[.int .i64 (s : Int)] 3)).alloc (.cells #[.int .i64 (to : Int)] 3)).alloc (.cells #[] 29)).alloc (.cells #[.slice (some ⟨w.heap.size + 1 + 1 + 1, 0, none⟩) 0 0] 76)).alloc (.cells #[.func (.func 75) #[] #[.pointer (some ⟨w.heap.size + 1 + 1, 0, none⟩), .pointer (some ⟨w.heap.size + 1 + 1 + 1 + 1, 0, none⟩), .pointer (some ⟨w.heap.size + 1, 0, none⟩), .pointer (some ⟨w.heap.size, 0, none⟩), .pointer (some ⟨w.heap.size + 1 + 1 + 1 + 1 + 1, 0, none⟩)]] 106)) (exT w0.heap.size (.slice (some ⟨w.heap.size + 1 + 1 + 1, 0, none⟩) 0 0) [] [] (w.heap.size + 1 + 1) (w.heap.size + 1 + 1 + 1 + 1) (w.heap.size + 1) w.heap.size (w.heap.size + 1 + 1 + 1 + 1 + 1) w0.heap.size none 0 [] [])) := by
    have h1 := hL1
    rw [← hw0, hsz]
    exact h1
  have HN := hid hn
  have HKN := hid kN
  have HKF := hid kF
  have HKT := hid kT
  have HSZ := hid hsz
  have HB0 := hid hb0
  clear hL1 hn kN kF kT hsz hb0 hw0 h he
  by_cases hst : s = to
  · have hst1 : ((s : Int) != (to : Int)) = false := by rw [hst]; simp
    have HR : Hid (rbL fs n s to = []) := by unfold Hid rbL; rw [if_pos hst]
    clear hst
    go_enter Tryz.func48, Tryz.ntmps48
    have hl1 := HL1.out
    have hsort := sortRoutes_led (s := (s : Int)) (xs := xs) (fs := fs) hl1 0 rfl (HKN.out.below hl1.bl HKN.out.lt) (fun g' hg' e => by
      have h1 := (hl1.all 0 _ rfl).2 g' (.inl hg')
      have h2 := HSZ.out
      omega) HN.out (goodB_lens g) (fun r hr => by cases hr) (by decide)
    have q0 := hl1.cell 1 0 rfl rfl
    have HSORT := hid hsort
    clear hl1 hsort
    unfold capE at HSORT q0
    go_wp2_with fail
    refine Calls.mono HSORT.out ?_
    rintro e5 w5 ⟨rfl, ss5, rows5, hp5, hs5, hl5⟩
    have H5 := hid hl5
    have q1 := hl5.cell 1 0 rfl rfl
    have HP5 := hid hp5
    have HS5 := hid hs5
    clear hl5 HSORT q0 hp5 hs5
    go_wp2_with fail
    go_ret
    refine ⟨_, ss5, rows5, rfl, ?_, HS5.out, ?_, HB0.out.trans (H5.out.bl.mono HB0.out.size)⟩
    · rw [HR.out]; exact HP5.out
    · exact (show OwnsRS w5 w0.heap.size _ ss5 rows5 from H5.out.get 0 rfl).base_ HB0.out.size
  · have hst1 : ((s : Int) != (to : Int)) = true := by rw [bne_iff_ne]; omega
    have HR : Hid (rbL fs n s to = rtsL fs to n s [s] []) := by unfold Hid rbL; rw [if_neg hst]
    go_enter Tryz.func48, Tryz.ntmps48
    go_wp2_with fail
    generalize ((((((w.alloc (.cells #[.slice A n c, .slice A' m d] 34)).alloc (.cells #[.int .i64 (s : Int)] 3)).alloc (.cells #[.int .i64 (to : Int)] 3)).alloc (.cells #[] 29)).alloc (.cells #[.slice (some ⟨w.heap.size + 1 + 1 + 1, 0, none⟩) 0 0] 76)).alloc (.cells #[.func (.func 75) #[] #[.pointer (some ⟨w.heap.size + 1 + 1, 0, none⟩), .pointer (some ⟨w.heap.size + 1 + 1 + 1 + 1, 0, none⟩), .pointer (some ⟨w.heap.size + 1, 0, none⟩), .pointer (some ⟨w.heap.size, 0, none⟩), .pointer (some ⟨w.heap.size + 1 + 1 + 1 + 1 + 1, 0, none⟩)]] 106)) = W1 at HL1 ⊢
    have E0 : ∀ w', exS w0 (w.heap.size + 1 + 1) (w.heap.size + 1 + 1 + 1 + 1) (w.heap.size + 1) w.heap.size (w.heap.size + 1 + 1 + 1 + 1 + 1) w' → w'.cell? ⟨w.heap.size + 1 + 1 + 1 + 1 + 1, 0, none⟩ = some (.func (.func 75) #[] #[.pointer (some ⟨w.heap.size + 1 + 1, 0, none⟩), .pointer (some ⟨w.heap.size + 1 + 1 + 1 + 1, 0, none⟩), .pointer (some ⟨w.heap.size + 1, 0, none⟩), .pointer (some ⟨w.heap.size, 0, none⟩), .pointer (some ⟨w.heap.size + 1 + 1 + 1 + 1 + 1, 0, none⟩)]) := fun _ h => Led.cell h 0 0 rfl rfl
    have E1 : ∀ w', exS w0 (w.heap.size + 1 + 1) (w.heap.size + 1 + 1 + 1 + 1) (w.heap.size + 1) w.heap.size (w.heap.size + 1 + 1 + 1 + 1 + 1) w' → w'.cell? ⟨w.heap.size + 1, 0, none⟩ = some (.int .i64 (s : Int)) := fun _ h => bl_cell (Led.bl h) (by rw [HKF.out.cell]; rfl)
    have hpos : (2 : Nat) ^ s < 2 ^ 20 := Nat.pow_lt_pow_right (by decide) (by omega)
    have hw : IntKind.i64.wrap ((2 : Int) ^ s) = ((2 ^ s : Nat) : Int) := by
      have e : ((2 : Int) ^ s) = ((2 ^ s : Nat) : Int) := by simp
      rw [e]
      have h62 : 2 ^ s < 4611686018427387904 := Nat.lt_trans hpos (by decide)
      generalize 2 ^ s = y at *
      exact IntWalk.i64_in _ (by omega)
    have HW := hid hw
    have hS0 : exS w0 (w.heap.size + 1 + 1) (w.heap.size + 1 + 1 + 1 + 1) (w.heap.size + 1) w.heap.size (w.heap.size + 1 + 1 + 1 + 1 + 1) W1.drew := exS_of (HL1.out.step (Cls.drew W1))
    have HCALL := hid (ext_any HN.out g (by rw [HKT.out.cell]; rfl) (by rw [HKF.out.cell]; rfl) (by rw [HKN.out.cell]; rfl) (by rw [HKN.out.cell]; rfl) (gt := w.heap.size + 1 + 1) (gf := w.heap.size + 1) (gn := w.heap.size) (to := to) (s := s) n s (2 ^ s) [s] [] _ _ _ _ none 0 _ W1.drew (by simp) (fun u hu => by rw [List.mem_singleton.1 hu]; exact hs) (by simp; omega) hs hpos (fun u hu => by rw [Nat.testBit_two_pow, decide_eq_true_eq, List.mem_singleton]; exact eq_comm) (by
      have := rbL_len (fs := fs) (n := n) (s := s) (to := to) hn8 (by have := HN.out.flen; omega)
      rw [HR.out] at this
      simp; omega) rfl (Nat.le_refl _) (HL1.out.step (Cls.drew W1)))
    rw [← HW.out] at HCALL
    unfold capE at HCALL
    clear hpos hw
    have iu : IntKind.u64.wrap (s : Int) = (s : Int) := by rw [IntKind.wrap_u64]; omega
    have imn : min s 64 = s := by omega
    go_region_held3 (fun w' => exS w0 (w.heap.size + 1 + 1) (w.heap.size + 1 + 1 + 1 + 1) (w.heap.size + 1) w.heap.size (w.heap.size + 1 + 1 + 1 + 1 + 1) w') (first | exact hS0 | assumption)
      (first
        | (go_at_call 75; refine HCALL.out.mono ?_; rintro e4 w4 ⟨rfl, V4, ss4, h4⟩; have hS4 := exS_of h4))
    rw [List.nil_append] at h4
    have HLEN : Hid (ss4.length ≤ 1099511627776) := by
      have h1 := (show OwnsRS w4 w0.heap.size V4 ss4 _ from h4.get 0 rfl).2.1
      have := rbL_len (fs := fs) (n := n) (s := s) (to := to) hn8 (by have := HN.out.flen; omega)
      rw [HR.out] at this
      rw [List.length_map] at h1
      refine hid ?_
      omega
    have HOK : Hid (∀ r ∈ (rtsL fs to n s [s] []).map (fun r => ((s : Int), r)), r.1 = (s : Int) ∧ r.2.length ≤ 1048576 ∧ ∀ x ∈ r.2, 0 ≤ x ∧ x < fs.length) := fun r hr => by
      obtain ⟨q, hq, rfl⟩ := List.mem_map.1 hr
      have := rbL_ok (n := n) (fs := fs) (s := s) (to := to) q (by rw [HR.out]; exact hq)
      exact ⟨rfl, by simp only; omega, this.2⟩
    have H4 := hid h4
    clear h4 hS4 hS0 HCALL E0 E1
    have hl1 := H4.out
    obtain ⟨A4, c4, hv4, _⟩ := (show OwnsRS w4 w0.heap.size _ _ _ from hl1.get 0 rfl).1.form
    subst hv4
    have q0 := hl1.cell 1 0 rfl rfl
    have hsort := sortRoutes_led (s := (s : Int)) hl1 0 rfl (HKN.out.below hl1.bl HKN.out.lt) (fun g' hg' e => by
      have h1 := (hl1.all 0 _ rfl).2 g' (.inl hg')
      have h2 := HSZ.out
      omega) HN.out (goodB_lens g) HOK.out HLEN.out
    have HSORT := hid hsort
    have HBL := hid hl1.bl
    clear hl1 hsort
    go_wp2_with fail
    refine HSORT.out.mono ?_
    rintro e5 w5 ⟨rfl, ss5, rows5, hp5, hs5, hl5⟩
    have H5 := hid hl5
    have q1 := hl5.cell 1 0 rfl rfl
    have HP5 := hid hp5
    have HS5 := hid hs5
    clear hl5 HSORT q0 hp5 hs5
    go_wp2_with fail
    go_ret
    refine ⟨_, ss5, rows5, rfl, ?_, HS5.out, ?_, HB0.out.trans (H5.out.bl.mono HB0.out.size)⟩
    · rw [HR.out]; exact HP5.out
    · exact (show OwnsRS w5 w0.heap.size _ ss5 rows5 from H5.out.get 0 rfl).base_ HB0.out.size
end
end Go.Proofs.YtgoegldffjfmdaaGreat
/- l4Pair, l4All, AllRoutes of the reference, walked. Conditions: none. By alls.py. -/
namespace Go.Proofs.YtgoegldffjfmdaaGreat
open Go.RowKit
/-- All routes sorted, if there are few enough. -/
def alL (fs : List Fib) (n s to : Nat) : List (List Int) := if (rbL fs n s to).length ≤ 200 then srtR fs (s : Int) (rbL fs n s to) else []
def alB (fs : List Fib) (n s to : Nat) : Bool := decide ((rbL fs n s to).length ≤ 200)
def arB (xs : List ByteArray) (fs : List Fib) (f t : Int) : Bool := mcB xs fs f t && alB fs xs.length f.toNat t.toNat
def arL (xs : List ByteArray) (fs : List Fib) (f t : Int) : List (Int × List Int) := if mcB xs fs f t then (alL fs xs.length f.toNat t.toNat).map fun r => (f, r) else []
theorem arL_parts {xs : List ByteArray} {fs : List Fib} {f t : Int} : (arL xs fs f t).length ≤ 200 ∧ ∀ r ∈ arL xs fs f t, r.2.length ≤ 8 := by
  unfold arL
  cases g : mcB xs fs f t
  · exact ⟨by simp, fun r hr => by cases hr⟩
  · have hb := goodB_bd (mcB_parts g).1
    refine ⟨?_, fun r hr => ?_⟩
    · rw [if_pos rfl, List.length_map]
      unfold alL
      split
      · rw [(srtR_ok _).2.length_eq]; assumption
      · simp
    · rw [if_pos rfl] at hr
      obtain ⟨q, hq, rfl⟩ := List.mem_map.1 hr
      unfold alL at hq
      split at hq
      · have := (rbL_ok q ((srtR_ok _).2.mem_iff.1 hq)).1
        simp only; omega
      · cases hq
theorem sum_le : ∀ (l : List (Int × List Int)), (∀ r ∈ l, r.2.length ≤ 8) → (l.map fun r => 1 + r.2.length).sum ≤ 9 * l.length := by
  intro l
  induction l with
  | nil => intro _; simp
  | cons r l ih =>
    intro h
    have h1 := ih fun x hx => h x (List.mem_cons_of_mem _ hx)
    have h2 := h r List.mem_cons_self
    simp only [List.map_cons, List.sum_cons, List.length_cons]
    omega
theorem off_small {l : List (Int × List Int)} (h : l.length ≤ 200 ∧ ∀ r ∈ l, r.2.length ≤ 8) : offR 1 l l.length ≤ 1099511627776 := by
  unfold offR
  rw [List.take_length]
  have := sum_le l h.2
  have := h.1
  omega
theorem Led.recopy {w0 w : World} {base b2 : Nat} {V V2 : Value} {ss : List (Int × Sl)} {rows : List (Int × List Int)} {R : List Thing} (h : Led w0 w (tOwns elRt b2 29 V2 ss :: tRS base V ss rows :: R)) (hb2 : base ≤ b2) : Led w0 w (tRS base V2 ss rows :: R) := by
  have hO : OwnsRS w base V ss rows := h.get 1 rfl
  have hN : Owns elRt w b2 29 V2 ss := h.get 0 rfl
  have h3 : Led w0 w (tOwns elRt b2 29 V2 ss :: tRS base V ss rows :: tOwns elInt 0 3 (.slice none 0 0) [] :: R) := (h.nilS elInt 3 0).front (P := [_, _, _]) (R := R) [1, 2, 0] (by decide) rfl
  refine h3.fuse3 (fun k hk => ?_) ⟨hN.base hb2, hO.2.1, hO.2.2.1, hO.2.2.2⟩
  rcases hk with hk | hk
  · exact .inl hk
  · exact .inr (.inl (.inr hk))
theorem Led.nilRS {w0 w : World} {L : List Thing} (h : Led w0 w L) (b0 : Nat) : Led w0 w (tRS b0 (.slice none 0 0) [] [] :: L) :=
  h.put (Below.refl _ _) (tRS b0 (.slice none 0 0) [] []) (fun b e => by
    rcases e with e | ⟨i, s, h1, _⟩
    · cases e
    · simp at h1) (OwnsRS.nil _ _)
theorem rfL_whole {fs : List Fib} {n s to : Nat} (h : s ≠ to) : ((rfL fs s to n s [s] [] []).length ≤ 200 ∧ rfL fs s to n s [s] [] [] = alL fs n s to ∧ alB fs n s to = true) ∨ (200 < (rfL fs s to n s [s] [] []).length ∧ alL fs n s to = [] ∧ alB fs n s to = false) := by
  have hr : rbL fs n s to = dfsL fs.length to (nxF fs) n s [s] [] := by unfold rbL; rw [if_neg h]; rfl
  rcases refL_all (m := fs.length) (to := to) (M := 200) (nx := nxF fs) (ins := insR fs (s : Int)) (fun l r => insR_len l r) n s [s] [] with ⟨h1, h2⟩ | ⟨h1, h2⟩
  · refine .inl ⟨?_, ?_, ?_⟩
    · unfold rfL
      rw [h1, ins_foldl (fun l r => insR_len l r)]
      simpa using h2
    · unfold rfL alL srtR
      rw [h1, hr, if_pos h2]
    · unfold alB; rw [hr]; exact decide_eq_true h2
  · refine .inr ⟨h1, ?_, ?_⟩
    · unfold alL; rw [hr, if_neg (by omega)]
    · unfold alB; rw [hr]; exact decide_eq_false (by omega)
section
variable {n c m d : Nat} {A A' : Option Addr} {xs : List ByteArray} {fs : List Fib}
set_option maxHeartbeats 2000000 in
set_option maxRecDepth 100000 in
theorem l4Pair_any (f t : Int) (w : World) (h : NetIs w A n c A' m d xs fs) :
    Calls Tryz.prog 25 #[.agg #[.slice A n c, .slice A' m d], .int .i64 f, .int .i64 t] w fun e w' => e = .returned (.bool (mcB xs fs f t)) ∧ Below w.heap.size w w' := by
  have hS := (Led.nil w).blk_ w.heap.size rfl 34 #[.slice A n c, .slice A' m d]
  have hn := h.nle
  have HK : Hid (mcB xs fs f t = (((goodB xs fs && inB 0 ((n : Int) - 1) f) && inB 0 ((n : Int) - 1) t) && !(f == t))) := by unfold Hid mcB; rw [h.xlen]
  have iw : IntKind.i64.wrap ((n : Int) - 1) = (n : Int) - 1 := IntWalk.i64_in _ (by omega)
  rw [HK.out]
  clear HK
  cases g : goodB xs fs
  · go_enter Tryz.func25, Tryz.ntmps25
    go_wp2_with fail
    refine (goodN _ (h.grow hS.bl)).mono ?_
    rintro e w1 ⟨rfl, hb⟩
    rw [g]
    go_wp2_with fail
    go_ret
    exact ⟨rfl, bl_then hS.bl hb⟩
  · cases g2 : inB 0 ((n : Int) - 1) f
    · go_enter Tryz.func25, Tryz.ntmps25
      go_wp2_with fail
      refine (goodN _ (h.grow hS.bl)).mono ?_
      rintro e w1 ⟨rfl, hb⟩
      rw [g]
      replace hS := hS.step hb
      have q0 := hS.cell 0 0 rfl rfl
      clear hb
      go_wp2_with fail
      refine (l1In_any _ _ _ _).mono ?_
      rintro e w3 ⟨rfl, rfl⟩
      rw [g2]
      go_wp2_with fail
      go_ret
      exact ⟨rfl, hS.bl⟩
    · cases g3 : inB 0 ((n : Int) - 1) t
      · go_enter Tryz.func25, Tryz.ntmps25
        go_wp2_with fail
        refine (goodN _ (h.grow hS.bl)).mono ?_
        rintro e w1 ⟨rfl, hb⟩
        rw [g]
        replace hS := hS.step hb
        have q0 := hS.cell 0 0 rfl rfl
        clear hb
        go_wp2_with fail
        refine (l1In_any _ _ _ _).mono ?_
        rintro e w3 ⟨rfl, rfl⟩
        rw [g2]
        go_wp2_with fail
        refine (l1In_any _ _ _ _).mono ?_
        rintro e w3 ⟨rfl, rfl⟩
        rw [g3]
        go_wp2_with fail
        go_ret
        exact ⟨rfl, hS.bl⟩
      · go_enter Tryz.func25, Tryz.ntmps25
        go_wp2_with fail
        refine (goodN _ (h.grow hS.bl)).mono ?_
        rintro e w1 ⟨rfl, hb⟩
        rw [g]
        replace hS := hS.step hb
        have q0 := hS.cell 0 0 rfl rfl
        clear hb
        go_wp2_with fail
        refine (l1In_any _ _ _ _).mono ?_
        rintro e w3 ⟨rfl, rfl⟩
        rw [g2]
        go_wp2_with fail
        refine (l1In_any _ _ _ _).mono ?_
        rintro e w3 ⟨rfl, rfl⟩
        rw [g3]
        go_wp2_with fail
        go_ret
        exact ⟨by cases hft : (f == t) <;> simp_all [bne], hS.bl⟩
end
end Go.Proofs.YtgoegldffjfmdaaGreat
/- l4Own, l5First of the reference, walked. Conditions: as each states. By l5.py. -/
namespace Go.Proofs.YtgoegldffjfmdaaGreat
open Go.RowKit
set_option maxHeartbeats 2000000 in
set_option maxRecDepth 100000 in
theorem l4Own_any {s : Int} {B : Option Addr} {r : List Int} {e : Nat} (w : World) (hr : Sees elInt w w.heap.size B r.length r) (hn : r.length ≤ 1048576) :
    Calls Tryz.prog 56 #[.agg #[.int .i64 s, .slice B r.length e]] w fun e w' => ∃ R k, e = .returned (.agg #[.int .i64 s, .slice R r.length k]) ∧ Owns elInt w' w.heap.size 3 (.slice R r.length k) r ∧ Below w.heap.size w w' := by
  have hS := ((Led.nil w).blk_ w.heap.size rfl 29 #[.int .i64 s, .slice B r.length e]).blk_ (w.heap.size + 1) (by simp) 29 #[.int .i64 0, .slice none 0 0]
  have HS := hid hS
  have HR := hid hr
  clear hS hr
  go_enter Tryz.func56, Tryz.ntmps56
  go_wp2_with fail
  have C0 : ∀ w', Cls ((w.alloc (.cells #[.int .i64 s, .slice B r.length e] 29)).alloc (.cells #[.int .i64 0, .slice none 0 0] 29)) w' → w'.cell? ⟨w.heap.size, 0, none⟩ = some (.int .i64 s) := fun _ h => h.cell (HS.out.cell 1 0 rfl rfl)
  have C1 : ∀ w', Cls ((w.alloc (.cells #[.int .i64 s, .slice B r.length e] 29)).alloc (.cells #[.int .i64 0, .slice none 0 0] 29)) w' → w'.cell? ⟨w.heap.size, 1, none⟩ = some (.slice B r.length e) := fun _ h => h.cell (HS.out.cell 1 1 rfl rfl)
  have HL := hid (fun w' (h : Cls ((w.alloc (.cells #[.int .i64 s, .slice B r.length e] 29)).alloc (.cells #[.int .i64 0, .slice none 0 0] 29)) w') => HS.out.step h)
  have HB := HS.out.bl
  refine wp_region_heldX 6 (fun w' => Cls ((w.alloc (.cells #[.int .i64 s, .slice B r.length e] 29)).alloc (.cells #[.int .i64 0, .slice none 0 0] 29)) w') (by kernel_rfl) (Cls.drew _) (fun hHeld => ?_)
  refine wpAnyX_take (i := 0) (oi := _) (v := ?_) rfl (by kernel_rfl) (by kernel_rfl) (by kernel_rfl) (by kernel_rfl) (fun _ _ _ h => h) (Or.inl ⟨by rfl, ?_⟩) (by assumption) ?_
  rotate_left
  · intro w hSw; go_simp; with_reducible rfl
  simp only [Act.put, List.getElem_toArray, List.getElem_cons_zero, List.setIfInBounds_toArray, List.set_cons_zero, List.set_cons_succ]
  refine wpAnyX_take (i := 1) (oi := _) (v := ?_) rfl (by kernel_rfl) (by kernel_rfl) (by kernel_rfl) (by kernel_rfl) (fun _ _ _ h => h) (Or.inl ⟨by rfl, ?_⟩) (by assumption) ?_
  rotate_left
  · intro w hSw; go_simp; with_reducible rfl
  simp only [Act.put, List.getElem_toArray, List.getElem_cons_zero, List.getElem_cons_succ, List.setIfInBounds_toArray, List.set_cons_zero, List.set_cons_succ]
  refine wpAnyX_take (i := 2) (oi := _) (v := ?_) rfl (by kernel_rfl) (by kernel_rfl) (by kernel_rfl) (by kernel_rfl) (fun _ _ _ h => h) (Or.inl ⟨by rfl, ?_⟩) (by assumption) ?_
  rotate_left
  · intro w hSw; go_simp; with_reducible rfl
  simp only [Act.put, List.getElem_toArray, List.getElem_cons_zero, List.getElem_cons_succ, List.setIfInBounds_toArray, List.set_cons_zero, List.set_cons_succ]
  refine wpAnyX_take (i := 3) (oi := _) (v := ?_) rfl (by kernel_rfl) (by kernel_rfl) (by kernel_rfl) (by kernel_rfl) (fun _ _ _ h => h) (Or.inl ⟨by rfl, ?_⟩) (by assumption) ?_
  rotate_left
  · intro w hSw; go_simp; with_reducible rfl
  simp only [Act.put, List.getElem_toArray, List.getElem_cons_zero, List.getElem_cons_succ, List.setIfInBounds_toArray, List.set_cons_zero, List.set_cons_succ]
  refine wpAnyX_ready (rs := [4]) (by kernel_rfl) (by simp) ?_
  refine AllReadyX.cons rfl (fun K hK => ?_) AllReadyX.nil
  go_simp
  refine (l1Own_any _ (HR.out.grow (HL.out _ hHeld).bl) hn).mono ?_
  rintro e5 w5 ⟨v5, rfl, ho5, hb5⟩
  obtain ⟨A5, c5, hv, _, _, _⟩ := ho5.form
  subst hv
  have H5 := hid ((HL.out _ hHeld).owns hb5 ho5)
  have hcl5 := Cls.next hb5 hHeld
  go_wp2_with fail
  refine hK.out _ _ (hcl5) (fun hHeld => ?_)
  clear hK K
  try simp only [Act.put, List.getElem_toArray, List.getElem_cons_zero, List.getElem_cons_succ, List.setIfInBounds_toArray, List.set_cons_zero, List.set_cons_succ]
  refine wpAnyX_take (i := 5) (oi := _) (v := ?_) rfl (by kernel_rfl) (by kernel_rfl) (by kernel_rfl) (by kernel_rfl) (fun _ _ _ h => h) (Or.inl ⟨by rfl, ?_⟩) (by assumption) ?_
  rotate_left
  · intro w hSw; go_simp; with_reducible rfl
  simp only [Act.put, List.getElem_toArray, List.getElem_cons_zero, List.getElem_cons_succ, List.setIfInBounds_toArray, List.set_cons_zero, List.set_cons_succ]
  have y0 := H5.out.cell 1 0 rfl rfl
  have y1 := H5.out.cell 1 1 rfl rfl
  have z0 := H5.out.frozen 1 0 rfl
  have z1 := H5.out.frozen 1 1 rfl
  have H6 := hid ((H5.out.set 1 rfl 0 (.int .i64 s)).set 1 rfl 1 (.slice A5 r.length c5))
  refine wpAnyX_ready (rs := [6]) (by kernel_rfl) (by simp) ?_
  refine AllReadyX.last rfl (fun K hK => ?_)
  go_simp
  refine hK.out _ _ ?_
  clear hK K
  try simp only [Act.put, List.getElem_toArray, List.getElem_cons_zero, List.getElem_cons_succ, List.setIfInBounds_toArray, List.set_cons_zero, List.set_cons_succ]
  refine wpAnyX_done (by kernel_rfl) ?_ _
  clear C0 C1 HL hHeld
  have HO := hid ((H6.out.own 0 rfl).base (base' := w.heap.size) (by simp; omega))
  go_wp2_with fail
  exact bodyPost_ret (v := .agg #[.int .i64 s, .slice A5 r.length c5]) (by simp [results, Tryz.results56, go_sem, y0, y1]) rfl
    ⟨A5, c5, rfl, HO.out, H6.out.bl⟩
/-- What the search finds. -/
def l5O (wl : List Int) (few : Bool) (fs : List Fib) (n s to : Nat) : Option (List Int) := bbL (goneF wl) few fs (s : Int) (distL (goneF wl) fs n to) to n s [s] [] none
section
variable {n c m d gk cg : Nat} {A A' G : Option Addr} {xs : List ByteArray} {fs : List Fib} {wl : List Int}
set_option maxHeartbeats 4000000 in
set_option maxRecDepth 100000 in
theorem l5First_any (w : World) (h : NetIs w A n c A' m d xs fs) (hG : goodB xs fs = true) (s to : Nat) (hs : s < n) (ht : to < n) (hW : Sees elInt w w.heap.size G gk wl) (hgk : gk ≤ 1048576) (few : Bool) :
    Calls Tryz.prog 27 #[.agg #[.slice A n c, .slice A' m d], .int .i64 (s : Int), .int .i64 (to : Int), .slice G gk cg, .bool few] w fun e w' => ∃ R k, e = .returned (.tuple #[.agg #[.int .i64 (frS (l5O wl few fs n s to) (s : Int)), .slice R (frL (l5O wl few fs n s to)).length k], .bool (l5O wl few fs n s to).isSome]) ∧ Owns elInt w' w.heap.size 3 (.slice R (frL (l5O wl few fs n s to)).length k) (frL (l5O wl few fs n s to)) ∧ Below w.heap.size w w' := by
  obtain ⟨he, hn0, hn8, hm14⟩ := good_parts h hG
  have hl5 := goodB_lens5 hG
  have hS := ((Led.nil w).blk_ w.heap.size rfl 34 #[.slice A n c, .slice A' m d]).blk_ (w.heap.size + 1) (by simp) 29 #[.int .i64 0, .slice none 0 0]
  have HOK : Hid (okO fs n (l5O wl few fs n s to)) := bbL_ok he (lens5_pos hl5) ht (fun r hr => by cases hr) (by simp) (fun x hx => by cases hx)
  have HS := hid hS
  have HN := hid h
  have HW := hid hW
  have HE := hid he
  have HL5 := hid hl5
  have HDL : Hid ((distL (goneF wl) fs n to).length = n) := distL_len
  clear h hW hS he hl5
  go_enter Tryz.func27, Tryz.ntmps27
  go_wp2_with fail
  have C0 : ∀ w', Cls ((w.alloc (.cells #[.slice A n c, .slice A' m d] 34)).alloc (.cells #[.int .i64 0, .slice none 0 0] 29)) w' → w'.cell? ⟨w.heap.size, 0, none⟩ = some (.slice A n c) := fun _ h => h.cell (HS.out.cell 1 0 rfl rfl)
  have C1 : ∀ w', Cls ((w.alloc (.cells #[.slice A n c, .slice A' m d] 34)).alloc (.cells #[.int .i64 0, .slice none 0 0] 29)) w' → w'.cell? ⟨w.heap.size, 1, none⟩ = some (.slice A' m d) := fun _ h => h.cell (HS.out.cell 1 1 rfl rfl)
  have HL := hid (fun w' (h : Cls ((w.alloc (.cells #[.slice A n c, .slice A' m d] 34)).alloc (.cells #[.int .i64 0, .slice none 0 0] 29)) w') => HS.out.step h)
  have HLT : Hid (∀ w', Cls ((w.alloc (.cells #[.slice A n c, .slice A' m d] 34)).alloc (.cells #[.int .i64 0, .slice none 0 0] 29)) w' → w.heap.size + 1 < w'.heap.size) := fun w' h => by have h1 := Below.size h; simp at h1; omega
  go_region_held3 (fun w' => Cls ((w.alloc (.cells #[.slice A n c, .slice A' m d] 34)).alloc (.cells #[.int .i64 0, .slice none 0 0] 29)) w') (first | exact Cls.refl _ | exact Cls.drew _ | assumption | exact Cls.next (by assumption) (by assumption) | exact bl_alloc (by assumption) _)
    (first
      | (go_at_call 54; refine (l5Distances_any to _ (HN.out.grow (HL.out _ (by assumption)).bl) (HW.out.grow (HL.out _ (by assumption)).bl) hgk HE.out HL5.out ht hn8 hm14).mono ?_; rintro e w2 ⟨v2, rfl, ho2, hb2⟩; obtain ⟨Dl, cd, hv2, _, _, _⟩ := ho2.form; rw [HDL.out] at hv2; subst hv2; have hcl2 : Cls ((w.alloc (.cells #[.slice A n c, .slice A' m d] 34)).alloc (.cells #[.int .i64 0, .slice none 0 0] 29)) w2 := Cls.next hb2 (by assumption)))
  have hS2 := HL.out w2 hcl2
  have hsee := ho2.sees
  rw [HDL.out] at hsee
  have H0 := ((Led.nil w2).blk_ w2.heap.size rfl 86 (bxX A n c A' m d to G gk cg Dl cd few (s : Int) none (.slice none 0 0))).single elInt (s : Int) 3 (w2.heap.size + 1) (by simp) w2.heap.size (by omega)
  have H1 := hid (((H0.nilS elInt 3 w2.heap.size).nilS elInt 3 w2.heap.size).pick [0, 2, 1, 3] (by decide) rfl)
  have HEXT := hid (bext_any (cg := cg) (cd := cd) (gx := w2.heap.size) (HN.out.grow hS2.bl) hG (show s ≤ 1048576 by omega) few ht ((HW.out.grow hS2.bl).more hS2.bl.size) hgk hsee n s [s] [] none (.slice none 0 0) [] none 0 (some ⟨w2.heap.size + 1, 0, none⟩) 1 w2.heap.size _ (by simp) (fun u hu => by rw [List.mem_singleton.1 hu]; exact hs) (by simp; omega) rfl rfl (fun x hx => by cases hx) (fun r hr => by cases hr) H1.out)
  have hcells : (elInt.cells (s : Int)).toArray = #[.int .i64 (s : Int)] := rfl
  have hl0 : lenR fs [] = 0 := by rw [lenR_sum]; rfl
  have hf0 : frS none (s : Int) = 0 := rfl
  rw [hcells, hl0] at HEXT
  unfold bxX at HEXT
  rw [hf0] at HEXT
  simp only [Option.isSome_none] at HEXT
  have HS2 := hid hS2
  have HCL := hid hcl2
  have HL2 := HLT.out w2 hcl2
  obtain ⟨ov, hov⟩ : ∃ ov, l5O wl few fs n s to = ov := ⟨_, rfl⟩
  have HOV := hid hov
  clear hcells hl0 hf0 hS2 hsee H0 H1 ho2 hb2 hcl2 C0 C1 HL HLT hov
  go_wp2_with fail
  refine HEXT.out.mono ?_
  rintro e w4 ⟨rfl, RV, h4⟩
  rw [show bbL (goneF wl) few fs (s : Int) (distL (goneF wl) fs n to) to n s [s] [] none = ov from HOV.out] at h4
  obtain ⟨RA, rc, hRV, hrc⟩ := h4.form 0 rfl
  subst hRV
  have H4 := hid h4
  have HS4 := hid (HS2.out.step h4.bl)
  clear h4 HEXT
  rw [HOV.out] at HOK
  have x6 := H4.out.cell (l := [.slice A n c, .slice A' m d, .int .i64 (to : Int), .slice G gk cg, .slice Dl n cd, .bool few, .bool ov.isSome, .int .i64 (frS ov (s : Int)), .slice RA (frL ov).length rc]) 1 6 rfl rfl
  have x7 := H4.out.cell (l := [.slice A n c, .slice A' m d, .int .i64 (to : Int), .slice G gk cg, .slice Dl n cd, .bool few, .bool ov.isSome, .int .i64 (frS ov (s : Int)), .slice RA (frL ov).length rc]) 1 7 rfl rfl
  have x8 := H4.out.cell (l := [.slice A n c, .slice A' m d, .int .i64 (to : Int), .slice G gk cg, .slice Dl n cd, .bool few, .bool ov.isSome, .int .i64 (frS ov (s : Int)), .slice RA (frL ov).length rc]) 1 8 rfl rfl
  rcases (show ov = none ∨ ∃ r, ov = some r by cases ov; exact .inl rfl; exact .inr ⟨_, rfl⟩) with ho | ⟨r, ho⟩
  · have HH : Hid (frS ov (s : Int) = 0 ∧ frL ov = [] ∧ ov.isSome = false) := by rw [ho]; exact ⟨rfl, rfl, rfl⟩
    rw [HH.out.2.2] at x6
    have q0 := HS4.out.cell 0 0 rfl rfl
    have q1 := HS4.out.cell 0 1 rfl rfl
    have z0 := HS4.out.frozen 0 0 rfl
    have z1 := HS4.out.frozen 0 1 rfl
    have HS5 := hid ((HS4.out.set 0 rfl 0 (.int .i64 0)).set 0 rfl 1 (.slice none 0 0))
    clear ho x7 x8
    go_wp2_with fail
    exact bodyPost_ret (v := .tuple #[.agg #[.int .i64 0, .slice none 0 0], .bool false]) (by simp [results, Tryz.results27, go_sem, q0, q1]) rfl
      ⟨none, 0, by rw [HOV.out, HH.out.1, HH.out.2.1, HH.out.2.2]; rfl, by rw [HOV.out, HH.out.2.1]; exact World.ownsRow_nil _ _ _ _, HS5.out.bl⟩
  · have HH : Hid (frS ov (s : Int) = (s : Int) ∧ frL ov = r ∧ ov.isSome = true) := by rw [ho]; exact ⟨rfl, rfl, rfl⟩
    have hrok := HOK.out r ho
    have hsr := H4.out.sees 0 rfl rfl
    rw [HH.out.2.1] at hsr x8
    rw [HH.out.1] at x7
    rw [HH.out.2.2] at x6
    have HOWN := hid (l4Own_any (s := (s : Int)) (e := rc) w4 hsr (by omega))
    have HLT4 : Hid (w.heap.size + 1 < w4.heap.size) := by have h1 := H4.out.bl.size; refine hid ?_; omega
    clear ho hsr
    go_wp2_with fail
    refine HOWN.out.mono ?_
    rintro e w5 ⟨R, k, rfl, ho5, hb5⟩
    have hS5 := HS4.out.step hb5
    have q0 := hS5.cell 0 0 rfl rfl
    have q1 := hS5.cell 0 1 rfl rfl
    have z0 := hS5.frozen 0 0 rfl
    have z1 := hS5.frozen 0 1 rfl
    have HS6 := hid ((hS5.set 0 rfl 0 (.int .i64 (s : Int))).set 0 rfl 1 (.slice R r.length k))
    have HSZ := hid (((ho5.far (p := ⟨w.heap.size + 1, 0, none⟩) HLT4.out (.int .i64 (s : Int))).far (p := ⟨w.heap.size + 1, 1, none⟩) HLT4.out (.slice R r.length k)).base (base' := w.heap.size) (by have := HLT4.out; omega))
    clear hS5 HOWN hb5 ho5 x6 x7 x8
    go_wp2_with fail
    exact bodyPost_ret (v := .tuple #[.agg #[.int .i64 (s : Int), .slice R r.length k], .bool true]) (by simp [results, Tryz.results27, go_sem, q0, q1]) rfl
      ⟨R, k, by rw [HOV.out, HH.out.1, HH.out.2.1, HH.out.2.2], by rw [HOV.out, HH.out.2.1]; exact HSZ.out, HS6.out.bl⟩
end
end Go.Proofs.YtgoegldffjfmdaaGreat
/- AllRoutes of the program, walked. Conditions: none. By alli.py. -/
namespace Go.Proofs.YtgoegldffjfmdaaGreat
open Go.RowKit
section
variable {n c m d : Nat} {A A' : Option Addr} {xs : List ByteArray} {fs : List Fib}
end
end Go.Proofs.YtgoegldffjfmdaaGreat
/- slices.IndexFunc over routes, firstRoute, walked. Conditions: as each states. By fst.py. -/
namespace Go.Proofs.YtgoegldffjfmdaaGreat
open Go.RowKit
theorem findPF_find {α : Type} (p : α → Bool) : ∀ (l : List α) (k0 : Nat), (∃ k x, findPF p l k0 = ((k0 + k : Nat) : Int) ∧ l[k]? = some x ∧ l.find? p = some x) ∨ (findPF p l k0 = -1 ∧ l.find? p = none) := by
  intro l
  induction l with
  | nil => intro k0; exact .inr ⟨rfl, rfl⟩
  | cons y l ih =>
    intro k0
    unfold findPF
    cases g : p y
    · rcases ih (k0 + 1) with ⟨k, x, h1, h2, h3⟩ | ⟨h1, h2⟩
      · refine .inl ⟨k + 1, x, ?_, by simpa using h2, by rw [List.find?_cons, g]; exact h3⟩
        simp only [Bool.false_eq_true, if_false]
        rw [h1]; congr 1; omega
      · exact .inr ⟨by simpa using h1, by rw [List.find?_cons, g]; exact h2⟩
    · exact .inl ⟨0, y, by simp, rfl, by rw [List.find?_cons, g]⟩
theorem findP_find {α : Type} (p : α → Bool) (l : List α) : (∃ (k : Nat) (x : α), findP p l = (k : Int) ∧ l[k]? = some x ∧ l.find? p = some x) ∨ (findP p l = -1 ∧ l.find? p = none) := by
  rcases findPF_find p l 0 with ⟨k, x, h1, h2, h3⟩ | h
  · exact .inl ⟨k, x, by unfold findP; rw [h1]; simp, h2, h3⟩
  · exact .inr h
section
variable {n c : Nat} {A : Option Addr} {ss : List (Int × Sl)} {rows : List (Int × List Int)} {F : FuncId} {cap : Array Value}
set_option maxHeartbeats 1000000 in
set_option maxRecDepth 100000 in
theorem indexFuncRS_any (p : Int × List Int → Bool) (w : World) (hA : SeesRS w A n ss rows) (hn : n ≤ 1099511627776)
    (hcall : ∀ args wr, (callFunc F args).run Tryz.prog wr = .ok (.enter F args) wr)
    (hF : ∀ (i : Nat) s r w', ss[i]? = some s → rows[i]? = some r → Cls w w' → Calls Tryz.prog F (#[.agg #[.int .i64 s.1, .slice s.2.A s.2.n s.2.c]] ++ cap) w' fun e w2 => e = .returned (.bool (p r)) ∧ Below w'.heap.size w' w2) :
    Calls Tryz.prog 62 #[.slice A n c, .func (.func F) #[] cap] w fun e w' => e = .returned (.int .i64 (findP p rows)) ∧ Below w.heap.size w w' := by
  have HF := hid hF
  have hlr : rows.length = n := by rw [← hA.2.1]; exact hA.1.len
  have HLR := hid hlr
  clear hF hlr
  go_enter Tryz.func62, Tryz.ntmps62
  go_wp2
  go_loopw [8] (fun i wr => ∃ k : Nat, k ≤ n ∧ i = .int .i64 k ∧ Hid (noneP p rows k) ∧ Below w.heap.size w wr) (fun i _ => n - (intOf i).toNat)
  case atStart => exact ⟨0, Nat.zero_le _, rfl, noneP_zero _ _, Below.refl _ _⟩
  case round =>
    obtain ⟨k, hk, rfl, hno, hb⟩ := hrel
    by_cases hlt : k < n
    · obtain ⟨b, o, rfl, _, hc⟩ := hA.1.at_ hlt
      obtain ⟨x, hxk⟩ := get_of (k := k) HLR.out hlt
      obtain ⟨s, hsk⟩ := get_of (k := k) hA.1.len hlt
      have hcx := bl_cell hb (hc k s hsk 0 _ rfl)
      have hcy := bl_cell hb (hc k s hsk 1 _ rfl)
      simp only [elRt, Nat.add_zero, slV] at hcx hcy
      have HC := hid (HF.out k s x wr hsk hxk hb)
      clear hc
      go_wp2_with fail
      refine HC.out.mono ?_
      rintro e w' ⟨rfl, hb2⟩
      have hbb : Below w.heap.size w w' := bl_then hb hb2
      clear HC hcx hcy hb hb2
      by_cases hp : p x = true
      · have HR := hid (findP_at hno.out hxk hp)
        clear hno hxk
        rw [hp]
        go_wp2_with fail
        go_ret
        exact ⟨by rw [HR.out]; rfl, hbb⟩
      · have hp' : p x = false := by simpa using hp
        have HR := hid (noneP_succ hno.out hxk hp')
        clear hno hxk
        rw [hp']
        go_wp2_with fail
        exact ⟨⟨k + 1, by omega, by go_num, HR, hbb⟩, by simp [intOf]; omega⟩
    · have HN := hid (findP_none (p := p) HLR.out (by obtain rfl : k = n := (by omega); exact hno.out))
      clear hno
      go_wp2
      go_ret
      exact ⟨by rw [HN.out]; rfl, hb⟩
end
/-- The first of all routes that p holds. -/
def frO (fs : List Fib) (n s to : Nat) (p : List Int → Bool) : Option (List Int) := (srtR fs (s : Int) (rbL fs n s to)).find? p
theorem frO_ok {fs : List Fib} {n s to : Nat} {p : List Int → Bool} : (frL (frO fs n s to p)).length ≤ n ∧ ∀ x ∈ frL (frO fs n s to p), 0 ≤ x ∧ x < fs.length := by
  unfold frL
  cases h : frO fs n s to p with
  | none => exact ⟨Nat.zero_le _, fun x hx => by cases hx⟩
  | some r =>
    have h1 := List.mem_of_find?_eq_some (by unfold frO at h; exact h)
    exact rbL_ok r ((srtR_ok _).2.mem_iff.1 h1)
theorem find_rows {D : List (List Int)} {s : Int} {p : List Int → Bool} : (D.map fun r => (s, r)).find? (fun r => p r.2) = (D.find? p).map fun r => (s, r) := by
  rw [List.find?_map]
  rfl
section
variable {n c m d : Nat} {A A' : Option Addr} {xs : List ByteArray} {fs : List Fib} {F : FuncId} {cap : Array Value}
set_option maxHeartbeats 4000000 in
set_option maxRecDepth 100000 in
theorem firstRoute_any (p : List Int → Bool) (w : World) (h : NetIs w A n c A' m d xs fs) (g : goodB xs fs = true) (s to : Nat) (hs : s < n) (ht : to < n)
    (hcall : ∀ args wr, (callFunc F args).run Tryz.prog wr = .ok (.enter F args) wr)
    (hF : ∀ w' B (r : List Int) e, Cls w w' → r.length ≤ n → (∀ x ∈ r, 0 ≤ x ∧ x < fs.length) → r ∈ rbL fs n s to → r.length ≤ e → Sees elInt w' w'.heap.size B r.length r → Calls Tryz.prog F (#[.agg #[.int .i64 (s : Int), .slice B r.length e]] ++ cap) w' fun e w2 => e = .returned (.bool (p r)) ∧ Below w'.heap.size w' w2) :
    Calls Tryz.prog 32 #[.agg #[.slice A n c, .slice A' m d], .int .i64 (s : Int), .int .i64 (to : Int), .func (.func F) #[] cap] w fun e w' => ∃ R k, e = .returned (.tuple #[.agg #[.int .i64 (frS (frO fs n s to p) (s : Int)), .slice R (frL (frO fs n s to p)).length k], .bool (frO fs n s to p).isSome]) ∧ Owns elInt w' w.heap.size 3 (.slice R (frL (frO fs n s to p)).length k) (frL (frO fs n s to p)) ∧ Below w.heap.size w w' := by
  have hS := ((Led.nil w).blk_ w.heap.size rfl 34 #[.slice A n c, .slice A' m d]).blk_ (w.heap.size + 1) (by simp) 29 #[.int .i64 0, .slice none 0 0]
  obtain ⟨he, hn0, hn8, hm14⟩ := good_parts h g
  have hbl0 := hS.bl
  obtain ⟨o, ho⟩ : ∃ o, frO fs n s to p = o := ⟨_, rfl⟩
  have HFR := hid ho
  rw [ho]
  have HF := hid hF
  have HN := hid h
  have HLF := hid h.flen
  clear hF h ho
  go_enter Tryz.func32, Tryz.ntmps32
  go_wp2_with fail
  refine (routesBetween_any _ (HN.out.grow hbl0) g s to hs ht).mono ?_
  rintro e w2 ⟨v, ss, rows, rfl, hp, hpw, ho, hb2⟩
  have hrows := srtR_rows (D := rbL fs n s to) hpw hp
  obtain ⟨A2, c2, hv, _, _, _⟩ := ho.1.form
  subst hv
  have hlen : ss.length = (rbL fs n s to).length := by rw [ho.2.1, hrows, List.length_map]; exact (srtR_ok _).2.length_eq
  have hlen2 := rbL_len (fs := fs) (n := n) (s := s) (to := to) hn8 (by rw [HLF.out]; exact hm14)
  have HI := hid (indexFuncRS_any (c := c2) (cap := cap) (fun r => p r.2) w2 ho.sees (by omega) hcall (fun i s1 r w' h1 h2 hw' => by
    have hr : r ∈ rows := List.mem_of_getElem? h2
    obtain ⟨q, hq, hrq⟩ := List.mem_map.1 (hp.mem_iff.1 hr)
    obtain ⟨e1, ho2⟩ := ho.2.2.1 i s1 r h1 h2
    have e3 : r.1 = (s : Int) := by rw [← hrq]
    have e4 : r.2 = q := by rw [← hrq]
    obtain ⟨B, e5, hv, h5, _, hsee⟩ := (ho2.below hw').form
    unfold slV at hv
    injection hv with v1 v2 v3
    rw [e1, e3, v1, v2, v3]
    have hok := rbL_ok q hq
    rw [← e4] at hq hok
    exact HF.out w' B r.2 e5 ((bl_then hbl0 hb2).trans (hw'.mono (Nat.le_trans hbl0.size hb2.size))) hok.1 hok.2 hq h5 hsee))
  rw [hrows] at HI
  have hbl2 := bl_then hbl0 hb2
  have hS2 := hS.step hb2
  have HO := hid (hrows ▸ ho : OwnsRS w2 _ _ ss ((srtR fs (s : Int) (rbL fs n s to)).map fun r => ((s : Int), r)))
  have HP := hid hp
  clear hb2 hrows hpw ho hlen hp hS
  rcases findP_find (fun r : Int × List Int => p r.2) ((srtR fs (s : Int) (rbL fs n s to)).map fun r => ((s : Int), r)) with ⟨k, x, h1, h2, h3⟩ | ⟨h1, h2⟩
  · rw [h1] at HI
    rw [find_rows] at h3
    obtain ⟨q, hq, hqx⟩ := Option.map_eq_some_iff.1 h3
    have ho2 : o = some q := by rw [← HFR.out]; exact hq
    subst hqx
    have hkl : k < ss.length := by rw [HO.out.2.1]; exact (List.getElem?_eq_some_iff.1 h2).1
    obtain ⟨⟨s1, t1⟩, hsk⟩ : ∃ s1, ss[k]? = some s1 := ⟨ss[k], List.getElem?_eq_getElem hkl⟩
    obtain ⟨e1, how⟩ := HO.out.2.2.1 k (s1, t1) _ hsk h2
    simp only at e1 how
    subst e1
    obtain ⟨B, e5, hv, h5, _, _⟩ := how.form
    obtain ⟨tA, tn, tc⟩ := t1
    unfold slV at hv how
    injection hv with v1 v2 v3
    simp only at v1 v2 v3 how
    subst v1
    subst v2
    subst v3
    have HW := hid how
    have HH := hid (show frS o (s : Int) = (s : Int) ∧ frL o = q ∧ o.isSome = true by rw [ho2]; exact ⟨rfl, rfl, rfl⟩)
    clear h1 h2 h3 hq ho2 how HFR
    go_wp2_with fail
    refine HI.out.mono ?_
    rintro e w3 ⟨rfl, hb3⟩
    have hS3 := hS2.step hb3
    obtain ⟨gb, go, rfl, _, hc⟩ := (HO.out.below hb3).1.sees.at_ (k := k) hkl
    have f0 := hc k _ hsk 0 _ rfl
    have f1 := hc k _ hsk 1 _ rfl
    simp only [elRt, Nat.add_zero, slV] at f0 f1
    have q0 := hS3.cell 0 0 rfl rfl
    have q1 := hS3.cell 0 1 rfl rfl
    have z0 := hS3.frozen 0 0 rfl
    have z1 := hS3.frozen 0 1 rfl
    have hS4 := (hS3.set 0 rfl 0 (.int .i64 (s : Int))).set 0 rfl 1 (.slice tA q.length tc)
    have ik0 : ¬ ((k : Int) < 0) := by omega
    have ik1 : (0 : Int) ≤ (k : Int) := by omega
    have ik2 : (k : Int) < (ss.length : Int) := by omega
    have HZ := hid (bl_then hbl2 hb3)
    have HW3 := hid (HW.out.below hb3)
    have HS4 := hid hS4
    clear hc hS3 hS4 hS2 HI HO HF hb3 hsk hbl0 hbl2 HP
    go_wp2_with fail
    exact bodyPost_ret (v := .tuple #[.agg #[.int .i64 (s : Int), .slice tA q.length tc], .bool true]) (by simp [results, Tryz.results32, go_sem, q0, q1]) rfl
      ⟨tA, tc, by rw [HH.out.1, HH.out.2.1, HH.out.2.2], by rw [HH.out.2.1]; exact ((HW3.out.far (p := ⟨w.heap.size + 1, 0, none⟩) (by simp) _).far (p := ⟨w.heap.size + 1, 1, none⟩) (by simp) _).base (by simp; omega), HS4.out.bl⟩
  · rw [h1] at HI
    rw [find_rows] at h2
    have ho2 : o = none := by rw [← HFR.out]; exact Option.map_eq_none_iff.1 h2
    have HH := hid (show frS o (s : Int) = 0 ∧ frL o = [] ∧ o.isSome = false by rw [ho2]; exact ⟨rfl, rfl, rfl⟩)
    clear h1 h2 ho2 HFR
    go_wp2_with fail
    refine HI.out.mono ?_
    rintro e w3 ⟨rfl, hb3⟩
    have hS3 := hS2.step hb3
    have q0 := hS3.cell 0 0 rfl rfl
    have q1 := hS3.cell 0 1 rfl rfl
    have z0 := hS3.frozen 0 0 rfl
    have z1 := hS3.frozen 0 1 rfl
    have HS4 := hid ((hS3.set 0 rfl 0 (.int .i64 0)).set 0 rfl 1 (.slice none 0 0))
    clear hS3 hS2 HI HO HF hb3 hbl0 hbl2 HP
    go_wp2_with fail
    exact bodyPost_ret (v := .tuple #[.agg #[.int .i64 0, .slice none 0 0], .bool false]) (by simp [results, Tryz.results32, go_sem, q0, q1]) rfl
      ⟨none, 0, by rw [HH.out.1, HH.out.2.1, HH.out.2.2]; rfl, by rw [HH.out.2.1]; exact World.ownsRow_nil _ _ _ _, HS4.out.bl⟩
/-- ShortestRoute's answer. -/
def shB (xs : List ByteArray) (fs : List Fib) (f t : Int) : Bool := ((goodB xs fs && inB 0 ((xs.length : Int) - 1) f) && inB 0 ((xs.length : Int) - 1) t)
def shO (xs : List ByteArray) (fs : List Fib) (f t : Int) (p : List Int → Bool) : Option (List Int) := if mcB xs fs f t then frO fs xs.length f.toNat t.toNat p else none
theorem shO_len {xs : List ByteArray} {fs : List Fib} {f t : Int} {p : List Int → Bool} : (frL (shO xs fs f t p)).length ≤ 8 := by
  unfold shO
  cases g : mcB xs fs f t
  · exact Nat.zero_le _
  · have := (frO_ok (fs := fs) (n := xs.length) (s := f.toNat) (to := t.toNat) (p := p)).1
    have := goodB_bd (mcB_parts g).1
    rw [if_pos rfl]; omega
theorem shO_same {xs : List ByteArray} {fs : List Fib} {f t : Nat} {p : List Int → Bool} (h : shB xs fs (f : Int) (t : Int) = true) : frO fs xs.length f t p = shO xs fs (f : Int) (t : Int) p := by
  unfold shO
  cases g : mcB xs fs (f : Int) (t : Int)
  · have e : (f : Int) = (t : Int) := by
      unfold mcB at g
      unfold shB at h
      rw [h] at g
      simpa using g
    have e2 : f = t := by omega
    subst e2
    unfold frO rbL
    rw [if_pos rfl]
    rfl
  · rfl
end
end Go.Proofs.YtgoegldffjfmdaaGreat
/- ShortestRoute, FewestFibers of the reference, walked. Conditions: none. By shs.py. -/
namespace Go.Proofs.YtgoegldffjfmdaaGreat
open Go.RowKit
theorem l5O_av {wl : List Int} {fs : List Fib} {n s to : Nat} (he : endsB n fs) (hl : lensB fs) (hs : to < n) (hne : s ≠ to) : l5O wl false fs n s to = frO fs n s to (avQ (goneF wl)) := by
  unfold l5O frO rbL
  rw [bbL_eq he hl hs, rtsQ_filter _ _ _ _ rfl, best_first, if_neg hne]
theorem avQ_nil : avQ (goneF []) = fun _ => true := by
  funext r
  unfold avQ
  rw [List.all_eq_true]
  intro x _
  rw [goneF_nil]
  rfl
theorem l5O_short {fs : List Fib} {n s to : Nat} (he : endsB n fs) (hl : lensB fs) (hs : to < n) (hne : s ≠ to) : l5O [] false fs n s to = frO fs n s to (fun _ => true) := by
  rw [l5O_av he hl hs hne, avQ_nil]
theorem l5O_few {fs : List Fib} {n s to : Nat} (he : endsB n fs) (hl : lensB fs) (hs : to < n) (hne : s ≠ to) : l5O [] true fs n s to = mnO (srtR fs (s : Int) (rbL fs n s to)) := by
  unfold l5O rbL
  rw [bbL_eq he hl hs, rtsQ_filter _ _ _ _ rfl, avQ_nil, List.filter_eq_self.2 (fun _ _ => rfl), best_few, if_neg hne]
/-- FewestFibers' answer. -/
def feO (xs : List ByteArray) (fs : List Fib) (f t : Int) : Option (List Int) := if mcB xs fs f t then mnO (srtR fs f (rbL fs xs.length f.toNat t.toNat)) else none
section
variable {n c m d : Nat} {A A' : Option Addr} {xs : List ByteArray} {fs : List Fib}
end
end Go.Proofs.YtgoegldffjfmdaaGreat
/- slices.Sort and slices.Compact of numbers, by the library's contracts, in the words of the ledger. Conditions: at most 1048576 numbers. -/
namespace Go.Proofs.YtgoegldffjfmdaaGreat
open Go.RowKit
section
variable {w : World} {g : Nat} {e : TypeId} {cur : Array Value}
theorem blk_put (h : Blk w g e cur) (d : Array Int) : Blk (Go.Sort.putRow (Value.int .i64) w g 0 d) g e (Go.Sort.putCells (Value.int .i64) 0 d cur) := by
  unfold Blk at h ⊢
  simp [Go.Sort.putRow, Go.Sort.mapBlock, Array.getElem?_modify, h, Go.Sort.onCells]
theorem touch_put (w : World) (g : Nat) (d : Array Int) : Touch (fun b => b = g) w (Go.Sort.putRow (Value.int .i64) w g 0 d) :=
  ⟨rfl, rfl, rfl, by simp [Go.Sort.putRow, Go.Sort.mapBlock], fun k _ hn => by simp [Go.Sort.putRow, Go.Sort.mapBlock, Array.getElem?_modify, show ¬ g = k from fun e => hn e.symm]⟩
theorem below_grow (w : World) (os : Array Obj) : Below w.heap.size w (Go.Sort.grow w os) :=
  ⟨rfl, rfl, rfl, by simp [Go.Sort.grow], fun k hk => by simp [Go.Sort.grow, Array.getElem?_append_left hk]⟩
theorem below_ahead (w : World) (n : Nat) : Below w.heap.size w (Go.Sort.ahead w n) := ⟨rfl, rfl, rfl, Nat.le_refl _, fun _ _ => rfl⟩
theorem filled_put {xs : List Int} {cur : Array Value} (hs : xs.length ≤ cur.size) : Filled elInt (Go.Sort.putCells (Value.int .i64) 0 xs.toArray cur) xs xs.length := by
  intro j x hj hx i u hu
  have hu' : [Value.int .i64 x][i]? = some u := hu
  match i, hu' with
  | 0, hu' =>
    simp at hu'; subst hu'
    have e : j * elInt.sz + 0 = j := by show j * 1 + 0 = j; omega
    rw [e]
    have hjc : j < cur.size := by omega
    simp [Go.Sort.putCells, Array.getElem?_mapIdx, Array.getElem?_eq_getElem hjc, hj]
    have := List.getElem?_eq_some_iff.1 hx
    obtain ⟨h1, h2⟩ := this
    simp [h2]
  | i + 1, hu' => simp at hu'
end
section
variable {w0 w : World} {L : List Thing}
theorem Led.holds (h : Led w0 w L) (i : Nat) {base g c n : Nat} {xs : List Int} (hi : L[i]? = some (tOwns elInt base 3 (.slice (some ⟨g, 0, none⟩) n c) xs)) : Go.Sort.Holds (Value.int .i64) w g 0 xs.toArray := by
  intro j hj
  have hj' : j < xs.length := by simpa using hj
  refine ⟨?_, by rw [Nat.zero_add]; exact h.int_free i hi j⟩
  rw [Nat.zero_add, h.int_at i hi hj']
  unfold valL
  simp [hj']
/-- A row that is laid over in place. -/
theorem Led.relaid (h : Led w0 w L) (i : Nat) {base g c n : Nat} {xs ys : List Int} (hi : L[i]? = some (tOwns elInt base 3 (.slice (some ⟨g, 0, none⟩) n c) xs)) (hl : ys.length = xs.length) (q : Nat) (os : Array Obj) (k : Nat) (hk : k ≤ ys.length) :
    Led w0 (Go.Sort.grow (Go.Sort.putRow (Value.int .i64) (Go.Sort.ahead w q) g 0 ys.toArray) os) (L.set i (tOwns elInt base 3 (.slice (some ⟨g, 0, none⟩) k c) (ys.take k))) := by
  have h1 := h.step (below_ahead w q)
  have ho := h1.own i hi
  rcases Owns.cases ho with ⟨h0, _⟩ | ⟨g1, c1, cur, hv, hbase, hb, hnc, hcm, hs, hf⟩
  · cases h0
  · injection hv with e1 e2 e3
    injection e1 with e1
    injection e1 with e1
    subst e1
    subst e3
    have hs' : cur.size = c := by rw [hs]; show c * 1 = c; omega
    have hfl := filled_put (xs := ys) (cur := cur) (by omega)
    have hown : Owns elInt (Go.Sort.putRow (Value.int .i64) (Go.Sort.ahead w q) g 0 ys.toArray) base 3 (.slice (some ⟨g, 0, none⟩) k c) (ys.take k) := by
      refine Owns.of_blk (blk_put hb _) hbase (by simp; omega) (by omega) (by simp [Go.Sort.putCells, hs]) hcm (fun j x hj hx i u hu => hfl j x (by omega) ?_ i u hu)
      rw [List.getElem?_take, if_pos hj] at hx
      exact hx
    have h2 := h1.regrow i hi (t' := tOwns elInt base 3 (.slice (some ⟨g, 0, none⟩) k c) (ys.take k)) ((touch_put (Go.Sort.ahead w q) g ys.toArray).mono (fun b hb => by subst hb; rfl)) (fun b hb => .inl hb) hown
    exact h2.step (below_grow _ os)
theorem sort_led (h : Led w0 w L) (i : Nat) {base : Nat} {v : Value} {xs : List Int} (hi : L[i]? = some (tOwns elInt base 3 v xs)) (hn : xs.length ≤ 1048576) :
    Calls Tryz.prog 64 #[v] w fun e w' => e = .returned (.tuple #[]) ∧ Led w0 w' (L.set i (tOwns elInt base 3 v (xs.mergeSort fun x y => decide (x ≤ y)))) := by
  rcases Owns.cases (h.own i hi) with ⟨rfl, rfl⟩ | ⟨g, c, cur, rfl, _⟩
  · refine (Tryz.slices_Sort_int_none _ _ w).mono ?_
    rintro e w' ⟨rfl, rfl⟩
    refine ⟨rfl, ?_⟩
    have e : L.set i (tOwns elInt base 3 (.slice none 0 0) (([] : List Int).mergeSort fun x y => decide (x ≤ y))) = L := by
      rw [List.mergeSort_nil]
      apply List.ext_getElem?
      intro j
      rw [List.getElem?_set]
      split
      · rename_i e; subst e
        rw [hi]; simp [(List.getElem?_eq_some_iff.1 hi).1]
      · rfl
    rw [e]; exact h
  · refine (Tryz.slices_Sort_int g 0 c xs w (h.holds i hi) ?_ (by omega)).mono ?_
    · exact ((h.own i hi).lies g rfl).2
    · rintro e w' ⟨rfl, q, os, rfl⟩
      have hl : (xs.mergeSort fun x y => decide (x ≤ y)).length = xs.length := List.length_mergeSort _
      have h1 := h.relaid i hi hl q os xs.length (by omega)
      rw [List.take_of_length_le (by omega)] at h1
      exact ⟨rfl, h1⟩
theorem compact_led (h : Led w0 w L) (i : Nat) {base n c : Nat} {A : Option Addr} {xs : List Int} (hi : L[i]? = some (tOwns elInt base 3 (.slice A n c) xs)) (hn : xs.length ≤ 1048576) :
    Calls Tryz.prog 65 #[.slice A n c] w fun e w' => e = .returned (.slice A (Lib.compact xs).length c) ∧ Led w0 w' (L.set i (tOwns elInt base 3 (.slice A (Lib.compact xs).length c) (Lib.compact xs))) := by
  rcases Owns.cases (h.own i hi) with ⟨hv, rfl⟩ | ⟨g, c1, cur, hv, _, _, hnc, _⟩
  · injection hv with e1 e2 e3
    subst e1 e2 e3
    refine (Tryz.slices_Compact_int_empty none 0 w).mono ?_
    rintro e w' ⟨rfl, rfl⟩
    refine ⟨rfl, ?_⟩
    have e : L.set i (tOwns elInt base 3 (.slice none (Lib.compact ([] : List Int)).length 0) (Lib.compact ([] : List Int))) = L := by
      apply List.ext_getElem?
      intro j
      rw [List.getElem?_set]
      split
      · rename_i e; subst e
        rw [hi, show Lib.compact ([] : List Int) = [] from by decide]; simp [(List.getElem?_eq_some_iff.1 hi).1]
      · rfl
    rw [e]; exact h
  · injection hv with e1 e2 e3
    subst e1 e2 e3
    refine (Tryz.slices_Compact_int g 0 c xs w (h.holds i hi) (by omega) hnc).mono ?_
    rintro e w' ⟨rfl, q, rfl⟩
    have hle := Lib.compact_length_le xs
    have h1 := h.relaid i hi (ys := Lib.compact xs ++ List.replicate (xs.length - (Lib.compact xs).length) 0) (by simp; omega) q #[] (Lib.compact xs).length (by simp)
    rw [List.take_left, Go.Sort.grow_empty] at h1
    exact ⟨rfl, h1⟩
end
end Go.Proofs.YtgoegldffjfmdaaGreat
/- What two lists have in common: impl.common walked. Conditions: at most 1048576 numbers. -/
namespace Go.Proofs.YtgoegldffjfmdaaGreat
open Go.RowKit
/-- Those of the first k numbers of a that b has. -/
def comTo (a b : List Int) (k : Nat) : List Int := (a.take k).filter fun x => hasB b x
theorem comTo_zero (a b : List Int) : comTo a b 0 = [] := by simp [comTo]
theorem comTo_yes {a b : List Int} {k : Nat} {x : Int} (hx : a[k]? = some x) (h : hasB b x = true) : comTo a b (k + 1) = comTo a b k ++ [x] := by
  simp [comTo, List.take_add_one, hx, List.filter_append, h]
theorem comTo_no {a b : List Int} {k : Nat} {x : Int} (hx : a[k]? = some x) (h : hasB b x = false) : comTo a b (k + 1) = comTo a b k := by
  simp [comTo, List.take_add_one, hx, List.filter_append, h]
theorem comTo_len (a b : List Int) (k : Nat) : (comTo a b k).length ≤ k := by
  have h1 := List.length_filter_le (fun x => hasB b x) (a.take k)
  have h2 : (a.take k).length ≤ k := by simp; omega
  unfold comTo; omega
theorem comTo_all {a b : List Int} {n : Nat} (h : a.length = n) : Lib.compact ((comTo a b n).mergeSort fun x y => decide (x ≤ y)) = comL a b := by
  unfold comTo comL
  rw [List.take_of_length_le (by omega)]
section
variable {n m ca cb B C : Nat} {A D : Option Addr} {a b : List Int}
set_option maxHeartbeats 2000000 in
set_option maxRecDepth 100000 in
theorem common_any (w : World) (ha : Sees elInt w B A n a) (hb : Sees elInt w C D m b) (hn : n ≤ 1048576) (hm : m ≤ 1048576) :
    Calls Tryz.prog 34 #[.slice A n ca, .slice D m cb] w fun e w' => ∃ v, e = .returned v ∧ Owns elInt w' w.heap.size 3 v (comL a b) ∧ Below w.heap.size w w' := by
  have hS := (Led.nil w).empty elInt 3 w.heap.size rfl w.heap.size (Nat.le_refl _)
  rw [← comTo_zero a b] at hS
  have HS := hid hS
  have HA := hid ha
  have HB := hid hb
  have HL := hid ha.len
  obtain ⟨i0, hi, hz0, hz1, hz2⟩ := info_parts int_info
  clear hS ha hb
  go_enter Tryz.func34, Tryz.ntmps34
  go_wp2_with fail
  go_loopw [5, 11] (fun v i wr => ∃ k : Nat, k ≤ n ∧ i = .int .i64 k ∧ Hid (Led w wr [tOwns elInt w.heap.size 3 v (comTo a b k)])) (fun _ i _ => n - (intOf i).toNat)
  case atStart => exact ⟨0, Nat.zero_le _, rfl, HS⟩
  case round =>
    clear HS
    obtain ⟨k, hk, rfl, HS⟩ := hrel
    obtain ⟨A1, c1, rfl, _⟩ := HS.out.form 0 rfl
    by_cases hlt : k < n
    · obtain ⟨g, o, rfl, _, hx⟩ := HA.out.at_ hlt
      obtain ⟨x, hxk⟩ := get_of (k := k) HL.out hlt
      have f0 := bl_cell HS.out.bl (hx k x hxk 0 _ rfl)
      simp only [elInt, Nat.mul_one, Nat.add_zero] at f0
      have hll := comTo_len a b k
      have HX := hid hxk
      clear hx hxk
      go_wp2_with fail
      refine (containsI_any x _ (HB.out.grow HS.out.bl) (by unfold maxLen; omega)).mono ?_
      rintro e w5 ⟨rfl, rfl⟩
      cases gk : hasB b x
      · have HN := hid (comTo_no HX.out gk)
        clear HX f0
        go_wp2
        exact ⟨⟨k + 1, by omega, by go_num, by rw [HN.out]; exact HS⟩, by simp [intOf]; omega⟩
      · have HN := hid (comTo_yes HX.out gk)
        have HS2 := hid (HS.out.blk_ wr.heap.size rfl 3 #[.int .i64 x])
        clear HX f0 HS
        go_wp2_with (first
          | (at_builtin; refine wpList_append_led rfl _ _ 26 rfl HS2.out 1 rfl Tryz.underlying26 hi hz0 hz1 (by rw [hz2]; decide) rfl rfl rfl (show Sees elInt _ _ _ 1 [x] from sees_new elInt _ _ _ _ rfl) (by omega) HS2.out.bl.size ?_)
          | go_in)
        intro A2 c2 w7 hS5
        have hS6 := hid (hS5.drop 1)
        clear HS2 hS5
        go_wp2
        go_roundw
        case rel => exact ⟨k + 1, by omega, by go_num, by rw [HN.out]; exact hS6⟩
        case measure => simp [intOf]; omega
    · have hkn : n = k := by omega
      subst hkn
      have hll := comTo_len a b n
      have HE := hid (comTo_all (b := b) HL.out)
      clear hlt
      go_wp2_with fail
      refine (sort_led HS.out 0 rfl (by omega)).mono ?_
      rintro e w2 ⟨rfl, h2⟩
      have hl2 : ((comTo a b n).mergeSort fun x y => decide (x ≤ y)).length = (comTo a b n).length := List.length_mergeSort _
      have H2 := hid h2
      clear h2 HS
      go_wp2_with fail
      refine (compact_led H2.out 0 (by rw [← hl2]; rfl) (by omega)).mono ?_
      rintro e w3 ⟨rfl, h3⟩
      have H3 := hid h3
      clear h3 H2
      go_wp2
      go_ret
      exact ⟨_, rfl, by rw [← HE.out]; exact H3.out.own 0 rfl, H3.out.bl⟩
end
end Go.Proofs.YtgoegldffjfmdaaGreat
