/- Lemmas and walks that the claim rests on, laid together. Conditions: none. -/
import Derived.Test.YtfepilpllfiegaaZca6a11a8a0df
import Derived.Test.YtfepilpllfiegaaZ76d3d4a5ee99
import Derived.Test.YtfepilpllfiegaaZ1096401160fd
import Derived.Test.YtfepilpllfiegaaZc3e33f13110d
import Derived.Deep.RegionHeld3
/- Small functions of the laws, walked: a number held in a list, equal lists and routes and networks, nodes apart, a list without one place. Conditions: as each states. -/
namespace Go.Proofs.Ytfepilpllfiegaa
open Go.RowKit
section
variable {α : Type} {A A' : Option Addr} {n c c' : Nat} {xs : List Int} {B B' : Nat}
set_option maxRecDepth 100000 in
theorem vHas_any (s : Int) (w : World) (hA : Sees elInt w B A n xs) (hn : n ≤ maxLen) :
    Calls Try.prog 21 #[.slice A n c, .int .i64 s] w fun e w' => e = .returned (.bool (hasB xs s)) ∧ w = w' := by
  unfold maxLen at hn
  go_enter Try.func21, Try.ntmps21
  go_wp2
  go_loop [5] (fun i => ∃ k : Nat, k ≤ n ∧ i = .int .i64 k ∧ Hid (noneTo xs s k)) (fun i => n - (intOf i).toNat)
  case atStart => exact ⟨0, Nat.zero_le _, rfl, noneTo_zero⟩
  case round =>
    obtain ⟨k, hk, rfl, hno⟩ := hrel
    by_cases hlt : k < n
    · obtain ⟨b, o, rfl, _, hx⟩ := hA.at_ hlt
      obtain ⟨x, hxk⟩ : ∃ x, xs[k]? = some x := ⟨xs[k]'(by rw [hA.len]; exact hlt), List.getElem?_eq_getElem _⟩
      have hc := hx k x hxk 0 _ rfl
      simp only [elInt, Nat.mul_one, Nat.add_zero] at hc
      clear hx
      by_cases heq : x = s
      · subst heq
        have HF : Hid (hasB xs x = true) := hasB_iff.2 (List.mem_of_getElem? hxk)
        clear hxk
        go_wp2
        go_ret
        exact ⟨by rw [HF.out]; rfl, rfl⟩
      · have hne : (x == s) = false := by simp; exact heq
        have HN := hid (noneTo_succ hno hxk heq)
        clear hxk hno
        go_wp2
        go_round
        case rel => exact ⟨k + 1, by omega, by go_num, HN⟩
        case measure => simp [intOf]; omega
    · have HF : Hid (hasB xs s = false) := by
        unfold Hid
        cases g : hasB xs s
        · rfl
        · exact absurd (hasB_iff.1 g) (noneTo_not hA.len (by obtain rfl : k = n := (by omega); exact hno.out))
      go_wp2
      go_ret
      exact ⟨by rw [HF.out]; rfl, rfl⟩
set_option maxRecDepth 100000 in
theorem vInts_same (w : World) (hA : Sees elInt w B A n xs) (hA' : Sees elInt w B' A' n xs) (hn : n ≤ 1048576) :
    Calls Try.prog 20 #[.slice A n c, .slice A' n c'] w fun e w' => e = .returned (.bool true) ∧ Below w.heap.size w w' := by
  go_enter Try.func20, Try.ntmps20
  go_wp2
  go_loopw [5] (fun i wr => ∃ k q : Nat, k ≤ n ∧ i = .int .i64 k ∧ wr = w.drewN q) (fun i _ => n - (intOf i).toNat)
  case atStart => exact ⟨0, 0, Nat.zero_le _, rfl, rfl⟩
  case round =>
    obtain ⟨k, q, hk, rfl, rfl⟩ := hrel
    by_cases hlt : k < n
    · obtain ⟨b, o, rfl, _, hc⟩ := hA.at_ hlt
      obtain ⟨b', o', rfl, _, hc'⟩ := hA'.at_ hlt
      obtain ⟨x, hxk⟩ : ∃ x, xs[k]? = some x := ⟨xs[k]'(by rw [hA.len]; exact hlt), List.getElem?_eq_getElem _⟩
      have h1 := hc k x hxk 0 _ rfl
      have h2 := hc' k x hxk 0 _ rfl
      simp only [elInt, Nat.mul_one, Nat.add_zero] at h1 h2
      clear hc hc' hxk
      have i1 : (k : Int) < (n : Int) := by omega
      go_wp2
      go_quiet (fail)
      go_wp2
      go_roundw
      case rel => exact ⟨k + 1, _, by omega, by go_num, rfl⟩
      case measure => simp [intOf]; omega
    · go_wp2
      go_ret
      exact ⟨rfl, bl_drewN (Below.refl _ _) _⟩
set_option maxHeartbeats 1000000 in
set_option maxRecDepth 100000 in
theorem vRoutes_same {B B' e1 e2 k : Nat} {R R2 : Option Addr} {ids : List Int} (s : Int) (w : World) (h1 : Sees elInt w B R k ids) (h2 : Sees elInt w B' R2 k ids) (hk : k ≤ 1048576) (hB : B ≤ w.heap.size) (hB' : B' ≤ w.heap.size) :
    Calls Try.prog 14 #[.agg #[.int .i64 s, .slice R k e1], .agg #[.int .i64 s, .slice R2 k e2]] w fun e w' => e = .returned (.bool true) ∧ Below w.heap.size w w' := by
  have hb0 : Below w.heap.size w ((w.alloc (.cells #[.int .i64 s, .slice R k e1] 35)).alloc (.cells #[.int .i64 s, .slice R2 k e2] 35)) := bl_alloc (bl_alloc (Below.refl _ _) _) _
  have k1 := (h1.more hB).grow hb0
  have k2 := (h2.more hB').grow hb0
  go_enter Try.func14, Try.ntmps14
  go_wp2_with fail
  refine (vInts_same _ k1 k2 hk).mono ?_
  rintro e w1 ⟨rfl, hb⟩
  have HB := hid (bl_then hb0 hb)
  clear hb k1 k2 hb0
  go_wp2_with fail
  go_ret
  exact ⟨rfl, HB.out⟩
set_option maxHeartbeats 1000000 in
set_option maxRecDepth 100000 in
theorem rApart_any {m d c2 : Nat} {V E : Option Addr} {xs : List ByteArray} {fs : List Fib} {l : List Int} (a b : Nat) (w : World) (h : NetIs w A n c E m d xs fs) (hv : Sees elInt w w.heap.size V l.length l) (hl : l.length ≤ 1048576) (hco : coB xs fs l = true) (ha : a < n) (hb : b < n) :
    Calls Try.prog 22 #[.agg #[.slice A n c, .slice E m d], .slice V l.length c2, .int .i64 (a : Int), .int .i64 (b : Int)] w fun e w' => e = .returned (.bool (decide (valL (compL (goneF l) fs n) a ≠ valL (compL (goneF l) fs n) b))) ∧ Below w.heap.size w w' := by
  have hb0 := bl_alloc (Below.refl w.heap.size w) (.cells #[.slice A n c, .slice E m d] 27)
  have HC := hid (implComponentsOf (c' := c2) _ (h.grow hb0) ((hv.grow hb0).more hb0.size) hl)
  have HB0 := hid hb0
  rw [hco] at HC
  have hL : coL xs fs l = compL (goneF l) fs n := by unfold coL; rw [hco, h.xlen]; rfl
  have hg : goodB xs fs = true := by unfold coB at hco; rw [Bool.and_eq_true] at hco; exact hco.1
  have hlen : (compL (goneF l) fs n).length = n := compL_len
  have hn8 := (goodB_bd hg).2.1
  rw [h.xlen] at hn8
  rw [hL] at HC
  obtain ⟨L, hLL⟩ : ∃ L, L = compL (goneF l) fs n := ⟨_, rfl⟩
  rw [← hLL] at HC hlen
  rw [← hLL]
  have HLEN := hid hlen
  clear h hv hco hL hLL hb0 hlen hg
  go_enter Try.func22, Try.ntmps22
  go_wp2_with fail
  refine HC.out.mono ?_
  rintro e w1 ⟨v, rfl, ho, hb1⟩
  have hS := (Led.nil w).owns_ (b0 := w.heap.size) (bl_then HB0.out hb1) ho (by simp) (by simp)
  obtain ⟨g, cc, rfl⟩ := hS.row_ 0 rfl HLEN.out (by omega)
  have va := hS.int_at 0 rfl (j := a) (by rw [HLEN.out]; exact ha)
  have vb := hS.int_at 0 rfl (j := b) (by rw [HLEN.out]; exact hb)
  have CA : ∀ w', Cls w1 w' → w'.cell? ⟨g, a, none⟩ = some (.int .i64 (valL L a)) := fun _ h => h.cell va
  have CB : ∀ w', Cls w1 w' → w'.cell? ⟨g, b, none⟩ = some (.int .i64 (valL L b)) := fun _ h => h.cell vb
  obtain ⟨x, hx⟩ : ∃ x, valL L a = x := ⟨_, rfl⟩
  obtain ⟨y, hy⟩ : ∃ y, valL L b = y := ⟨_, rfl⟩
  rw [hx] at va CA
  rw [hy] at vb CB
  have HXA := hid hx
  have HYB := hid hy
  have HS := hid hS.bl
  have hla : (a : Int) < (n : Int) := by omega
  have hlb : (b : Int) < (n : Int) := by omega
  have hla0 : (0 : Int) ≤ (a : Int) := by omega
  have hlb0 : (0 : Int) ≤ (b : Int) := by omega
  have HX : Hid ((x != y) = decide (x ≠ y)) := by
    unfold Hid
    by_cases e : x = y
    · subst e; simp
    · simp [e]
  clear hS va vb ho hb1 HC hx hy
  go_wp2_with fail
  refine region_cls (by kernel_rfl) (by kernel_rfl) ?_
  repeat (first
    | ((with_reducible refine quiet_pos ?_ (fun K hK => ?_))
       · rfl
       apply Exists.intro
       refine ⟨fun w' hw' => ?_, ?_⟩
       · go_simp
         with_reducible rfl
       simp only [Act.put, List.setIfInBounds_toArray, List.set_cons_zero, List.set_cons_succ]
       refine hK _ ?_; clear hK K)
    | ((with_reducible refine quiet_neg ?_ (fun K hK => ?_))
       · rfl
       simp only [Act.put, List.setIfInBounds_toArray, List.set_cons_zero, List.set_cons_succ]
       refine hK _ ?_; clear hK K))
  with_reducible refine wpQuiet_nil ?_
  intro wz hwz'
  go_wp2_with fail
  go_ret
  exact ⟨ret_bool (by rw [HX.out, HXA.out, HYB.out]), bl_then HS.out hwz'⟩

set_option maxHeartbeats 1000000 in
set_option maxRecDepth 100000 in
theorem vNetworks_same {B B' m d d' : Nat} {E E' : Option Addr} {xs : List ByteArray} {fs : List Fib} (w : World) (hA : Sees elStr w B A n xs) (hA' : Sees elStr w B' A' n xs) (hF : Sees elFib w B E m fs) (hF' : Sees elFib w B' E' m fs)
    (hB : B ≤ w.heap.size) (hB' : B' ≤ w.heap.size) (hn : n ≤ 1048576) (hm : m ≤ 1048576) :
    Calls Try.prog 52 #[.agg #[.slice A n c, .slice E m d], .agg #[.slice A' n c', .slice E' m d']] w fun e w' => e = .returned (.bool true) ∧ Below w.heap.size w w' := by
  have hS := ((Led.nil w).blk_ w.heap.size rfl 27 #[.slice A n c, .slice E m d]).blk_ (w.heap.size + 1) (by simp) 27 #[.slice A' n c', .slice E' m d']
  have HS := hid hS
  replace hA := hid (hA.more hB)
  replace hA' := hid (hA'.more hB')
  replace hF := hid (hF.more hB)
  replace hF' := hid (hF'.more hB')
  clear hS
  go_enter Try.func52, Try.ntmps52
  go_wp2_with fail
  go_loopw [5] (fun i wr => ∃ k : Nat, k ≤ n ∧ i = .int .i64 k ∧ Hid (Led w wr [tBlk (w.heap.size + 1) 27 #[.slice A' n c', .slice E' m d'], tBlk w.heap.size 27 #[.slice A n c, .slice E m d]])) (fun i _ => n - (intOf i).toNat)
  case atStart => exact ⟨0, Nat.zero_le _, rfl, HS⟩
  case round =>
    clear HS
    obtain ⟨k, hk, rfl, HS⟩ := hrel
    have p0 := HS.out.cell 1 0 rfl rfl
    have D0 : ∀ w', Cls wr w' → w'.cell? ⟨w.heap.size, 0, none⟩ = some (.slice A n c) := fun _ h => h.cell (HS.out.cell 1 0 rfl rfl)
    have D1 : ∀ w', Cls wr w' → w'.cell? ⟨w.heap.size + 1, 0, none⟩ = some (.slice A' n c') := fun _ h => h.cell (HS.out.cell 0 0 rfl rfl)
    by_cases hlt : k < n
    · obtain ⟨b, o, rfl, _, hc⟩ := (hA.out.grow HS.out.bl).at_ hlt
      obtain ⟨b', o', rfl, _, hc'⟩ := (hA'.out.grow HS.out.bl).at_ hlt
      obtain ⟨x, hxk⟩ := get_of (k := k) hA.out.len hlt
      have f0 := hc k x hxk 0 _ rfl
      have f1 := hc' k x hxk 0 _ rfl
      simp only [elStr, Nat.mul_one, Nat.add_zero] at f0 f1
      have F0 : ∀ w', Cls wr w' → w'.cell? ⟨b, o + k, none⟩ = some (.string x) := fun _ h => h.cell f0
      have F1 : ∀ w', Cls wr w' → w'.cell? ⟨b', o' + k, none⟩ = some (.string x) := fun _ h => h.cell f1
      have iz : (k : Int) < (n : Int) := by omega
      have ie : (x.toList == x.toList) = true := beq_self_eq_true _
      clear hc hc' f0 f1 hxk
      go_wp2_with fail
      refine region_cls (by kernel_rfl) (by kernel_rfl) ?_
      repeat (first
        | ((with_reducible refine quiet_pos ?_ (fun K hK => ?_))
           · rfl
           apply Exists.intro
           refine ⟨fun w' hw' => ?_, ?_⟩
           · go_simp
             with_reducible rfl
           simp only [Act.put, List.setIfInBounds_toArray, List.set_cons_zero, List.set_cons_succ]
           refine hK _ ?_; clear hK K)
        | ((with_reducible refine quiet_neg ?_ (fun K hK => ?_))
           · rfl
           simp only [Act.put, List.setIfInBounds_toArray, List.set_cons_zero, List.set_cons_succ]
           refine hK _ ?_; clear hK K))
      with_reducible refine wpQuiet_nil ?_
      intro wz hwz'
      have HS1 := hid (HS.out.step hwz')
      clear HS D0 D1 F0 F1 hwz' p0
      go_wp2
      go_roundw
      case rel => exact ⟨k + 1, by omega, by go_num, HS1⟩
      case measure => simp [intOf]; omega
    · have iz : ¬ ((k : Int) < (n : Int)) := by omega
      clear D0 D1
      go_wp2_with fail
      go_loopw [6] (fun i wr => ∃ k : Nat, k ≤ m ∧ i = .int .i64 k ∧ Hid (Led w wr [tBlk (w.heap.size + 1) 27 #[.slice A' n c', .slice E' m d'], tBlk w.heap.size 27 #[.slice A n c, .slice E m d]])) (fun i _ => m - (intOf i).toNat)
      case atStart => exact ⟨0, Nat.zero_le _, rfl, HS⟩
      case round =>
        clear HS p0
        obtain ⟨k, hk, rfl, HS⟩ := hrel
        have p0 := HS.out.cell 1 1 rfl rfl
        have D0 : ∀ w', Cls wr w' → w'.cell? ⟨w.heap.size, 1, none⟩ = some (.slice E m d) := fun _ h => h.cell (HS.out.cell 1 1 rfl rfl)
        have D1 : ∀ w', Cls wr w' → w'.cell? ⟨w.heap.size + 1, 1, none⟩ = some (.slice E' m d') := fun _ h => h.cell (HS.out.cell 0 1 rfl rfl)
        by_cases hlt : k < m
        · obtain ⟨b, o, rfl, _, hc⟩ := (hF.out.grow HS.out.bl).at_ hlt
          obtain ⟨b', o', rfl, _, hc'⟩ := (hF'.out.grow HS.out.bl).at_ hlt
          obtain ⟨f, hfk⟩ := get_of (k := k) hF.out.len hlt
          have T0 : ∀ w', Cls wr w' → w'.cell? ⟨b, o + k * 4, none⟩ = some (.int .i64 f.a) := fun _ h => h.cell (hc k f hfk 0 _ rfl)
          have T1 : ∀ w', Cls wr w' → w'.cell? ⟨b, o + k * 4 + 1, none⟩ = some (.int .i64 f.b) := fun _ h => h.cell (hc k f hfk 1 _ rfl)
          have T2 : ∀ w', Cls wr w' → w'.cell? ⟨b, o + k * 4 + 2, none⟩ = some (.int .i64 f.len) := fun _ h => h.cell (hc k f hfk 2 _ rfl)
          have T3 : ∀ w', Cls wr w' → w'.cell? ⟨b, o + k * 4 + 3, none⟩ = some (.int .i64 f.risk) := fun _ h => h.cell (hc k f hfk 3 _ rfl)
          have S0 : ∀ w', Cls wr w' → w'.cell? ⟨b', o' + k * 4, none⟩ = some (.int .i64 f.a) := fun _ h => h.cell (hc' k f hfk 0 _ rfl)
          have S1 : ∀ w', Cls wr w' → w'.cell? ⟨b', o' + k * 4 + 1, none⟩ = some (.int .i64 f.b) := fun _ h => h.cell (hc' k f hfk 1 _ rfl)
          have S2 : ∀ w', Cls wr w' → w'.cell? ⟨b', o' + k * 4 + 2, none⟩ = some (.int .i64 f.len) := fun _ h => h.cell (hc' k f hfk 2 _ rfl)
          have S3 : ∀ w', Cls wr w' → w'.cell? ⟨b', o' + k * 4 + 3, none⟩ = some (.int .i64 f.risk) := fun _ h => h.cell (hc' k f hfk 3 _ rfl)
          have iz : (k : Int) < (m : Int) := by omega
          clear hc hc' hfk
          go_wp2_with fail
          refine region_cls (by kernel_rfl) (by kernel_rfl) ?_
          repeat (first
            | ((with_reducible refine quiet_pos ?_ (fun K hK => ?_))
               · rfl
               apply Exists.intro
               refine ⟨fun w' hw' => ?_, ?_⟩
               · go_simp
                 with_reducible rfl
               simp only [Act.put, List.setIfInBounds_toArray, List.set_cons_zero, List.set_cons_succ]
               refine hK _ ?_; clear hK K)
            | ((with_reducible refine quiet_neg ?_ (fun K hK => ?_))
               · rfl
               simp only [Act.put, List.setIfInBounds_toArray, List.set_cons_zero, List.set_cons_succ]
               refine hK _ ?_; clear hK K))
          with_reducible refine wpQuiet_nil ?_
          intro wz hwz'
          have HS1 := hid (HS.out.step hwz')
          clear HS D0 D1 T0 T1 T2 T3 S0 S1 S2 S3 hwz' p0
          go_wp2
          go_roundw
          case rel => exact ⟨k + 1, by omega, by go_num, HS1⟩
          case measure => simp [intOf]; omega
        · have iz : ¬ ((k : Int) < (m : Int)) := by omega
          clear D0 D1
          go_wp2
          go_ret
          exact ⟨rfl, HS.out.bl⟩

theorem Sees.backG {α : Type} {E : El α} {w : World} {B b o n k : Nat} {l : List α} (h : Sees E w B (some ⟨b, o, none⟩) n l) (hz : E.sz = 1) (hk : k ≤ n) : Sees E w B (some ⟨b, o + k, none⟩) (n - k) (l.drop k) := by
  refine ⟨by rw [List.length_drop, h.1], ?_⟩
  rcases h.2 with h0 | ⟨b', o', e, hb, hc⟩
  · exact .inl (by omega)
  · injection e with e
    injection e with e1 e2
    subst e1 e2
    refine .inr ⟨b, _, rfl, hb, fun j x hx i u hu => ?_⟩
    rw [List.getElem?_drop] at hx
    have h1 := hc (k + j) x hx i u hu
    rw [hz] at h1 ⊢
    have e : o + (k + j) * 1 + i = o + k + j * 1 + i := by omega
    rw [← e]; exact h1
set_option maxHeartbeats 1000000 in
set_option maxRecDepth 100000 in
theorem rWithout_any {i : Nat} (w : World) (hA : Sees elInt w w.heap.size A n xs) (hnc : n ≤ c) (hn : n ≤ 1048576) (hi : i < n) :
    Calls Try.prog 31 #[.slice A n c, .int .i64 (i : Int)] w fun e w' => ∃ A1 c1, e = .returned (.slice A1 (n - 1) c1) ∧ Owns elInt w' w.heap.size 3 (.slice A1 (n - 1) c1) (xs.take i ++ xs.drop (i + 1)) ∧ Below w.heap.size w w' := by
  obtain ⟨j0, hj, hy0, hy1, hy2⟩ := info_parts int_info
  have HN := hid hA
  have hlf := hA.len
  obtain ⟨b, o, rfl, -, -⟩ := hA.at_ hi
  have hW := Led.nil w
  obtain ⟨q, hq⟩ : ∃ q, q = i + 1 := ⟨_, rfl⟩
  have i0 : (0 : Int) ≤ (i : Int) := by omega
  have i1 : (i : Int) ≤ (n : Int) := by omega
  have i2 : (q : Int) ≤ (n : Int) := by omega
  have i3 : (0 : Int) ≤ (q : Int) := by omega
  have i4 : (i : Int) ≤ (c : Int) := by omega
  have i5 : (q : Int) ≤ (c : Int) := by omega
  have iw : IntKind.i64.wrap ((i : Int) + 1) = (q : Int) := by rw [IntWalk.i64_in _ (by omega)]; omega
  have hnc2 : (n : Int) ≤ (c : Int) := by omega
  have HTl : Hid ((xs.take i).length = i) := by unfold Hid; rw [List.length_take]; omega
  have HDl : Hid ((xs.drop q).length = n - q) := by unfold Hid; rw [List.length_drop, hlf]
  have HE1 : Hid (i + (n - q) = n - 1) := by unfold Hid; omega
  have HQ := hid hq
  have him : i ≤ n := by omega
  have hi1 : q ≤ n := by omega
  have hres : (xs.take i ++ xs.drop (i + 1)) = xs.take i ++ xs.drop q := by rw [hq]
  rw [hres]
  clear hA hlf hq hres
  by_cases hdk : c = q
  · subst hdk
    have HE2 : Hid (i + 0 = n - 1) := by have := HQ.out; unfold Hid; omega
    go_enter Try.func31, Try.ntmps31
    go_wp2_with fail
    refine wp_region_held_drew (S := fun w' => Led w w' []) (by kernel_rfl) (hW.step (Cls.drew _)) (fun hHeld => ?_)
    refine wpAnyH_take (i := 1) (oi := _) (v := ?_) rfl (by kernel_rfl) (by kernel_rfl) (by kernel_rfl) (fun _ _ _ h => h) (Or.inl ⟨by rfl, ?_⟩) (by assumption) ?_
    rotate_left
    · intro w hSw; go_simp; with_reducible rfl
    simp only [Act.put, List.getElem_toArray, List.getElem_cons_zero, List.getElem_cons_succ, List.setIfInBounds_toArray, List.set_cons_zero, List.set_cons_succ]
    refine wpAnyH_take (i := 2) (oi := _) (v := ?_) rfl (by kernel_rfl) (by kernel_rfl) (by kernel_rfl) (fun _ _ _ h => h) (Or.inl ⟨by rfl, ?_⟩) (by assumption) ?_
    rotate_left
    · intro w hSw; go_simp; with_reducible rfl
    simp only [Act.put, List.getElem_toArray, List.getElem_cons_zero, List.getElem_cons_succ, List.setIfInBounds_toArray, List.set_cons_zero, List.set_cons_succ]
    refine wpAnyH_take (i := 3) (oi := _) (v := ?_) rfl (by kernel_rfl) (by kernel_rfl) (by kernel_rfl) (fun _ _ _ h => h) (Or.inl ⟨by rfl, ?_⟩) (by assumption) ?_
    rotate_left
    · intro w hSw; go_simp; with_reducible rfl
    simp only [Act.put, List.getElem_toArray, List.getElem_cons_zero, List.getElem_cons_succ, List.setIfInBounds_toArray, List.set_cons_zero, List.set_cons_succ]
    refine wpAnyH_take (i := 5) (oi := _) (v := ?_) rfl (by kernel_rfl) (by kernel_rfl) (by kernel_rfl) (fun _ _ _ h => h) (Or.inl ⟨by rfl, ?_⟩) (by assumption) ?_
    rotate_left
    · intro w hSw; go_simp; with_reducible rfl
    simp only [Act.put, List.getElem_toArray, List.getElem_cons_zero, List.getElem_cons_succ, List.setIfInBounds_toArray, List.set_cons_zero, List.set_cons_succ]
    refine wpAnyH_take (i := 6) (oi := _) (v := ?_) rfl (by kernel_rfl) (by kernel_rfl) (by kernel_rfl) (fun _ _ _ h => h) (Or.inl ⟨by rfl, ?_⟩) (by assumption) ?_
    rotate_left
    · intro w hSw; go_simp; with_reducible rfl
    simp only [Act.put, List.getElem_toArray, List.getElem_cons_zero, List.getElem_cons_succ, List.setIfInBounds_toArray, List.set_cons_zero, List.set_cons_succ]
    refine wpAnyH_take (i := 7) (oi := _) (v := ?_) rfl (by kernel_rfl) (by kernel_rfl) (by kernel_rfl) (fun _ _ _ h => h) (Or.inl ⟨by rfl, ?_⟩) (by assumption) ?_
    rotate_left
    · intro w hSw; go_simp; with_reducible rfl
    simp only [Act.put, List.getElem_toArray, List.getElem_cons_zero, List.getElem_cons_succ, List.setIfInBounds_toArray, List.set_cons_zero, List.set_cons_succ]
    refine wpAnyH_take (i := 8) (oi := _) (v := ?_) rfl (by kernel_rfl) (by kernel_rfl) (by kernel_rfl) (fun _ _ _ h => h) (Or.inl ⟨by rfl, ?_⟩) (by assumption) ?_
    rotate_left
    · intro w hSw; go_simp; with_reducible rfl
    simp only [Act.put, List.getElem_toArray, List.getElem_cons_zero, List.getElem_cons_succ, List.setIfInBounds_toArray, List.set_cons_zero, List.set_cons_succ]
    refine wpAnyH_ready (rs := [0]) (by kernel_rfl) (by simp) ?_
    refine AllReadyH.cons rfl (fun K hK => ?_) AllReadyH.nil
    have a1 := (hW.empty elInt 3 w.heap.size rfl w.heap.size (Nat.le_refl _)).step (Cls.drew _)
    go_simp
    go_wp2_with fail
    refine hK.out _ _ (a1.drop 1) (fun hHeld => ?_)
    clear hK K
    try simp only [Act.put, List.getElem_toArray, List.getElem_cons_zero, List.getElem_cons_succ, List.setIfInBounds_toArray, List.set_cons_zero, List.set_cons_succ]
    refine wpAnyH_ready (rs := [4]) (by kernel_rfl) (by simp) ?_
    refine AllReadyH.cons rfl (fun K hK => ?_) AllReadyH.nil
    refine step_append_led rfl _ _ 33 rfl a1 0 rfl Try.underlying33 hj hy0 hy1 (by rw [hy2]; decide) rfl rfl rfl ((HN.out.grow a1.bl).take him) (by simp; omega) a1.bl.size ?_
    intro B1 b1 v1 h1
    simp only [List.length_nil, Nat.zero_add, List.nil_append] at h1 ⊢
    refine hK.out _ _ (h1.drop 1) (fun hHeld => ?_)
    clear hK K
    try simp only [Act.put, List.getElem_toArray, List.getElem_cons_zero, List.getElem_cons_succ, List.setIfInBounds_toArray, List.set_cons_zero, List.set_cons_succ]
    refine wpAnyH_ready (rs := [9]) (by kernel_rfl) (by simp) ?_
    refine AllReadyH.cons rfl (fun K hK => ?_) AllReadyH.nil
    refine step_append_led rfl _ _ 33 rfl h1 0 rfl Try.underlying33 hj hy0 hy1 (by rw [hy2]; decide) rfl rfl rfl ((show Sees elInt _ 0 _ _ (xs.drop c) from by have h0 : xs.drop c = [] := List.drop_of_length_le (by have := HN.out.len; omega); rw [h0]; exact Sees.nil elInt _ 0 _)) (by rw [HTl.out]; omega) h1.bl.size ?_
    intro B2 b2 v2 h2
    rw [HTl.out, HE2.out] at h2
    rw [HTl.out, HE2.out]
    refine hK.out _ _ (h2.drop 1) (fun hHeld => ?_)
    clear hK K
    try simp only [Act.put, List.getElem_toArray, List.getElem_cons_zero, List.getElem_cons_succ, List.setIfInBounds_toArray, List.set_cons_zero, List.set_cons_succ]
    refine wpAnyH_take (i := 10) (oi := _) (v := ?_) rfl (by kernel_rfl) (by kernel_rfl) (by kernel_rfl) (fun _ _ _ h => h) (Or.inl ⟨by rfl, ?_⟩) (by assumption) ?_
    rotate_left
    · intro w hSw; go_simp; with_reducible rfl
    simp only [Act.put, List.getElem_toArray, List.getElem_cons_zero, List.getElem_cons_succ, List.setIfInBounds_toArray, List.set_cons_zero, List.set_cons_succ]
    have HE := hid h2
    clear h1 h2 hHeld
    refine wpAnyH_done (by kernel_rfl) ?_ _
    go_wp2_with fail
    go_ret
    exact ⟨B2, b2, rfl, HE.out.own 0 rfl, HE.out.bl⟩
  · skip
    go_enter Try.func31, Try.ntmps31
    go_wp2_with fail
    refine wp_region_held_drew (S := fun w' => Led w w' []) (by kernel_rfl) (hW.step (Cls.drew _)) (fun hHeld => ?_)
    refine wpAnyH_take (i := 1) (oi := _) (v := ?_) rfl (by kernel_rfl) (by kernel_rfl) (by kernel_rfl) (fun _ _ _ h => h) (Or.inl ⟨by rfl, ?_⟩) (by assumption) ?_
    rotate_left
    · intro w hSw; go_simp; with_reducible rfl
    simp only [Act.put, List.getElem_toArray, List.getElem_cons_zero, List.getElem_cons_succ, List.setIfInBounds_toArray, List.set_cons_zero, List.set_cons_succ]
    refine wpAnyH_take (i := 2) (oi := _) (v := ?_) rfl (by kernel_rfl) (by kernel_rfl) (by kernel_rfl) (fun _ _ _ h => h) (Or.inl ⟨by rfl, ?_⟩) (by assumption) ?_
    rotate_left
    · intro w hSw; go_simp; with_reducible rfl
    simp only [Act.put, List.getElem_toArray, List.getElem_cons_zero, List.getElem_cons_succ, List.setIfInBounds_toArray, List.set_cons_zero, List.set_cons_succ]
    refine wpAnyH_take (i := 3) (oi := _) (v := ?_) rfl (by kernel_rfl) (by kernel_rfl) (by kernel_rfl) (fun _ _ _ h => h) (Or.inl ⟨by rfl, ?_⟩) (by assumption) ?_
    rotate_left
    · intro w hSw; go_simp; with_reducible rfl
    simp only [Act.put, List.getElem_toArray, List.getElem_cons_zero, List.getElem_cons_succ, List.setIfInBounds_toArray, List.set_cons_zero, List.set_cons_succ]
    refine wpAnyH_take (i := 5) (oi := _) (v := ?_) rfl (by kernel_rfl) (by kernel_rfl) (by kernel_rfl) (fun _ _ _ h => h) (Or.inl ⟨by rfl, ?_⟩) (by assumption) ?_
    rotate_left
    · intro w hSw; go_simp; with_reducible rfl
    simp only [Act.put, List.getElem_toArray, List.getElem_cons_zero, List.getElem_cons_succ, List.setIfInBounds_toArray, List.set_cons_zero, List.set_cons_succ]
    refine wpAnyH_take (i := 6) (oi := _) (v := ?_) rfl (by kernel_rfl) (by kernel_rfl) (by kernel_rfl) (fun _ _ _ h => h) (Or.inl ⟨by rfl, ?_⟩) (by assumption) ?_
    rotate_left
    · intro w hSw; go_simp; with_reducible rfl
    simp only [Act.put, List.getElem_toArray, List.getElem_cons_zero, List.getElem_cons_succ, List.setIfInBounds_toArray, List.set_cons_zero, List.set_cons_succ]
    refine wpAnyH_take (i := 7) (oi := _) (v := ?_) rfl (by kernel_rfl) (by kernel_rfl) (by kernel_rfl) (fun _ _ _ h => h) (Or.inl ⟨by rfl, ?_⟩) (by assumption) ?_
    rotate_left
    · intro w hSw; go_simp; with_reducible rfl
    simp only [Act.put, List.getElem_toArray, List.getElem_cons_zero, List.getElem_cons_succ, List.setIfInBounds_toArray, List.set_cons_zero, List.set_cons_succ]
    refine wpAnyH_take (i := 8) (oi := _) (v := ?_) rfl (by kernel_rfl) (by kernel_rfl) (by kernel_rfl) (fun _ _ _ h => h) (Or.inl ⟨by rfl, ?_⟩) (by assumption) ?_
    rotate_left
    · intro w hSw; go_simp; with_reducible rfl
    simp only [Act.put, List.getElem_toArray, List.getElem_cons_zero, List.getElem_cons_succ, List.setIfInBounds_toArray, List.set_cons_zero, List.set_cons_succ]
    refine wpAnyH_ready (rs := [0]) (by kernel_rfl) (by simp) ?_
    refine AllReadyH.cons rfl (fun K hK => ?_) AllReadyH.nil
    have a1 := (hW.empty elInt 3 w.heap.size rfl w.heap.size (Nat.le_refl _)).step (Cls.drew _)
    go_simp
    go_wp2_with fail
    refine hK.out _ _ (a1.drop 1) (fun hHeld => ?_)
    clear hK K
    try simp only [Act.put, List.getElem_toArray, List.getElem_cons_zero, List.getElem_cons_succ, List.setIfInBounds_toArray, List.set_cons_zero, List.set_cons_succ]
    refine wpAnyH_ready (rs := [4]) (by kernel_rfl) (by simp) ?_
    refine AllReadyH.cons rfl (fun K hK => ?_) AllReadyH.nil
    refine step_append_led rfl _ _ 33 rfl a1 0 rfl Try.underlying33 hj hy0 hy1 (by rw [hy2]; decide) rfl rfl rfl ((HN.out.grow a1.bl).take him) (by simp; omega) a1.bl.size ?_
    intro B1 b1 v1 h1
    simp only [List.length_nil, Nat.zero_add, List.nil_append] at h1 ⊢
    refine hK.out _ _ (h1.drop 1) (fun hHeld => ?_)
    clear hK K
    try simp only [Act.put, List.getElem_toArray, List.getElem_cons_zero, List.getElem_cons_succ, List.setIfInBounds_toArray, List.set_cons_zero, List.set_cons_succ]
    refine wpAnyH_ready (rs := [9]) (by kernel_rfl) (by simp) ?_
    refine AllReadyH.cons rfl (fun K hK => ?_) AllReadyH.nil
    refine step_append_led rfl _ _ 33 rfl h1 0 rfl Try.underlying33 hj hy0 hy1 (by rw [hy2]; decide) rfl rfl rfl ((HN.out.grow h1.bl).backG rfl hi1) (by rw [HTl.out]; omega) h1.bl.size ?_
    intro B2 b2 v2 h2
    rw [HTl.out, HE1.out] at h2
    rw [HTl.out, HE1.out]
    refine hK.out _ _ (h2.drop 1) (fun hHeld => ?_)
    clear hK K
    try simp only [Act.put, List.getElem_toArray, List.getElem_cons_zero, List.getElem_cons_succ, List.setIfInBounds_toArray, List.set_cons_zero, List.set_cons_succ]
    refine wpAnyH_take (i := 10) (oi := _) (v := ?_) rfl (by kernel_rfl) (by kernel_rfl) (by kernel_rfl) (fun _ _ _ h => h) (Or.inl ⟨by rfl, ?_⟩) (by assumption) ?_
    rotate_left
    · intro w hSw; go_simp; with_reducible rfl
    simp only [Act.put, List.getElem_toArray, List.getElem_cons_zero, List.getElem_cons_succ, List.setIfInBounds_toArray, List.set_cons_zero, List.set_cons_succ]
    have HE := hid h2
    clear h1 h2 hHeld
    refine wpAnyH_done (by kernel_rfl) ?_ _
    go_wp2_with fail
    go_ret
    exact ⟨B2, b2, rfl, HE.out.own 0 rfl, HE.out.bl⟩
end
end Go.Proofs.Ytfepilpllfiegaa
