/- Lemmas and walks that the claim rests on, laid together. Conditions: none. -/
import Derived.Test.YtfepilpllfiegaaZba7846269eb2
import Derived.Test.YtfepilpllfiegaaZ02c91a162493
import Derived.Test.YtfepilpllfiegaaZ19d51b277163
import Derived.Test.YtfepilpllfiegaaZcd4e02bf0900
import Derived.Test.YtfepilpllfiegaaZca6a11a8a0df
import Derived.Deep.RegionHeld3
import Derived.Test.YtfepilpllfiegaaZc3e33f13110d
/- routesBetween: its recursive closure, and it, walked. Conditions: none. By ext.py. -/
namespace Go.Proofs.Ytfepilpllfiegaa
open Go.RowKit
def capE (gt gout gf gn gex : Nat) : Array Value := #[.pointer (some ⟨gt, 0, none⟩), .pointer (some ⟨gout, 0, none⟩), .pointer (some ⟨gf, 0, none⟩), .pointer (some ⟨gn, 0, none⟩), .pointer (some ⟨gex, 0, none⟩)]
/-- What the closure works on. -/
def exT (base : Nat) (V : Value) (ss : List (Int × Sl)) (rows : List (Int × List Int)) (gt gout gf gn gex b : Nat) (B : Option Addr) (e : Nat) (ids : List Int) (R : List Thing) : List Thing :=
  tRS base V ss rows :: tBlk gout 30 #[V] :: tBlk gex 127 #[.func (.func 122) #[] (capE gt gout gf gn gex)] :: tOwns elInt b 3 (.slice B ids.length e) ids :: R
/-- The box of the closure stands. -/
def exS (w0 : World) (gt gout gf gn gex : Nat) (w' : World) : Prop := Led w0 w' [tBlk gex 127 #[.func (.func 122) #[] (capE gt gout gf gn gex)]]
/-- The row of fibers, made to the newest thing. -/
theorem Led.exIn {w0 w : World} {a b c x : Thing} {R : List Thing} (h : Led w0 w (x :: a :: b :: c :: R)) : Led w0 w (a :: b :: c :: x :: R) :=
  h.reidx (fun i => if i = 0 then 1 else if i = 1 then 2 else if i = 2 then 3 else if i = 3 then 0 else i) (fun i j hij => by
    show (if i = 0 then 1 else if i = 1 then 2 else if i = 2 then 3 else if i = 3 then 0 else i) ≠ (if j = 0 then 1 else if j = 1 then 2 else if j = 2 then 3 else if j = 3 then 0 else j)
    repeat' split
    all_goals omega) (fun i t hi => by
    match i, hi with
    | 0, hi => exact hi
    | 1, hi => exact hi
    | 2, hi => exact hi
    | 3, hi => exact hi
    | i + 4, hi => simpa using hi)
theorem exS_of {w0 w : World} {gt gout gf gn gex : Nat} {x y : Thing} {R : List Thing} (h : Led w0 w (x :: y :: tBlk gex 127 #[.func (.func 122) #[] (capE gt gout gf gn gex)] :: R)) : exS w0 gt gout gf gn gex w :=
  h.reidx (fun i => i + 2) (fun i j hij => by omega) (fun i t hi => by
    match i, hi with
    | 0, hi => exact hi
    | i + 1, hi => simp at hi)
theorem Led.skip1 {w0 w : World} {x y : Thing} {R : List Thing} (h : Led w0 w (x :: y :: R)) : Led w0 w (x :: R) :=
  h.reidx (fun i => if i = 0 then 0 else i + 1) (fun i j hij => by
    show (if i = 0 then 0 else i + 1) ≠ (if j = 0 then 0 else j + 1)
    repeat' split
    all_goals omega) (fun i t hi => by
    match i, hi with
    | 0, hi => exact hi
    | i + 1, hi => simpa using hi)
theorem Led.exOut {w0 w : World} {a b c x : Thing} {R : List Thing} (h : Led w0 w (a :: b :: c :: x :: R)) : Led w0 w (a :: b :: c :: R) :=
  h.reidx (fun i => if i < 3 then i else i + 1) (fun i j hij => by
    show (if i < 3 then i else i + 1) ≠ (if j < 3 then j else j + 1)
    repeat' split
    all_goals omega) (fun i t hi => by
    match i, hi with
    | 0, hi => exact hi
    | 1, hi => exact hi
    | 2, hi => exact hi
    | i + 3, hi =>
      rw [show (if i + 3 < 3 then i + 3 else i + 3 + 1) = i + 4 from if_neg (by omega)]
      simpa using hi)
section
variable {w : World} {ops : Array Oper} {o : Oper} {a : Act} {Q : Exit → Act → World → Prop} {K : Act → World → Prop} {F : Prop}
/-- append onto a slice without room, in a region. -/
theorem step_append_full (hgd : o.guard = none) (s x : Operand) (ho : o.op = Op.call { callee := Callee.builtin Builtin.append, args := #[s, x], argTypes := #[33, 33] }) {B C n c : Nat} {A X : Option Addr} {xs : List Int} {y : Int}
    (hs : a.eval s = .slice A n n) (hA : Sees elInt w B A n xs) (hx : a.eval x = .slice X 1 c) (hX : Sees elInt w C X 1 [y]) (hn : n ≤ 1048576)
    (h : ∀ v' w', Owns elInt w' w.heap.size 3 v' (xs ++ [y]) → Below w.heap.size w w' → K (a.put o.dst v') w') : if Region.wanted o (yielded ops a.tmps) = true then Oper.wp Try.prog o a w K Q else F := by
  have hw : Region.wanted o (yielded ops a.tmps) = true := by simp [Region.wanted, hgd]
  rw [if_pos hw]
  obtain ⟨i0, hi, hz0, hz1, hz2⟩ := info_parts int_info
  have hlen := hA.len
  obtain ⟨b', o', rfl, _, _⟩ := hX.at_ (k := 0) (by decide)
  have key : ∀ v' w', w'.ownsRow w.heap.size 3 1 v' (n + 1) (xs.flatMap elInt.cells ++ [y].flatMap elInt.cells) → w.grownBy w' none → Owns elInt w' w.heap.size 3 v' (xs ++ [y]) ∧ Below w.heap.size w w' := by
    intro v' w' h1 h2
    refine ⟨?_, ⟨h2.os, h2.tape, h2.output, h2.size, fun k hk => h2.block k hk (fun e => by cases e)⟩⟩
    unfold Owns
    rw [List.length_append, hlen, List.flatMap_append]
    exact h1
  have h1c : ∀ u ∈ [y].flatMap elInt.cells, u.oneCell' = true := fun u hu => by
    obtain ⟨z, _, h2⟩ := List.mem_flatMap.1 hu
    exact elInt.one z u h2
  cases A with
  | some b =>
    obtain ⟨v', w', hrun, r1, r2⟩ := run_append_arg_grows (P := Try.prog) w 33 o.type 3 i0 (.int .i64 0) 1 8 Try.underlying33 hi hz0 hz1 hz2 rfl (by decide) b n n (xs.flatMap elInt.cells) (by rw [flat_len, hlen]; rfl) (sees_cells hA) ⟨b', o', none⟩ 1 c ([y].flatMap elInt.cells) rfl (sees_cells hX) (by omega) (by unfold maxLen; omega) (by omega)
    unfold Oper.wp
    simp [execOp, ho, resolve, invoke, builtin, hs, hx, hrun, Result.andThen]
    exact h _ _ (key v' w' r1 r2).1 (key v' w' r1 r2).2
  | none =>
    have hn0 : n = 0 := by
      rcases hA.2 with h0 | ⟨b, o, h0, _⟩
      · exact h0
      · cases h0
    subst hn0
    have hx0 : xs = [] := List.eq_nil_of_length_eq_zero hlen
    subst hx0
    obtain ⟨v', w', hrun, r1, r2, _⟩ := run_append_own (P := Try.prog) w w.heap.size 33 o.type 3 i0 (.int .i64 0) 1 8 Try.underlying33 hi hz0 hz1 hz2 rfl (by decide) (.slice none 0 0) 0 [] (World.ownsRow_nil w _ 3 1) ⟨b', o', none⟩ 1 c ([y].flatMap elInt.cells) rfl (sees_cells hX) h1c (by unfold maxLen; omega) (by omega) (Nat.le_refl _)
    unfold Oper.wp
    simp [execOp, ho, resolve, invoke, builtin, hs, hx, hrun, Result.andThen]
    exact h _ _ (key v' w' r1 r2).1 (key v' w' r1 r2).2
end
section
variable {w0 : World} {n c m d gn gf gt gout gex : Nat} {A A' : Option Addr} {xs : List ByteArray} {fs : List Fib} {s to : Nat}
set_option maxHeartbeats 8000000 in
set_option maxRecDepth 100000 in
theorem ext_any (hn : NetIs w0 A n c A' m d xs fs) (hG : goodB xs fs = true) (hT : w0.cell? ⟨gt, 0, none⟩ = some (.int .i64 (to : Int))) (hF : w0.cell? ⟨gf, 0, none⟩ = some (.int .i64 (s : Int))) (hN0 : w0.cell? ⟨gn, 0, none⟩ = some (.slice A n c)) (hN1 : w0.cell? ⟨gn, 1, none⟩ = some (.slice A' m d)) :
    ∀ (k v M : Nat) (seen : List Nat) (ids : List Int) (V : Value) (ss : List (Int × Sl)) (rows : List (Int × List Int)) (R : List Thing) (B : Option Addr) (e b : Nat) (w : World),
      seen.Nodup → (∀ u ∈ seen, u < n) → seen.length + k = n + 1 → v < n → M < 2 ^ 20 → (∀ u, u < n → (M.testBit u = true ↔ u ∈ seen)) → rows.length + (rtsL fs to k v seen ids).length ≤ 549755813888 → ids.length + 1 = seen.length → w0.heap.size ≤ b →
      Led w0 w (exT w0.heap.size V ss rows gt gout gf gn gex b B e ids R) →
      Calls Try.prog 122 (#[.int .i64 (v : Int), .int .i64 (M : Int), .slice B ids.length e] ++ capE gt gout gf gn gex) w fun e' w' => e' = .returned (.tuple #[]) ∧
        ∃ V' ss', Led w0 w' (exT w0.heap.size V' ss' (rows ++ (rtsL fs to k v seen ids).map (fun r => ((s : Int), r))) gt gout gf gn gex b B e ids R) := by
  obtain ⟨he, hn0, hn8, hm14⟩ := good_parts hn hG
  have HN := hid hn
  have HE := hid he
  have HLF := hid hn.flen
  have FT : Hid (∀ w', Below w0.heap.size w0 w' → w'.cell? ⟨gt, 0, none⟩ = some (.int .i64 (to : Int))) := fun w' h => bl_cell h hT
  have FF : Hid (∀ w', Below w0.heap.size w0 w' → w'.cell? ⟨gf, 0, none⟩ = some (.int .i64 (s : Int))) := fun w' h => bl_cell h hF
  have FN0 : Hid (∀ w', Below w0.heap.size w0 w' → w'.cell? ⟨gn, 0, none⟩ = some (.slice A n c)) := fun w' h => bl_cell h hN0
  have FN1 : Hid (∀ w', Below w0.heap.size w0 w' → w'.cell? ⟨gn, 1, none⟩ = some (.slice A' m d)) := fun w' h => bl_cell h hN1
  clear hn he hT hF hN0 hN1 hG
  intro k
  induction k with
  | zero =>
    intro v M seen ids V ss rows R B e b w h1 h2 h3
    exact absurd (fuel_pos h1 h2 h3) (by decide)
  | succ k ih =>
    intro v M seen ids V ss rows R B e b w hnd hsn hlen hv hM hbit hrl hil hbb hL
    have HIH := hid ih
    have HL := hid hL
    have HND := hid hnd
    have HSN := hid hsn
    have HBIT := hid hbit
    have hsl := nodup_len n seen hnd hsn
    have hil9 : ids.length ≤ 8 := by omega
    have HIL := hid hil
    have HLEN := hid hlen
    clear ih hL hnd hsn hbit hil hlen
    have q0 := FT.out w HL.out.bl
    by_cases hvt : v = to
    · have e1 : ((v : Int) == (to : Int)) = true := by rw [hvt]; exact beq_self_eq_true _
      have HR : Hid (rtsL fs to (k + 1) v seen ids = [ids]) := by rw [hvt]; exact rtsL_end
      have HRL : Hid (ss.length + 1 ≤ 1099511627776) := by
        have h1 : OwnsRS w w0.heap.size V ss rows := HL.out.get 0 rfl
        have h2 := hrl
        rw [HR.out] at h2
        simp at h2
        have := h1.2.1
        refine hid ?_
        omega
      clear hvt hrl
      unfold capE
      go_enter Try.func122, Try.ntmps122
      go_wp2_with fail
      have F0 : ∀ w', Below w0.heap.size w0 w' → w'.cell? ⟨gf, 0, none⟩ = some (.int .i64 (s : Int)) := fun w' h => FF.out w' h
      have hd := HL.out.step (Cls.drew w)
      have HLD := hid hd
      clear hd q0
      refine wp_region_held_drew (S := fun w' => Below w0.heap.size w0 w') (by kernel_rfl) (HLD.out.bl) (fun hHeld => ?_)
      refine wpAnyH_take (i := 1) (oi := _) (v := ?_) rfl (by kernel_rfl) (by kernel_rfl) (by kernel_rfl) (fun _ _ _ h => h) (Or.inl ⟨by rfl, ?_⟩) (by assumption) ?_
      rotate_left
      · intro w hSw; go_simp; with_reducible rfl
      simp only [Act.put, List.getElem_toArray, List.getElem_cons_zero, List.getElem_cons_succ, List.setIfInBounds_toArray, List.set_cons_zero, List.set_cons_succ]
      refine wpAnyH_take (i := 2) (oi := _) (v := ?_) rfl (by kernel_rfl) (by kernel_rfl) (by kernel_rfl) (fun _ _ _ h => h) (Or.inl ⟨by rfl, ?_⟩) (by assumption) ?_
      rotate_left
      · intro w hSw; go_simp; with_reducible rfl
      simp only [Act.put, List.getElem_toArray, List.getElem_cons_zero, List.getElem_cons_succ, List.setIfInBounds_toArray, List.set_cons_zero, List.set_cons_succ]
      refine wpAnyH_ready (rs := [0, 3]) (by kernel_rfl) (by simp) ?_
      refine AllReadyH.cons rfl (fun K hK => ?_) ?_
      · skip
        have q1 := HLD.out.cell 1 0 rfl rfl
        go_simp
        go_wp2_with fail
        refine hK.out _ _ (HLD.out.bl) (fun hHeld => ?_)
        clear hK K
        try simp only [Act.put, List.getElem_toArray, List.getElem_cons_zero, List.getElem_cons_succ, List.setIfInBounds_toArray, List.set_cons_zero, List.set_cons_succ]
        clear q1
        refine wpAnyH_ready (rs := [3]) (by kernel_rfl) (by simp) ?_
        refine AllReadyH.cons rfl (fun K hK => ?_) AllReadyH.nil
        go_simp
        refine (cloneI_any _ ((HLD.out).seesI 3 rfl) (by omega)).mono ?_
        rintro e1 w1 ⟨v1, rfl, ho1, hb1⟩
        obtain ⟨B1, c1, rfl, _⟩ := ho1.form
        have hc := (HLD.out).owns hb1 ho1
        have HC := hid hc
        clear hb1 ho1 hc
        go_wp2_with fail
        refine hK.out _ _ (HC.out.bl) (fun hHeld => ?_)
        clear hK K
        try simp only [Act.put, List.getElem_toArray, List.getElem_cons_zero, List.getElem_cons_succ, List.setIfInBounds_toArray, List.set_cons_zero, List.set_cons_succ]
        refine wpAnyH_take (i := 4) (oi := _) (v := ?_) rfl (by kernel_rfl) (by kernel_rfl) (by kernel_rfl) (fun _ _ _ h => h) (Or.inl ⟨by rfl, ?_⟩) (by assumption) ?_
        rotate_left
        · intro w hSw; go_simp; with_reducible rfl
        simp only [Act.put, List.getElem_toArray, List.getElem_cons_zero, List.getElem_cons_succ, List.setIfInBounds_toArray, List.set_cons_zero, List.set_cons_succ]
        refine wpAnyH_ready (rs := [5]) (by kernel_rfl) (by simp) ?_
        refine AllReadyH.cons rfl (fun K hK => ?_) AllReadyH.nil
        have HD := hid (HC.out.blk_ w1.heap.size rfl 35 #[.int .i64 (s : Int), .slice B1 ids.length c1])
        go_simp
        go_wp2_with fail
        refine hK.out _ _ (HD.out.bl) (fun hHeld => ?_)
        clear hK K
        try simp only [Act.put, List.getElem_toArray, List.getElem_cons_zero, List.getElem_cons_succ, List.setIfInBounds_toArray, List.set_cons_zero, List.set_cons_succ]
        refine wpAnyH_ready (rs := [6]) (by kernel_rfl) (by simp) ?_
        refine AllReadyH.cons rfl (fun K hK => ?_) AllReadyH.nil
        have HD2 := hid (HD.out.drop 1)
        refine step_append_rs rfl _ _ rfl (s0 := ((s : Int), ⟨B1, ids.length, c1⟩)) (r0 := ((s : Int), ids)) HD2.out 0 rfl rfl HLD.out.bl.size rfl rfl (show Sees elRt _ _ _ 1 [((s : Int), (⟨B1, ids.length, c1⟩ : Sl))] from sees_new elRt _ _ _ _ rfl) HRL.out HD2.out.bl.size ?_
        intro A3 c3 w3 h3
        have H3 := hid h3
        clear h3
        refine hK.out _ _ (H3.out.bl) (fun hHeld => ?_)
        clear hK K
        try simp only [Act.put, List.getElem_toArray, List.getElem_cons_zero, List.getElem_cons_succ, List.setIfInBounds_toArray, List.set_cons_zero, List.set_cons_succ]
        have q2 := H3.out.cell 1 0 rfl rfl
        have z2 := H3.out.frozen 1 0 rfl
        have H4 := hid (H3.out.set 1 rfl 0 (.slice A3 (ss.length + 1) c3))
        refine wpAnyH_ready (rs := [7]) (by kernel_rfl) (by simp) ?_
        refine AllReadyH.cons rfl (fun K hK => ?_) AllReadyH.nil
        go_simp
        go_wp2_with fail
        refine hK.out _ _ (H4.out.bl) (fun hHeld => ?_)
        clear hK K
        try simp only [Act.put, List.getElem_toArray, List.getElem_cons_zero, List.getElem_cons_succ, List.setIfInBounds_toArray, List.set_cons_zero, List.set_cons_succ]
        refine wpAnyH_done (by kernel_rfl) ?_ _
        go_wp2
        exact bodyPost_ret (results_none rfl _ _ _) rfl ⟨rfl, _, _, by rw [HR.out]; exact H4.out⟩
      refine AllReadyH.cons rfl (fun K hK => ?_) AllReadyH.nil
      go_simp
      refine (cloneI_any _ ((HLD.out).seesI 3 rfl) (by omega)).mono ?_
      rintro e1 w1 ⟨v1, rfl, ho1, hb1⟩
      obtain ⟨B1, c1, rfl, _⟩ := ho1.form
      have hc := (HLD.out).owns hb1 ho1
      have HC := hid hc
      clear hb1 ho1 hc
      go_wp2_with fail
      refine hK.out _ _ (HC.out.bl) (fun hHeld => ?_)
      clear hK K
      try simp only [Act.put, List.getElem_toArray, List.getElem_cons_zero, List.getElem_cons_succ, List.setIfInBounds_toArray, List.set_cons_zero, List.set_cons_succ]
      refine wpAnyH_take (i := 4) (oi := _) (v := ?_) rfl (by kernel_rfl) (by kernel_rfl) (by kernel_rfl) (fun _ _ _ h => h) (Or.inl ⟨by rfl, ?_⟩) (by assumption) ?_
      rotate_left
      · intro w hSw; go_simp; with_reducible rfl
      simp only [Act.put, List.getElem_toArray, List.getElem_cons_zero, List.getElem_cons_succ, List.setIfInBounds_toArray, List.set_cons_zero, List.set_cons_succ]
      refine wpAnyH_ready (rs := [0, 5]) (by kernel_rfl) (by simp) ?_
      refine AllReadyH.cons rfl (fun K hK => ?_) ?_
      · skip
        have HC1 := hid (Led.drop HC.out 1)
        have q1 := HC1.out.cell 1 0 rfl rfl
        go_simp
        go_wp2_with fail
        refine hK.out _ _ (HC1.out.bl) (fun hHeld => ?_)
        clear hK K
        try simp only [Act.put, List.getElem_toArray, List.getElem_cons_zero, List.getElem_cons_succ, List.setIfInBounds_toArray, List.set_cons_zero, List.set_cons_succ]
        clear q1
        refine wpAnyH_ready (rs := [5]) (by kernel_rfl) (by simp) ?_
        refine AllReadyH.cons rfl (fun K hK => ?_) AllReadyH.nil
        have HD := hid (HC.out.blk_ w1.heap.size rfl 35 #[.int .i64 (s : Int), .slice B1 ids.length c1])
        go_simp
        go_wp2_with fail
        refine hK.out _ _ (HD.out.bl) (fun hHeld => ?_)
        clear hK K
        try simp only [Act.put, List.getElem_toArray, List.getElem_cons_zero, List.getElem_cons_succ, List.setIfInBounds_toArray, List.set_cons_zero, List.set_cons_succ]
        refine wpAnyH_ready (rs := [6]) (by kernel_rfl) (by simp) ?_
        refine AllReadyH.cons rfl (fun K hK => ?_) AllReadyH.nil
        have HD2 := hid (HD.out.drop 1)
        refine step_append_rs rfl _ _ rfl (s0 := ((s : Int), ⟨B1, ids.length, c1⟩)) (r0 := ((s : Int), ids)) HD2.out 0 rfl rfl HLD.out.bl.size rfl rfl (show Sees elRt _ _ _ 1 [((s : Int), (⟨B1, ids.length, c1⟩ : Sl))] from sees_new elRt _ _ _ _ rfl) HRL.out HD2.out.bl.size ?_
        intro A3 c3 w3 h3
        have H3 := hid h3
        clear h3
        refine hK.out _ _ (H3.out.bl) (fun hHeld => ?_)
        clear hK K
        try simp only [Act.put, List.getElem_toArray, List.getElem_cons_zero, List.getElem_cons_succ, List.setIfInBounds_toArray, List.set_cons_zero, List.set_cons_succ]
        have q2 := H3.out.cell 1 0 rfl rfl
        have z2 := H3.out.frozen 1 0 rfl
        have H4 := hid (H3.out.set 1 rfl 0 (.slice A3 (ss.length + 1) c3))
        refine wpAnyH_ready (rs := [7]) (by kernel_rfl) (by simp) ?_
        refine AllReadyH.cons rfl (fun K hK => ?_) AllReadyH.nil
        go_simp
        go_wp2_with fail
        refine hK.out _ _ (H4.out.bl) (fun hHeld => ?_)
        clear hK K
        try simp only [Act.put, List.getElem_toArray, List.getElem_cons_zero, List.getElem_cons_succ, List.setIfInBounds_toArray, List.set_cons_zero, List.set_cons_succ]
        refine wpAnyH_done (by kernel_rfl) ?_ _
        go_wp2
        exact bodyPost_ret (results_none rfl _ _ _) rfl ⟨rfl, _, _, by rw [HR.out]; exact H4.out⟩
      refine AllReadyH.cons rfl (fun K hK => ?_) AllReadyH.nil
      have HD := hid (HC.out.blk_ w1.heap.size rfl 35 #[.int .i64 (s : Int), .slice B1 ids.length c1])
      go_simp
      go_wp2_with fail
      refine hK.out _ _ (HD.out.bl) (fun hHeld => ?_)
      clear hK K
      try simp only [Act.put, List.getElem_toArray, List.getElem_cons_zero, List.getElem_cons_succ, List.setIfInBounds_toArray, List.set_cons_zero, List.set_cons_succ]
      refine wpAnyH_ready (rs := [0]) (by kernel_rfl) (by simp) ?_
      refine AllReadyH.cons rfl (fun K hK => ?_) AllReadyH.nil
      have HC1 := hid (HD.out.drop 2)
      have q1 := HC1.out.cell 1 0 rfl rfl
      go_simp
      go_wp2_with fail
      refine hK.out _ _ (HC1.out.bl) (fun hHeld => ?_)
      clear hK K
      try simp only [Act.put, List.getElem_toArray, List.getElem_cons_zero, List.getElem_cons_succ, List.setIfInBounds_toArray, List.set_cons_zero, List.set_cons_succ]
      clear q1
      refine wpAnyH_ready (rs := [6]) (by kernel_rfl) (by simp) ?_
      refine AllReadyH.cons rfl (fun K hK => ?_) AllReadyH.nil
      have HD2 := hid (HD.out.drop 1)
      refine step_append_rs rfl _ _ rfl (s0 := ((s : Int), ⟨B1, ids.length, c1⟩)) (r0 := ((s : Int), ids)) HD2.out 0 rfl rfl HLD.out.bl.size rfl rfl (show Sees elRt _ _ _ 1 [((s : Int), (⟨B1, ids.length, c1⟩ : Sl))] from sees_new elRt _ _ _ _ rfl) HRL.out HD2.out.bl.size ?_
      intro A3 c3 w3 h3
      have H3 := hid h3
      clear h3
      refine hK.out _ _ (H3.out.bl) (fun hHeld => ?_)
      clear hK K
      try simp only [Act.put, List.getElem_toArray, List.getElem_cons_zero, List.getElem_cons_succ, List.setIfInBounds_toArray, List.set_cons_zero, List.set_cons_succ]
      have q2 := H3.out.cell 1 0 rfl rfl
      have z2 := H3.out.frozen 1 0 rfl
      have H4 := hid (H3.out.set 1 rfl 0 (.slice A3 (ss.length + 1) c3))
      refine wpAnyH_ready (rs := [7]) (by kernel_rfl) (by simp) ?_
      refine AllReadyH.cons rfl (fun K hK => ?_) AllReadyH.nil
      go_simp
      go_wp2_with fail
      refine hK.out _ _ (H4.out.bl) (fun hHeld => ?_)
      clear hK K
      try simp only [Act.put, List.getElem_toArray, List.getElem_cons_zero, List.getElem_cons_succ, List.setIfInBounds_toArray, List.set_cons_zero, List.set_cons_succ]
      refine wpAnyH_done (by kernel_rfl) ?_ _
      go_wp2
      exact bodyPost_ret (results_none rfl _ _ _) rfl ⟨rfl, _, _, by rw [HR.out]; exact H4.out⟩
    · have e1 : ((v : Int) == (to : Int)) = false := by rw [beq_eq_false_iff_ne]; omega
      have HR : Hid (rtsL fs to (k + 1) v seen ids = rtsJ fs to k v seen ids m) := by unfold Hid; rw [rtsL_on hvt, HLF.out]
      have HRL : Hid (rows.length + (rtsJ fs to k v seen ids m).length ≤ 549755813888) := by rw [← HR.out]; exact hrl
      have H0 : Hid (Led w0 w (exT w0.heap.size V ss (rows ++ (rtsJ fs to k v seen ids 0).map (fun r => ((s : Int), r))) gt gout gf gn gex b B e ids R)) := by
        have : rows ++ (rtsJ fs to k v seen ids 0).map (fun r => ((s : Int), r)) = rows := by unfold rtsJ; simp
        rw [this]; exact HL.out
      have q1 := FN1.out w HL.out.bl
      clear hvt hrl
      unfold capE
      go_enter Try.func122, Try.ntmps122
      go_wp2_with fail
      clear q0 q1
      go_loopw [27] (fun i wr => ∃ (j : Nat) (V' : Value) (ss' : List (Int × Sl)), j ≤ m ∧ i = .int .i64 j ∧ Hid (Led w0 wr (exT w0.heap.size V' ss' (rows ++ (rtsJ fs to k v seen ids j).map (fun r => ((s : Int), r))) gt gout gf gn gex b B e ids R))) (fun i _ => m - (intOf i).toNat)
      case atStart => exact ⟨0, V, ss, Nat.zero_le _, rfl, H0⟩
      case round =>
        clear H0
        obtain ⟨j, V', ss', hj, rfl, HS⟩ := hrel
        by_cases hlt : j < m
        · obtain ⟨f, hfj⟩ := get_of (k := j) HLF.out hlt
          obtain ⟨nb, no, rfl, _, hc⟩ := (HN.out.grow HS.out.bl).fibs.at_ (k := j) hlt
          have f0 := hc j f hfj 0 _ rfl
          have f1 := hc j f hfj 1 _ rfl
          have f2 := hc j f hfj 2 _ rfl
          have f3 := hc j f hfj 3 _ rfl
          simp only [elFib, Nat.add_zero] at f0 f1 f2 f3
          have hfd : fibD fs j = f := getD_of hfj
          have hends := HE.out j (by rw [HLF.out]; exact hlt)
          rw [hfd] at hends
          have HU := hid (rtsJ_succ (fs := fs) (to := to) (k := k) (v := v) (seen := seen) (ids := ids) j)
          obtain ⟨u, hu⟩ : ∃ u, otherF f (v : Int) = u := ⟨_, rfl⟩
          have HF : Hid (otherF (fibD fs j) (v : Int) = u) := by rw [hfd]; exact hu
          have hub : u < n := by rw [← hu]; unfold otherF; split <;> (try split) <;> omega
          have HS1 := hid (HS.out.blk_ wr.heap.size rfl 62 #[.int .i64 f.a, .int .i64 f.b, .int .i64 f.len, .int .i64 f.risk])
          have HC := hid (otherEnd_any f (v : Int) (wr.alloc (.cells #[.int .i64 f.a, .int .i64 f.b, .int .i64 f.len, .int .i64 f.risk] 62)))
          rw [hu] at HC
          unfold fibV at HC
          clear hc hfj hfd hends hu
          go_wp2_with fail
          refine HC.out.mono ?_
          rintro e2 w2 ⟨rfl, hb2⟩
          have HS2 := hid ((HS1.out.step hb2).drop 1)
          clear HC HS1 hb2 f0 f1 f2 f3 HS
          by_cases hu0 : u < 0
          · have hI : Hid (rtsI fs to k v seen ids j = []) := rtsI_none (by rw [HF.out]; exact hu0)
            have HN2 : Hid (rtsJ fs to k v seen ids (j + 1) = rtsJ fs to k v seen ids j) := by unfold Hid; rw [HU.out, hI.out, List.append_nil]
            go_wp2
            refine ⟨⟨j + 1, V', ss', by omega, by go_num, by rw [HN2.out]; exact HS2⟩, by simp [intOf]; omega⟩
          · obtain ⟨q, rfl⟩ : ∃ q : Nat, u = (q : Int) := ⟨u.toNat, by omega⟩
            have hq8 : q < n := by omega
            have iu : IntKind.u64.wrap (q : Int) = (q : Int) := by rw [IntKind.wrap_u64]; omega
            have imn : min q 64 = q := by omega
            have hdv : ((M : Int) / 2 ^ q) = ((M / 2 ^ q : Nat) : Int) := by simp
            have ib := bits_and_one hM q
            rw [← hdv] at ib
            clear hdv
            by_cases hs : q ∈ seen
            · have hI : Hid (rtsI fs to k v seen ids j = []) := rtsI_seen HF.out hs
              have HN2 : Hid (rtsJ fs to k v seen ids (j + 1) = rtsJ fs to k v seen ids j) := by unfold Hid; rw [HU.out, hI.out, List.append_nil]
              rw [(HBIT.out q hq8).2 hs] at ib
              simp only [if_true] at ib
              go_wp2
              refine ⟨⟨j + 1, V', ss', by omega, by go_num, by rw [HN2.out]; exact HS2⟩, by simp [intOf]; omega⟩
            · have hbf : M.testBit q = false := by
                cases g : M.testBit q
                · rfl
                · exact absurd ((HBIT.out q hq8).1 g) hs
              rw [hbf] at ib
              simp only [Bool.false_eq_true, if_false] at ib
              have hI : Hid (rtsI fs to k v seen ids j = rtsL fs to k q (q :: seen) (ids ++ [(j : Int)])) := rtsI_on HF.out hs
              have HN2 : Hid (rtsJ fs to k v seen ids (j + 1) = rtsJ fs to k v seen ids j ++ rtsL fs to k q (q :: seen) (ids ++ [(j : Int)])) := by unfold Hid; rw [HU.out, hI.out]
              have HRL2 : Hid ((rows ++ (rtsJ fs to k v seen ids j).map (fun r => ((s : Int), r))).length + (rtsL fs to k q (q :: seen) (ids ++ [(j : Int)])).length ≤ 549755813888) := by
                have h1 := HRL.out
                have h2 := rtsJ_mono (fs := fs) (to := to) (k := k) (v := v) (seen := seen) (ids := ids) (i := j + 1) (j := m) hlt
                rw [HN2.out, List.length_append] at h2
                rw [List.length_append, List.length_map] at *
                refine hid ?_
                omega
              have hj2 : (2 : Nat) ^ q < 2 ^ 20 := Nat.pow_lt_pow_right (by decide) (by omega)
              have HO := hid (bits_or_n hM hj2)
              have hw : IntKind.i64.wrap ((2 : Int) ^ q) = ((2 ^ q : Nat) : Int) := by
                have e : ((2 : Int) ^ q) = ((2 ^ q : Nat) : Int) := by simp
                rw [e]
                have h62 : 2 ^ q < 4611686018427387904 := Nat.lt_trans hj2 (by decide)
                generalize 2 ^ q = y at *
                exact IntWalk.i64_in _ (by omega)
              have HW : Hid (IntKind.i64.wrap ((2 : Int) ^ q) = ((2 ^ q : Nat) : Int)) := hw
              have HM2 : Hid (M ||| 2 ^ q < 2 ^ 20) := Nat.or_lt_two_pow hM hj2
              have HB2 : Hid (∀ u, u < n → ((M ||| 2 ^ q).testBit u = true ↔ u ∈ q :: seen)) := fun u hu => by
                rw [Nat.testBit_or, Nat.testBit_two_pow, Bool.or_eq_true, decide_eq_true_eq, HBIT.out u hu, List.mem_cons]
                exact ⟨fun h => h.elim .inr (fun e => .inl e.symm), fun h => h.elim (fun e => .inr e.symm) .inl⟩
              have E0 : ∀ w', exS w0 gt gout gf gn gex w' → w'.cell? ⟨gex, 0, none⟩ = some (.func (.func 122) #[] (capE gt gout gf gn gex)) := fun _ h => h.cell 0 0 rfl rfl
              have i9 : (0 : Int) ≤ (ids.length : Int) := by omega
              have hsl2 : ids.length ≤ 1048576 := by omega
              have HH := hid HS2.out
              have HNS := hid hs
              clear hw hs hbf hj2
              unfold capE at E0
              obtain ⟨_, _, hvB, hle⟩ := HL.out.form 3 rfl
              injection hvB with hv1 hv2 hv3
              subst hv1
              subst hv3
              clear hv2
              have HK := hid ((HH.out.blk_ w2.heap.size rfl 3 #[.int .i64 (j : Int)]).step (Cls.drew _))
              have HA : Hid (Sees elInt (w2.alloc (.cells #[.int .i64 (j : Int)] 3)).drew (w2.alloc (.cells #[.int .i64 (j : Int)] 3)).drew.heap.size B ids.length ids) := HK.out.seesI 4 rfl
              have HX : Hid (Sees elInt (w2.alloc (.cells #[.int .i64 (j : Int)] 3)).drew (w2.heap.size + 1) (some ⟨w2.heap.size, 0, none⟩) 1 [(j : Int)]) := (sees_new elInt w2 (j : Int) 3 _ rfl).keep (fun _ _ => rfl)
              have hS0 : exS w0 gt gout gf gn gex w2.drew := exS_of (HH.out.step (Cls.drew w2))
              have hS1 : exS w0 gt gout gf gn gex (w2.alloc (.cells #[.int .i64 (j : Int)] 3)).drew := exS_of (HK.out.drop 1)
              have hlj : (ids ++ [(j : Int)]).length = ids.length + 1 := by rw [List.length_append]; rfl
              have HLJ := hid hlj
              have hwb : w0.heap.size ≤ (w2.alloc (.cells #[.int .i64 (j : Int)] 3)).drew.heap.size := HK.out.bl.size
              have HWB := hid hwb
              have HCALL : Hid (∀ (B3 : Option Addr) (e3 : Nat) (w3 : World), Led w0 w3 (exT w0.heap.size V' ss' (rows ++ (rtsJ fs to k v seen ids j).map (fun r => ((s : Int), r))) gt gout gf gn gex (w2.alloc (.cells #[.int .i64 (j : Int)] 3)).drew.heap.size B3 e3 (ids ++ [(j : Int)]) (tOwns elInt b 3 (.slice B ids.length e) ids :: R)) →
                  Calls Try.prog 122 (#[.int .i64 (q : Int), .int .i64 (Go.bits .or .i64 (M : Int) (IntKind.i64.wrap ((2 : Int) ^ q))), .slice B3 (ids.length + 1) e3, .pointer (some ⟨gt, 0, none⟩), .pointer (some ⟨gout, 0, none⟩), .pointer (some ⟨gf, 0, none⟩), .pointer (some ⟨gn, 0, none⟩), .pointer (some ⟨gex, 0, none⟩)]) w3 fun e' w' => e' = .returned (.tuple #[]) ∧
                    ∃ V4 ss4, Led w0 w' (exT w0.heap.size V4 ss4 (rows ++ (rtsJ fs to k v seen ids (j + 1)).map (fun r => ((s : Int), r))) gt gout gf gn gex b B e ids R)) := fun B3 e3 w3 h3 => by
                have hc := HIH.out q (M ||| 2 ^ q) (q :: seen) (ids ++ [(j : Int)]) V' ss' _ (tOwns elInt b 3 (.slice B ids.length e) ids :: R) B3 e3 _ w3 (List.nodup_cons.2 ⟨HNS.out, HND.out⟩) (fun u hu => by
                  rcases List.mem_cons.1 hu with e | hu
                  · rw [e]; exact hq8
                  · exact HSN.out u hu) (by rw [List.length_cons]; have := HLEN.out; omega) hq8 HM2.out HB2.out HRL2.out (by rw [HLJ.out, List.length_cons]; have := HIL.out; omega) HWB.out h3
                rw [HW.out, HO.out]
                rw [HLJ.out] at hc
                refine hc.mono ?_
                rintro e' w' ⟨he', V4, ss4, h4⟩
                refine ⟨he', V4, ss4, ?_⟩
                rw [HN2.out, List.map_append, ← List.append_assoc]
                exact h4.exOut
              clear hwb hlj
              go_wp2_with fail
              go_region_held3 (fun w' => exS w0 gt gout gf gn gex w') (first | exact hS0 | exact hS1 | assumption)
                (first
                  | (refine step_append_full rfl _ _ rfl rfl HA.out rfl HX.out (by omega) ?_; intro v3 w3 ho3 hb3; obtain ⟨B3, e3, rfl, _⟩ := ho3.form; have HK3 := hid (Led.exIn (Led.skip1 (HK.out.owns hb3 ho3))); have hS3 := exS_of HK3.out)
                  | (go_at_call 122; with_reducible refine (HCALL.out _ _ _ HK3.out).mono ?_; rintro e4 w4 ⟨rfl, V4, ss4, h4⟩; have hS4 := exS_of h4))
              have H4 := hid h4
              clear hS0 hS1 hS3 hS4 h4 HCALL HK HK3
              go_wp2
              refine ⟨⟨j + 1, V4, ss4, by omega, by go_num, H4⟩, by simp [intOf]; omega⟩
        · have hjm : j = m := by omega
          have HE2 : Hid (rtsJ fs to k v seen ids j = rtsL fs to (k + 1) v seen ids) := by unfold Hid; rw [HR.out, hjm]
          go_wp2
          go_end0
          exact ⟨rfl, V', ss', by rw [← HE2.out]; exact HS.out⟩
end
end Go.Proofs.Ytfepilpllfiegaa
/- Distances by relaxing along fibers: as many rounds as there are nodes suffice. Plain Lean. Conditions: the fibers' ends are nodes, lengths are positive. -/
namespace Go.Proofs.Ytfepilpllfiegaa
/-- x is as good a distance as y; what is below 0 is none. -/
def better (x y : Int) : Prop := y < 0 ∨ (0 ≤ x ∧ x ≤ y)
theorem better_refl (x : Int) : better x x := by unfold better; omega
theorem better_trans {x y z : Int} (h : better x y) (k : better y z) : better x z := by unfold better at *; omega
/-- May v be reached better by way of u? -/
def canB (u v : Nat) (l : Int) (D : List Int) : Bool := decide (0 ≤ valL D u) && (decide (valL D v < 0) || decide (valL D u + l < valL D v))
def relax (u v : Nat) (l : Int) (D : List Int) : List Int := if canB u v l D then D.set v (valL D u + l) else D
/-- Each fiber there and back. -/
def arcU (fs : List Fib) (j : Nat) : Nat := if j % 2 = 0 then (fibD fs (j / 2)).a.toNat else (fibD fs (j / 2)).b.toNat
def arcV (fs : List Fib) (j : Nat) : Nat := if j % 2 = 0 then (fibD fs (j / 2)).b.toNat else (fibD fs (j / 2)).a.toNat
def arcLn (fs : List Fib) (j : Nat) : Int := (fibD fs (j / 2)).len
def dstTo (q : Nat → Bool) (fs : List Fib) (D : List Int) : Nat → List Int
  | 0 => D
  | j + 1 => if q (j / 2) then dstTo q fs D j else relax (arcU fs j) (arcV fs j) (arcLn fs j) (dstTo q fs D j)
theorem dstTo_succ (q : Nat → Bool) (fs : List Fib) (D : List Int) (j : Nat) : dstTo q fs D (j + 1) = if q (j / 2) then dstTo q fs D j else relax (arcU fs j) (arcV fs j) (arcLn fs j) (dstTo q fs D j) := rfl
theorem dstTo_no {q : Nat → Bool} {fs : List Fib} {D : List Int} {j : Nat} (h : q (j / 2) = false) : dstTo q fs D (j + 1) = relax (arcU fs j) (arcV fs j) (arcLn fs j) (dstTo q fs D j) := by rw [dstTo_succ, h]; rfl
def dstPass (q : Nat → Bool) (fs : List Fib) (D : List Int) : List Int := dstTo q fs D (2 * fs.length)
def dst0 (n s : Nat) : List Int := (List.replicate n (-1)).set s 0
def dstRnd (q : Nat → Bool) (fs : List Fib) (n s : Nat) : Nat → List Int
  | 0 => dst0 n s
  | k + 1 => dstPass q fs (dstRnd q fs n s k)
/-- The distances from s; -1 where there is no way. -/
def distL (q : Nat → Bool) (fs : List Fib) (n s : Nat) : List Int := dstRnd q fs n s n
/-- Lengths are positive. -/
def lensB (fs : List Fib) : Prop := ∀ i, i < fs.length → 1 ≤ (fibD fs i).len
section
variable {q : Nat → Bool} {fs : List Fib} {n s : Nat}
theorem arc_in (he : endsB n fs) {j : Nat} (hj : j < 2 * fs.length) : arcU fs j < n ∧ arcV fs j < n ∧ arcU fs j ≠ arcV fs j := by
  obtain ⟨h0, h1, h2⟩ := he (j / 2) (by omega)
  unfold arcU arcV
  split <;> omega
theorem arc_len (hl : lensB fs) {j : Nat} (hj : j < 2 * fs.length) : 1 ≤ arcLn fs j := hl _ (by omega)
theorem relax_len (u v : Nat) (l : Int) (D : List Int) : (relax u v l D).length = D.length := by unfold relax; split <;> simp
theorem relax_val {u v w : Nat} {l : Int} {D : List Int} (hv : v < D.length) : valL (relax u v l D) w = if w = v ∧ canB u v l D = true then valL D u + l else valL D w := by
  unfold relax
  cases h : canB u v l D
  · simp
  · simp only [if_true]
    rw [valL_set hv]
    by_cases e : w = v
    · simp [e]
    · simp [e]
theorem canB_iff {u v : Nat} {l : Int} {D : List Int} : canB u v l D = true ↔ 0 ≤ valL D u ∧ (valL D v < 0 ∨ valL D u + l < valL D v) := by
  unfold canB; simp
theorem dstTo_len (D : List Int) (j : Nat) : (dstTo q fs D j).length = D.length := by
  induction j with
  | zero => rfl
  | succ j ih => rw [dstTo_succ]; split; exact ih; rw [relax_len]; exact ih
theorem dst0_len : (dst0 n s).length = n := by simp [dst0]
theorem dstRnd_len (k : Nat) : (dstRnd q fs n s k).length = n := by
  induction k with
  | zero => exact dst0_len
  | succ k ih => show (dstPass q fs (dstRnd q fs n s k)).length = n; unfold dstPass; rw [dstTo_len]; exact ih
theorem distL_len : (distL q fs n s).length = n := dstRnd_len n
theorem dstTo_step {D : List Int} (hD : D.length = n) (he : endsB n fs) (hl : lensB fs) {j : Nat} (hj : j < 2 * fs.length) (w : Nat) : better (valL (dstTo q fs D (j + 1)) w) (valL (dstTo q fs D j) w) := by
  rw [dstTo_succ]
  split
  · exact better_refl _
  · obtain ⟨hu, hv, _⟩ := arc_in he hj
    have := arc_len hl hj
    rw [relax_val (by rw [dstTo_len, hD]; exact hv)]
    split
    · rename_i h
      have h2 := canB_iff.1 h.2
      rw [h.1]
      unfold better; omega
    · exact better_refl _
theorem dstTo_mono {D : List Int} (hD : D.length = n) (he : endsB n fs) (hl : lensB fs) {i j : Nat} (hij : i ≤ j) (hj : j ≤ 2 * fs.length) (w : Nat) : better (valL (dstTo q fs D j) w) (valL (dstTo q fs D i) w) := by
  induction j with
  | zero => rw [show i = 0 by omega]; exact better_refl _
  | succ j ih =>
    rcases Nat.lt_or_ge i (j + 1) with h | h
    · exact better_trans (dstTo_step hD he hl (by omega) w) (ih (by omega) (by omega))
    · rw [show i = j + 1 by omega]; exact better_refl _
theorem dstPass_better {D : List Int} (hD : D.length = n) (he : endsB n fs) (hl : lensB fs) (w : Nat) : better (valL (dstPass q fs D) w) (valL D w) := dstTo_mono hD he hl (Nat.zero_le _) (Nat.le_refl _) w
theorem dstPass_arc {D : List Int} (hD : D.length = n) (he : endsB n fs) (hl : lensB fs) {j : Nat} (hj : j < 2 * fs.length) (hq : q (j / 2) = false) (hu : 0 ≤ valL D (arcU fs j)) :
    0 ≤ valL (dstPass q fs D) (arcV fs j) ∧ valL (dstPass q fs D) (arcV fs j) ≤ valL D (arcU fs j) + arcLn fs j := by
  have h1 := dstTo_mono (q := q) hD he hl (Nat.zero_le j) (Nat.le_of_lt hj) (arcU fs j)
  have h2 := dstTo_mono (q := q) hD he hl (show j + 1 ≤ 2 * fs.length from hj) (Nat.le_refl _) (arcV fs j)
  have e0 : dstTo q fs D 0 = D := rfl
  rw [e0] at h1
  obtain ⟨hu', hv', _⟩ := arc_in he hj
  have hl1 := arc_len hl hj
  have h3 : valL (dstTo q fs D (j + 1)) (arcV fs j) = if arcV fs j = arcV fs j ∧ canB (arcU fs j) (arcV fs j) (arcLn fs j) (dstTo q fs D j) = true then valL (dstTo q fs D j) (arcU fs j) + arcLn fs j else valL (dstTo q fs D j) (arcV fs j) := by
    rw [dstTo_no hq]; exact relax_val (by rw [dstTo_len, hD]; exact hv')
  have h4 : 0 ≤ valL (dstTo q fs D (j + 1)) (arcV fs j) ∧ valL (dstTo q fs D (j + 1)) (arcV fs j) ≤ valL (dstTo q fs D j) (arcU fs j) + arcLn fs j := by
    rw [h3]
    unfold better at h1
    split
    · omega
    · rename_i h
      have hc : ¬ (canB (arcU fs j) (arcV fs j) (arcLn fs j) (dstTo q fs D j) = true) := fun hc => h ⟨rfl, hc⟩
      rw [canB_iff] at hc
      omega
  unfold dstPass
  unfold better at h1 h2
  omega
/-- Some arc leads to a distance of c at most that is better than what is known. -/
def impP (q : Nat → Bool) (fs : List Fib) (D : List Int) (c : Int) : Prop := ∃ j, j < 2 * fs.length ∧ q (j / 2) = false ∧ canB (arcU fs j) (arcV fs j) (arcLn fs j) D = true ∧ valL D (arcU fs j) + arcLn fs j ≤ c
theorem dstTo_stay {D : List Int} (hD : D.length = n) (he : endsB n fs) (hl : lensB fs) {c : Int} (hc : ¬ impP q fs D c) {j : Nat} (hj : j ≤ 2 * fs.length) :
    ∀ w, (0 ≤ valL D w → valL D w ≤ c → valL (dstTo q fs D j) w = valL D w) ∧ (0 ≤ valL (dstTo q fs D j) w → valL (dstTo q fs D j) w ≤ c → valL D w = valL (dstTo q fs D j) w) := by
  induction j with
  | zero => exact fun w => ⟨fun _ _ => rfl, fun _ _ => rfl⟩
  | succ j ih =>
    have ih := ih (by omega)
    intro w
    rw [dstTo_succ]
    cases hq : q (j / 2)
    · simp only [Bool.false_eq_true, if_false]
      obtain ⟨hu, hv, _⟩ := arc_in he (j := j) (by omega)
      have hl1 := arc_len hl (j := j) (by omega)
      rw [relax_val (by rw [dstTo_len, hD]; exact hv)]
      by_cases h : w = arcV fs j ∧ canB (arcU fs j) (arcV fs j) (arcLn fs j) (dstTo q fs D j) = true
      · rw [if_pos h]
        obtain ⟨hw, hcan⟩ := h
        have hcan' := canB_iff.1 hcan
        have iu := ih (arcU fs j)
        have iv := ih (arcV fs j)
        rw [← hw] at iv hcan'
        have key : ¬ (valL (dstTo q fs D j) (arcU fs j) + arcLn fs j ≤ c) := by
          intro hle
          have e1 := iu.2 hcan'.1 (by omega)
          have hno : ¬ (canB (arcU fs j) (arcV fs j) (arcLn fs j) D = true) := fun hx => hc ⟨j, by omega, hq, hx, by omega⟩
          rw [canB_iff, ← hw] at hno
          have := iv.1
          omega
        constructor
        · intro a1 a2
          have := iv.1 a1 a2
          omega
        · intro a1 a2; omega
      · rw [if_neg h]; exact ih w
    · simp only [if_true]; exact ih w
theorem dstPass_stay {D : List Int} (hD : D.length = n) (he : endsB n fs) (hl : lensB fs) {c : Int} (hc : ¬ impP q fs D c) (w : Nat) :
    (0 ≤ valL D w → valL D w ≤ c → valL (dstPass q fs D) w = valL D w) ∧ (0 ≤ valL (dstPass q fs D) w → valL (dstPass q fs D) w ≤ c → valL D w = valL (dstPass q fs D) w) := dstTo_stay hD he hl hc (Nat.le_refl _) w
theorem least_of {p : Nat → Prop} (h : ∃ k, p k) : ∃ k, p k ∧ ∀ j, j < k → ¬ p j := by
  obtain ⟨k, hk⟩ := h
  induction k using Nat.strongRecOn with
  | _ k ih =>
    rcases Classical.em (∃ j, j < k ∧ p j) with ⟨j, hj, hp⟩ | hno
    · exact ih j hj hp
    · exact ⟨k, hk, fun j hj hp => hno ⟨j, hj, hp⟩⟩
/-- How many nodes have a distance of c at most. -/
def cntD (n : Nat) (D : List Int) (c : Int) : Nat := (List.range n).countP fun v => decide (0 ≤ valL D v) && decide (valL D v ≤ c)
theorem val_repl (n v : Nat) : valL (List.replicate n (-1)) v = if v < n then -1 else 0 := by
  unfold valL
  by_cases h : v < n
  · rw [if_pos h]; simp [h]
  · rw [if_neg h]; simp [h]
theorem dst0_val (hs : s < n) (v : Nat) (hv : v < n) : valL (dst0 n s) v = if v = s then 0 else -1 := by
  unfold dst0
  rw [valL_set (by simp; exact hs), val_repl, if_pos hv]
/-- No arc leads on to a better distance. -/
def dstFix (q : Nat → Bool) (fs : List Fib) (D : List Int) : Prop := ∀ c, ¬ impP q fs D c
theorem dstFix_pass {D : List Int} (hD : D.length = n) (he : endsB n fs) (hl : lensB fs) (h : dstFix q fs D) : dstPass q fs D = D := by
  refine valL_ext (by unfold dstPass; rw [dstTo_len]) (fun v => ?_)
  have h1 := dstPass_stay hD he hl (h (valL D v)) v
  have h2 := dstPass_stay hD he hl (h (valL (dstPass q fs D) v)) v
  have h3 := dstPass_better (q := q) hD he hl v
  by_cases a : 0 ≤ valL D v
  · exact h1.1 a (Int.le_refl _)
  · by_cases b : 0 ≤ valL (dstPass q fs D) v
    · exact (h2.2 b (Int.le_refl _)).symm
    · -- both are none: no step has turned it
      suffices hh : ∀ j, j ≤ 2 * fs.length → valL (dstTo q fs D j) v = valL D v from hh _ (Nat.le_refl _)
      intro j
      induction j with
      | zero => intro _; rfl
      | succ j ih =>
        intro hj
        have ih := ih (by omega)
        have hmono := dstTo_mono (q := q) hD he hl hj (Nat.le_refl _) v
        unfold dstPass at b
        rw [dstTo_succ]
        cases hq : q (j / 2)
        · simp only [Bool.false_eq_true, if_false]
          obtain ⟨hu, hv, _⟩ := arc_in he (j := j) (by omega)
          have hl1 := arc_len hl (j := j) (by omega)
          have hval : valL (dstTo q fs D (j + 1)) v = if v = arcV fs j ∧ canB (arcU fs j) (arcV fs j) (arcLn fs j) (dstTo q fs D j) = true then valL (dstTo q fs D j) (arcU fs j) + arcLn fs j else valL (dstTo q fs D j) v := by
            rw [dstTo_no hq]; exact relax_val (by rw [dstTo_len, hD]; exact hv)
          rw [relax_val (by rw [dstTo_len, hD]; exact hv)]
          split
          · rename_i hx
            rw [if_pos hx] at hval
            have := (canB_iff.1 hx.2).1
            unfold better at hmono
            omega
          · exact ih
        · simp only [if_true]; exact ih
theorem dst_or (he : endsB n fs) (hl : lensB fs) (hs : s < n) (k : Nat) :
    dstFix q fs (dstRnd q fs n s k) ∨ ∃ c, ¬ impP q fs (dstRnd q fs n s k) c ∧ k + 1 ≤ cntD n (dstRnd q fs n s k) c := by
  induction k with
  | zero =>
    right
    refine ⟨0, ?_, ?_⟩
    · rintro ⟨j, hj, hq, hc, hle⟩
      have := arc_len hl hj
      have := (canB_iff.1 hc).1
      omega
    · show 0 < cntD n (dst0 n s) 0
      unfold cntD
      rw [List.countP_pos_iff]
      exact ⟨s, by simpa using hs, by rw [dst0_val hs s hs]; simp⟩
  | succ k ih =>
    have hD : (dstRnd q fs n s k).length = n := dstRnd_len k
    rcases Classical.em (dstFix q fs (dstRnd q fs n s k)) with hf | hf
    · left
      show dstFix q fs (dstPass q fs (dstRnd q fs n s k))
      rw [dstFix_pass hD he hl hf]; exact hf
    · right
      obtain ⟨c, hc, hk⟩ := ih.resolve_left hf
      have hex : ∃ t : Nat, impP q fs (dstRnd q fs n s k) (t : Int) := by
        have ⟨c', hc'⟩ : ∃ c', impP q fs (dstRnd q fs n s k) c' := Classical.byContradiction fun h => hf fun c' hc' => h ⟨c', hc'⟩
        obtain ⟨j, hj, hq, hcan, hle⟩ := hc'
        have := (canB_iff.1 hcan).1
        have := arc_len hl hj
        exact ⟨c'.toNat, j, hj, hq, hcan, by omega⟩
      obtain ⟨t, ht, hmin⟩ := least_of hex
      have hpos : 0 < t := by
        obtain ⟨j, hj, hq, hcan, hle⟩ := ht
        have := (canB_iff.1 hcan).1
        have := arc_len hl hj
        omega
      have hprev : ¬ impP q fs (dstRnd q fs n s k) ((t : Int) - 1) := by
        have := hmin (t - 1) (by omega)
        rwa [show ((t - 1 : Nat) : Int) = (t : Int) - 1 by omega] at this
      have hct : c < t := by
        apply Classical.byContradiction
        intro h
        obtain ⟨j, hj, hq, hcan, hle⟩ := ht
        exact hc ⟨j, hj, hq, hcan, by omega⟩
      have hstay := fun w => dstPass_stay hD he hl hprev w
      refine ⟨t, ?_, ?_⟩
      · rintro ⟨j, hj, hq, hcan, hle⟩
        have h1 := canB_iff.1 hcan
        have hl1 := arc_len hl hj
        change 0 ≤ valL (dstPass q fs (dstRnd q fs n s k)) _ ∧ (valL (dstPass q fs (dstRnd q fs n s k)) _ < 0 ∨ valL (dstPass q fs (dstRnd q fs n s k)) _ + _ < valL (dstPass q fs (dstRnd q fs n s k)) _) at h1
        change valL (dstPass q fs (dstRnd q fs n s k)) _ + _ ≤ _ at hle
        have h2 := (hstay (arcU fs j)).2 h1.1 (by omega)
        have h3 := dstPass_arc (q := q) hD he hl hj hq (by omega)
        omega
      · have hlt : cntD n (dstRnd q fs n s k) c < cntD n (dstRnd q fs n s (k + 1)) t := by
          refine countP_lt (fun v _ hv => ?_) ?_
          · simp only [Bool.and_eq_true, decide_eq_true_eq] at hv ⊢
            have := (hstay v).1 hv.1 (by omega)
            show 0 ≤ valL (dstPass q fs (dstRnd q fs n s k)) v ∧ valL (dstPass q fs (dstRnd q fs n s k)) v ≤ t
            omega
          · obtain ⟨j, hj, hq, hcan, hle⟩ := ht
            have h1 := canB_iff.1 hcan
            have hl1 := arc_len hl hj
            have h3 := dstPass_arc (q := q) hD he hl hj hq h1.1
            refine ⟨arcV fs j, by simpa using (arc_in he hj).2.1, ?_, ?_⟩
            · have hge : ¬ (valL (dstRnd q fs n s k) (arcU fs j) + arcLn fs j ≤ c) := fun h => hc ⟨j, hj, hq, hcan, h⟩
              have : ¬ (0 ≤ valL (dstRnd q fs n s k) (arcV fs j) ∧ valL (dstRnd q fs n s k) (arcV fs j) ≤ c) := by omega
              simpa using this
            · simp only [Bool.and_eq_true, decide_eq_true_eq]
              show 0 ≤ valL (dstPass q fs (dstRnd q fs n s k)) _ ∧ valL (dstPass q fs (dstRnd q fs n s k)) _ ≤ t
              omega
        omega
theorem distL_fixed (he : endsB n fs) (hl : lensB fs) (hs : s < n) : dstFix q fs (distL q fs n s) := by
  rcases dst_or (q := q) he hl hs n with h | ⟨c, _, h⟩
  · exact h
  · have : cntD n (dstRnd q fs n s n) c ≤ n := by unfold cntD; exact Nat.le_trans List.countP_le_length (by simp)
    omega
theorem distL_fix (he : endsB n fs) (hl : lensB fs) (hs : s < n) : dstPass q fs (distL q fs n s) = distL q fs n s := dstFix_pass distL_len he hl (distL_fixed he hl hs)
theorem dstRnd_stay {k : Nat} (h : dstRnd q fs n s (k + 1) = dstRnd q fs n s k) : ∀ j, k ≤ j → dstRnd q fs n s j = dstRnd q fs n s k := by
  intro j
  induction j with
  | zero => intro hk; rw [show k = 0 by omega]
  | succ j ih =>
    intro hk
    rcases Nat.lt_or_ge j k with h1 | h1
    · rw [show k = j + 1 by omega]
    · show dstPass q fs (dstRnd q fs n s j) = _
      rw [ih h1]; exact h
theorem dstRnd_done (he : endsB n fs) (hl : lensB fs) (hs : s < n) {k : Nat} (h : dstRnd q fs n s (k + 1) = dstRnd q fs n s k) : dstRnd q fs n s k = distL q fs n s := by
  rcases Nat.le_total k n with h1 | h1
  · exact (dstRnd_stay h n h1).symm
  · exact dstRnd_stay (distL_fix he hl hs) k h1
theorem dstRnd_late (he : endsB n fs) (hl : lensB fs) (hs : s < n) {k : Nat} (h : n ≤ k) : dstRnd q fs n s (k + 1) = dstRnd q fs n s k := by
  rw [dstRnd_stay (distL_fix (q := q) he hl hs) k h, dstRnd_stay (distL_fix (q := q) he hl hs) (k + 1) (by omega)]
/-- Has one of the first j arcs turned a distance? -/
def dchB (q : Nat → Bool) (fs : List Fib) (D : List Int) : Nat → Bool
  | 0 => false
  | j + 1 => dchB q fs D j || (!q (j / 2) && canB (arcU fs j) (arcV fs j) (arcLn fs j) (dstTo q fs D j))
theorem dchB_no {D : List Int} {j : Nat} (h : dchB q fs D j = false) : dstTo q fs D j = D := by
  induction j with
  | zero => rfl
  | succ j ih =>
    unfold dchB at h
    rw [Bool.or_eq_false_iff] at h
    have ih := ih h.1
    rw [dstTo_succ]
    cases hq : q (j / 2)
    · have h2 := h.2
      rw [hq] at h2
      simp only [Bool.false_eq_true, if_false]
      unfold relax
      rw [if_neg (by simpa using h2)]
      exact ih
    · simp only [if_true]; exact ih
theorem dchB_yes {D : List Int} (hD : D.length = n) (he : endsB n fs) (hl : lensB fs) {j : Nat} (hj : j ≤ 2 * fs.length) (h : dchB q fs D j = true) : dstPass q fs D ≠ D := by
  have ⟨i, hi, hq, hc⟩ : ∃ i, i < 2 * fs.length ∧ q (i / 2) = false ∧ canB (arcU fs i) (arcV fs i) (arcLn fs i) (dstTo q fs D i) = true := by
    induction j with
    | zero => cases h
    | succ j ih =>
      unfold dchB at h
      rcases Bool.or_eq_true_iff.1 h with h | h
      · exact ih (by omega) h
      · exact ⟨j, by omega, by simpa using (Bool.and_eq_true_iff.1 h).1, (Bool.and_eq_true_iff.1 h).2⟩
  intro hEq
  obtain ⟨hu, hv, _⟩ := arc_in he hi
  have hl1 := arc_len hl hi
  have h1 := canB_iff.1 hc
  have e : valL (dstTo q fs D (i + 1)) (arcV fs i) = valL (dstTo q fs D i) (arcU fs i) + arcLn fs i := by
    rw [dstTo_no hq, relax_val (by rw [dstTo_len, hD]; exact hv), if_pos ⟨rfl, hc⟩]
  have k1 := dstTo_mono (q := q) hD he hl (show i + 1 ≤ 2 * fs.length from hi) (Nat.le_refl _) (arcV fs i)
  have k2 := dstTo_mono (q := q) hD he hl (Nat.zero_le i) (Nat.le_of_lt hi) (arcV fs i)
  have e0 : dstTo q fs D 0 = D := rfl
  have em : dstTo q fs D (2 * fs.length) = D := hEq
  rw [e0] at k2
  rw [em, e] at k1
  unfold better at k1 k2
  omega
/-- All but the start lie away. -/
theorem dstRnd_pos (he : endsB n fs) (hl : lensB fs) (hs : s < n) (k : Nat) : ∀ v, v < n → (v = s → valL (dstRnd q fs n s k) v = 0) ∧ (v ≠ s → valL (dstRnd q fs n s k) v = -1 ∨ 1 ≤ valL (dstRnd q fs n s k) v) := by
  induction k with
  | zero =>
    intro v hv
    show (_ → valL (dst0 n s) v = 0) ∧ (_ → valL (dst0 n s) v = -1 ∨ _)
    rw [dst0_val hs v hv]
    exact ⟨fun h => if_pos h, fun h => .inl (if_neg h)⟩
  | succ k ih =>
    have hD : (dstRnd q fs n s k).length = n := dstRnd_len k
    suffices h : ∀ j, j ≤ 2 * fs.length → ∀ v, v < n → (v = s → valL (dstTo q fs (dstRnd q fs n s k) j) v = 0) ∧ (v ≠ s → valL (dstTo q fs (dstRnd q fs n s k) j) v = -1 ∨ 1 ≤ valL (dstTo q fs (dstRnd q fs n s k) j) v) from h _ (Nat.le_refl _)
    intro j
    induction j with
    | zero => exact fun _ => ih
    | succ j ih2 =>
      intro hj v hv
      have i2 := ih2 (by omega)
      rw [dstTo_succ]
      split
      · exact i2 v hv
      · obtain ⟨hu, hv', _⟩ := arc_in he (j := j) (by omega)
        have hl1 := arc_len hl (j := j) (by omega)
        rw [relax_val (by rw [dstTo_len, hD]; exact hv')]
        split
        · rename_i hx
          have hc := canB_iff.1 hx.2
          have := i2 v hv
          rw [← hx.1] at hc
          refine ⟨fun e => ?_, fun _ => .inr (by omega)⟩
          have := this.1 e
          omega
        · exact i2 v hv
theorem distL_pos (he : endsB n fs) (hl : lensB fs) (hs : s < n) {v : Nat} (hv : v < n) : (v = s → valL (distL q fs n s) v = 0) ∧ (v ≠ s → valL (distL q fs n s) v = -1 ∨ 1 ≤ valL (distL q fs n s) v) := dstRnd_pos he hl hs n v hv
end
end Go.Proofs.Ytfepilpllfiegaa
