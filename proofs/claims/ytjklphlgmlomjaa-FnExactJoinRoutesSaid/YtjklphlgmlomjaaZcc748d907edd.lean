/- Lemmas and walks that the claim rests on, laid together. Conditions: none. -/
import Derived.Test.YtjklphlgmlomjaaZb082620ab1f1
import Derived.Test.YtjklphlgmlomjaaZ8c7ec3a8694e
import Derived.Deep.RegionHeld3
/- JoinRoutes of both sides, walked. Conditions: none. -/
namespace Go.Proofs.Ytjklphlgmlomjaa
open Go.RowKit
/-- May two routes be joined? -/
def jnB (xs : List ByteArray) (fs : List Fib) (s : Int) (ids : List Int) (t : Int) (jds : List Int) : Bool := ((routeB xs fs s ids && routeB xs fs t jds) && (atW fs s ids ids.length == t)) && routeB xs fs s (ids ++ jds)
def jnS (xs : List ByteArray) (fs : List Fib) (s : Int) (ids : List Int) (t : Int) (jds : List Int) : Int := if jnB xs fs s ids t jds then s else 0
def jnL (xs : List ByteArray) (fs : List Fib) (s : Int) (ids : List Int) (t : Int) (jds : List Int) : List Int := if jnB xs fs s ids t jds then ids ++ jds else []
theorem jnL_len {xs : List ByteArray} {fs : List Fib} {s t : Int} {ids jds : List Int} : (jnL xs fs s ids t jds).length ≤ 14 := by
  unfold jnL
  cases g : jnB xs fs s ids t jds
  · simp
  · unfold jnB at g
    rw [Bool.and_eq_true, Bool.and_eq_true, Bool.and_eq_true] at g
    have h1 := (routeB_short g.1.1.1).1
    have h2 := (routeB_short g.1.1.2).1
    simp; omega
theorem l1Own_any {B n c : Nat} {A : Option Addr} {xs : List Int} (w : World) (hA : Sees elInt w B A n xs) (hn : n ≤ 1048576) :
    Calls Try.prog 74 #[.slice A n c] w fun e w' => ∃ v, e = .returned v ∧ Owns elInt w' w.heap.size 3 v xs ∧ Below w.heap.size w w' := by
  obtain ⟨i0, hi, hz0, hz1, hz2⟩ := info_parts int_info
  have hS := (Led.nil w).empty elInt 3 w.heap.size rfl w.heap.size (Nat.le_refl _)
  go_enter Try.func74, Try.ntmps74
  go_wp2_with (first
    | (at_builtin; refine wpList_append_led rfl _ _ 26 rfl hS 0 rfl Try.underlying26 hi hz0 hz1 (by rw [hz2]; decide) rfl rfl rfl (hA.grow hS.bl) (by simp; omega) (by simp) ?_)
    | go_in)
  intro A' c' w1 hS1
  go_wp2
  go_ret
  exact ⟨_, rfl, hS1.own 0 rfl, hS1.bl⟩
theorem calls_eq {P : Program} {f : FuncId} {args : Array Value} {w : World} {v v' : Value} (h : Calls P f args w fun e w' => e = .returned v ∧ Below w.heap.size w w') (e : v = v') : Calls P f args w fun e w' => e = .returned v' ∧ Below w.heap.size w w' := by subst e; exact h
section
variable {n c m d er eq : Nat} {A A' R Q : Option Addr} {xs : List ByteArray} {fs : List Fib} {ids jds : List Int} {s t : Int}
set_option maxHeartbeats 4000000 in
set_option maxRecDepth 100000 in
theorem implJoin (w : World) (h : NetIs w A n c A' m d xs fs) (hr : RtIs w R ids.length er ids) (hq : RtIs w Q jds.length eq jds) (s t : Int) :
    Calls Try.prog 29 #[.agg #[.slice A n c, .slice A' m d], .agg #[.int .i64 s, .slice R ids.length er], .agg #[.int .i64 t, .slice Q jds.length eq]] w fun e w' => ∃ R' c', e = .returned (.tuple #[.agg #[.int .i64 (jnS xs fs s ids t jds), .slice R' (jnL xs fs s ids t jds).length c'], .bool (jnB xs fs s ids t jds)]) ∧ Owns elInt w' w.heap.size 3 (.slice R' (jnL xs fs s ids t jds).length c') (jnL xs fs s ids t jds) ∧ Below w.heap.size w w' := by
  have hS := ((((Led.nil w).blk_ w.heap.size rfl 35 #[.slice A n c, .slice A' m d]).blk_ (w.heap.size + 1) (by simp) 37 #[.int .i64 s, .slice R ids.length er]).blk_ (w.heap.size + 1 + 1) (by simp) 37 #[.int .i64 t, .slice Q jds.length eq]).blk_ (w.heap.size + 1 + 1 + 1) (by simp) 37 #[.int .i64 0, .slice none 0 0]
  have HN := hid h
  have HR := hid hr
  have HQ := hid hq
  clear h hr hq
  cases g : (routeB xs fs s ids && routeB xs fs t jds)
  · skip
    have H : Hid (jnB xs fs s ids t jds = false) := by unfold Hid jnB; rw [g]; simp
    have H1 : Hid (jnS xs fs s ids t jds = 0 ∧ jnL xs fs s ids t jds = []) := by unfold Hid jnS jnL; rw [H.out]; exact ⟨rfl, rfl⟩
    rw [H.out, H1.out.1, H1.out.2]
    go_enter Try.func29, Try.ntmps29
    go_wp2_with fail
    generalize (((w.alloc (.cells #[.slice A n c, .slice A' m d] 35)).alloc (.cells #[.int .i64 s, .slice R ids.length er] 37)).alloc (.cells #[.int .i64 t, .slice Q jds.length eq] 37)).alloc (.cells #[.int .i64 0, .slice none 0 0] 37) = W1 at *
    have C0 : ∀ w', Cls W1 w' → w'.cell? ⟨w.heap.size, 0, none⟩ = some (.slice A n c) := fun _ h => h.cell (hS.cell 3 0 rfl rfl)
    have C1 : ∀ w', Cls W1 w' → w'.cell? ⟨w.heap.size, 1, none⟩ = some (.slice A' m d) := fun _ h => h.cell (hS.cell 3 1 rfl rfl)
    have C2 : ∀ w', Cls W1 w' → w'.cell? ⟨w.heap.size + 1, 0, none⟩ = some (.int .i64 s) := fun _ h => h.cell (hS.cell 2 0 rfl rfl)
    have C3 : ∀ w', Cls W1 w' → w'.cell? ⟨w.heap.size + 1, 1, none⟩ = some (.slice R ids.length er) := fun _ h => h.cell (hS.cell 2 1 rfl rfl)
    have C4 : ∀ w', Cls W1 w' → w'.cell? ⟨w.heap.size + 1 + 1, 0, none⟩ = some (.int .i64 t) := fun _ h => h.cell (hS.cell 1 0 rfl rfl)
    have C5 : ∀ w', Cls W1 w' → w'.cell? ⟨w.heap.size + 1 + 1, 1, none⟩ = some (.slice Q jds.length eq) := fun _ h => h.cell (hS.cell 1 1 rfl rfl)
    have HL := hid (fun w' (h : Cls W1 w') => hS.step h)
    clear hS
    try go_wp2_with fail
    refine region_cls (by kernel_rfl) (by kernel_rfl) ?_
    repeat (first
      | ((with_reducible refine quiet_pos ?_ (fun K hK => ?_))
         · rfl
         apply Exists.intro
         refine ⟨fun w' hw' => ?_, ?_⟩
         · go_simp
           first
             | with_reducible rfl
             | (go_at_call 63; exact hw'.call (calls_eq (areRoutes_any (s := s) (t := t) _ (HN.out.grow (HL.out _ hw').bl) (HR.out.grow (HL.out _ hw').bl) (HQ.out.grow (HL.out _ hw').bl)) (by rw [g])))
         simp only [Act.put, List.setIfInBounds_toArray, List.set_cons_zero, List.set_cons_succ]
         refine hK _ ?_; clear hK K)
      | ((with_reducible refine quiet_neg ?_ (fun K hK => ?_))
         · rfl
         simp only [Act.put, List.setIfInBounds_toArray, List.set_cons_zero, List.set_cons_succ]
         refine hK _ ?_; clear hK K))
    with_reducible refine wpQuiet_nil ?_
    intro wz hwz'
    have HZ := hid (HL.out _ hwz')
    clear hwz'
    have y0 := HZ.out.cell 0 0 rfl rfl
    have y1 := HZ.out.cell 0 1 rfl rfl
    have z0 := HZ.out.frozen 0 0 rfl
    have z1 := HZ.out.frozen 0 1 rfl
    have HE := hid ((HZ.out.set 0 rfl 0 (.int .i64 0)).set 0 rfl 1 (.slice none 0 0))
    clear HL C0 C1 C2 C3 C4 C5
    go_wp2
    exact bodyPost_ret (v := .tuple #[.agg #[.int .i64 0, .slice none 0 0], .bool false]) (by simp [results, Try.results29, go_sem, y0, y1]) rfl
      ⟨none, 0, rfl, World.ownsRow_nil _ _ _ _, HE.out.bl⟩
  · skip
    obtain ⟨ga, gb⟩ := (Bool.and_eq_true _ _).mp g
    obtain ⟨hg, hrt⟩ := routeB_good ga
    rw [HN.out.xlen] at hrt
    have HRT := hid hrt
    have h7 := (routeB_short ga).1
    have h8 := (routeB_short gb).1
    obtain ⟨z, hz⟩ : ∃ z, z = atW fs s ids ids.length := ⟨_, rfl⟩
    have HAT : Hid (atW fs s ids ids.length = z) := hz.symm
    clear hz hrt hg
    cases g2 : (z == t)
    · skip
      have g3 : (z != t) = true := by simpa using g2
      have H : Hid (jnB xs fs s ids t jds = false) := by unfold Hid jnB; rw [g, HAT.out, g2]; simp
      have H1 : Hid (jnS xs fs s ids t jds = 0 ∧ jnL xs fs s ids t jds = []) := by unfold Hid jnS jnL; rw [H.out]; exact ⟨rfl, rfl⟩
      rw [H.out, H1.out.1, H1.out.2]
      go_enter Try.func29, Try.ntmps29
      go_wp2_with fail
      generalize (((w.alloc (.cells #[.slice A n c, .slice A' m d] 35)).alloc (.cells #[.int .i64 s, .slice R ids.length er] 37)).alloc (.cells #[.int .i64 t, .slice Q jds.length eq] 37)).alloc (.cells #[.int .i64 0, .slice none 0 0] 37) = W1 at *
      have C0 : ∀ w', Cls W1 w' → w'.cell? ⟨w.heap.size, 0, none⟩ = some (.slice A n c) := fun _ h => h.cell (hS.cell 3 0 rfl rfl)
      have C1 : ∀ w', Cls W1 w' → w'.cell? ⟨w.heap.size, 1, none⟩ = some (.slice A' m d) := fun _ h => h.cell (hS.cell 3 1 rfl rfl)
      have C2 : ∀ w', Cls W1 w' → w'.cell? ⟨w.heap.size + 1, 0, none⟩ = some (.int .i64 s) := fun _ h => h.cell (hS.cell 2 0 rfl rfl)
      have C3 : ∀ w', Cls W1 w' → w'.cell? ⟨w.heap.size + 1, 1, none⟩ = some (.slice R ids.length er) := fun _ h => h.cell (hS.cell 2 1 rfl rfl)
      have C4 : ∀ w', Cls W1 w' → w'.cell? ⟨w.heap.size + 1 + 1, 0, none⟩ = some (.int .i64 t) := fun _ h => h.cell (hS.cell 1 0 rfl rfl)
      have C5 : ∀ w', Cls W1 w' → w'.cell? ⟨w.heap.size + 1 + 1, 1, none⟩ = some (.slice Q jds.length eq) := fun _ h => h.cell (hS.cell 1 1 rfl rfl)
      have HL := hid (fun w' (h : Cls W1 w') => hS.step h)
      clear hS
      try go_wp2_with fail
      refine region_cls (by kernel_rfl) (by kernel_rfl) ?_
      repeat (first
        | ((with_reducible refine quiet_pos ?_ (fun K hK => ?_))
           · rfl
           apply Exists.intro
           refine ⟨fun w' hw' => ?_, ?_⟩
           · go_simp
             first
               | with_reducible rfl
               | (go_at_call 63; exact hw'.call (calls_eq (areRoutes_any (s := s) (t := t) _ (HN.out.grow (HL.out _ hw').bl) (HR.out.grow (HL.out _ hw').bl) (HQ.out.grow (HL.out _ hw').bl)) (by rw [g])))
               | (go_at_call 65; exact hw'.call (calls_eq (endOf_any (s := s) _ (HN.out.grow (HL.out _ hw').bl) (HR.out.grow (HL.out _ hw').bl) HRT.out) (by rw [HAT.out])))
           simp only [Act.put, List.setIfInBounds_toArray, List.set_cons_zero, List.set_cons_succ]
           refine hK _ ?_; clear hK K)
        | ((with_reducible refine quiet_neg ?_ (fun K hK => ?_))
           · rfl
           simp only [Act.put, List.setIfInBounds_toArray, List.set_cons_zero, List.set_cons_succ]
           refine hK _ ?_; clear hK K))
      with_reducible refine wpQuiet_nil ?_
      intro wz hwz'
      have HZ := hid (HL.out _ hwz')
      clear hwz'
      have y0 := HZ.out.cell 0 0 rfl rfl
      have y1 := HZ.out.cell 0 1 rfl rfl
      have z0 := HZ.out.frozen 0 0 rfl
      have z1 := HZ.out.frozen 0 1 rfl
      have HE := hid ((HZ.out.set 0 rfl 0 (.int .i64 0)).set 0 rfl 1 (.slice none 0 0))
      clear HL C0 C1 C2 C3 C4 C5
      go_wp2
      exact bodyPost_ret (v := .tuple #[.agg #[.int .i64 0, .slice none 0 0], .bool false]) (by simp [results, Try.results29, go_sem, y0, y1]) rfl
        ⟨none, 0, rfl, World.ownsRow_nil _ _ _ _, HE.out.bl⟩
    · skip
      have g3 : (z != t) = false := by simpa using g2
      have hzt : z = t := by simpa using g2
      obtain ⟨J, hK⟩ : ∃ J, J = ids ++ jds := ⟨_, rfl⟩
      have HK : Hid (ids ++ jds = J) := hK.symm
      have HKl : Hid (J.length = ids.length + jds.length) := by unfold Hid; rw [hK, List.length_append]
      clear hK
      have H : Hid (jnB xs fs s ids t jds = routeB xs fs s J) := by unfold Hid jnB; rw [g, HAT.out, g2, HK.out]; rfl
      have H1 : Hid (jnS xs fs s ids t jds = if routeB xs fs s J then s else 0) := by unfold Hid jnS; rw [H.out]
      have H2 : Hid (jnL xs fs s ids t jds = if routeB xs fs s J then J else []) := by unfold Hid jnL; rw [H.out, HK.out]
      go_enter Try.func29, Try.ntmps29
      go_wp2_with fail
      generalize (((w.alloc (.cells #[.slice A n c, .slice A' m d] 35)).alloc (.cells #[.int .i64 s, .slice R ids.length er] 37)).alloc (.cells #[.int .i64 t, .slice Q jds.length eq] 37)).alloc (.cells #[.int .i64 0, .slice none 0 0] 37) = W1 at *
      have C0 : ∀ w', Cls W1 w' → w'.cell? ⟨w.heap.size, 0, none⟩ = some (.slice A n c) := fun _ h => h.cell (hS.cell 3 0 rfl rfl)
      have C1 : ∀ w', Cls W1 w' → w'.cell? ⟨w.heap.size, 1, none⟩ = some (.slice A' m d) := fun _ h => h.cell (hS.cell 3 1 rfl rfl)
      have C2 : ∀ w', Cls W1 w' → w'.cell? ⟨w.heap.size + 1, 0, none⟩ = some (.int .i64 s) := fun _ h => h.cell (hS.cell 2 0 rfl rfl)
      have C3 : ∀ w', Cls W1 w' → w'.cell? ⟨w.heap.size + 1, 1, none⟩ = some (.slice R ids.length er) := fun _ h => h.cell (hS.cell 2 1 rfl rfl)
      have C4 : ∀ w', Cls W1 w' → w'.cell? ⟨w.heap.size + 1 + 1, 0, none⟩ = some (.int .i64 t) := fun _ h => h.cell (hS.cell 1 0 rfl rfl)
      have C5 : ∀ w', Cls W1 w' → w'.cell? ⟨w.heap.size + 1 + 1, 1, none⟩ = some (.slice Q jds.length eq) := fun _ h => h.cell (hS.cell 1 1 rfl rfl)
      have HL := hid (fun w' (h : Cls W1 w') => hS.step h)
      clear hS
      try go_wp2_with fail
      refine region_cls (by kernel_rfl) (by kernel_rfl) ?_
      repeat (first
        | ((with_reducible refine quiet_pos ?_ (fun K hK => ?_))
           · rfl
           apply Exists.intro
           refine ⟨fun w' hw' => ?_, ?_⟩
           · go_simp
             first
               | with_reducible rfl
               | (go_at_call 63; exact hw'.call (calls_eq (areRoutes_any (s := s) (t := t) _ (HN.out.grow (HL.out _ hw').bl) (HR.out.grow (HL.out _ hw').bl) (HQ.out.grow (HL.out _ hw').bl)) (by rw [g])))
               | (go_at_call 65; exact hw'.call (calls_eq (endOf_any (s := s) _ (HN.out.grow (HL.out _ hw').bl) (HR.out.grow (HL.out _ hw').bl) HRT.out) (by rw [HAT.out])))
           simp only [Act.put, List.setIfInBounds_toArray, List.set_cons_zero, List.set_cons_succ]
           refine hK _ ?_; clear hK K)
        | ((with_reducible refine quiet_neg ?_ (fun K hK => ?_))
           · rfl
           simp only [Act.put, List.setIfInBounds_toArray, List.set_cons_zero, List.set_cons_succ]
           refine hK _ ?_; clear hK K))
      with_reducible refine wpQuiet_nil ?_
      intro wz hwz'
      have hS := HL.out _ hwz'
      clear hwz' HL C0 C1 C2 C3 C4 C5
      have C0 : ∀ w', Cls wz w' → w'.cell? ⟨w.heap.size, 0, none⟩ = some (.slice A n c) := fun _ h => h.cell (hS.cell 3 0 rfl rfl)
      have C1 : ∀ w', Cls wz w' → w'.cell? ⟨w.heap.size, 1, none⟩ = some (.slice A' m d) := fun _ h => h.cell (hS.cell 3 1 rfl rfl)
      have C2 : ∀ w', Cls wz w' → w'.cell? ⟨w.heap.size + 1, 0, none⟩ = some (.int .i64 s) := fun _ h => h.cell (hS.cell 2 0 rfl rfl)
      have C3 : ∀ w', Cls wz w' → w'.cell? ⟨w.heap.size + 1, 1, none⟩ = some (.slice R ids.length er) := fun _ h => h.cell (hS.cell 2 1 rfl rfl)
      have C4 : ∀ w', Cls wz w' → w'.cell? ⟨w.heap.size + 1 + 1, 0, none⟩ = some (.int .i64 t) := fun _ h => h.cell (hS.cell 1 0 rfl rfl)
      have C5 : ∀ w', Cls wz w' → w'.cell? ⟨w.heap.size + 1 + 1, 1, none⟩ = some (.slice Q jds.length eq) := fun _ h => h.cell (hS.cell 1 1 rfl rfl)
      have HL := hid (fun w' (h : Cls wz w') => hS.step h)
      clear hS
      go_wp2_with fail
      go_region_held3 (fun w' => Cls wz w') (first | exact Cls.refl _ | exact Cls.drew _ | assumption | exact Cls.next (by assumption) (by assumption) | exact bl_alloc (by assumption) _ | exact bl_alloc (Cls.drew _) _ | exact (bl_alloc (Cls.refl _) _).drew | exact bl_set (bl_set (by assumption) _ (by simp)) _ (by simp))
        (first
          | (go_at_call 75; first
            | (have hlB := hid (((HL.out wz (Cls.refl _)).blk_ wz.heap.size rfl 26 #[.slice R ids.length er, .slice Q jds.length eq]).step (Cls.drew _)); have hcc := concat2_any _ (hlB.out.get 0 rfl) ((HR.out.grow hlB.out.bl).2) ((HQ.out.grow hlB.out.bl).2) (by omega) (by omega); with_reducible refine hcc.mono ?_; clear hcc; rintro e w3 ⟨v3, rfl, ho3, hb3⟩; rw [HK.out] at ho3; obtain ⟨A3, c3, hv3, _⟩ := ho3.form; subst hv3; have hcl3 : Cls wz _ := Cls.next hb3 (by assumption); have hlA := hlB.out.owns hb3 ho3)
            | (have hlB := hid ((((HL.out wz (Cls.refl _)).blk_ wz.heap.size rfl 26 #[.slice R ids.length er, .slice Q jds.length eq]).blk_ (wz.heap.size + 1) (by simp) 37 #[.int .i64 0, .slice none 0 0]).step (Cls.drew _)); have hcc := concat2_any _ (hlB.out.get 1 rfl) ((HR.out.grow hlB.out.bl).2) ((HQ.out.grow hlB.out.bl).2) (by omega) (by omega); with_reducible refine hcc.mono ?_; clear hcc; rintro e w3 ⟨v3, rfl, ho3, hb3⟩; rw [HK.out] at ho3; obtain ⟨A3, c3, hv3, _⟩ := ho3.form; subst hv3; have hcl3 : Cls wz _ := Cls.next hb3 (by assumption); have hlA := hlB.out.owns hb3 ho3; have q4 := hlA.cell 1 0 rfl rfl; have q5 := hlA.cell 1 1 rfl rfl; have z4 := hlA.frozen 1 0 rfl; have z5 := hlA.frozen 1 1 rfl)
            | (have hlB := hid ((((HL.out wz (Cls.refl _)).blk_ wz.heap.size rfl 37 #[.int .i64 0, .slice none 0 0]).blk_ (wz.heap.size + 1) (by simp) 26 #[.slice R ids.length er, .slice Q jds.length eq]).step (Cls.drew _)); have hcc := concat2_any _ (hlB.out.get 0 rfl) ((HR.out.grow hlB.out.bl).2) ((HQ.out.grow hlB.out.bl).2) (by omega) (by omega); with_reducible refine hcc.mono ?_; clear hcc; rintro e w3 ⟨v3, rfl, ho3, hb3⟩; rw [HK.out] at ho3; obtain ⟨A3, c3, hv3, _⟩ := ho3.form; subst hv3; have hcl3 : Cls wz _ := Cls.next hb3 (by assumption); have hlA := hlB.out.owns hb3 ho3; have q4 := hlA.cell 2 0 rfl rfl; have q5 := hlA.cell 2 1 rfl rfl; have z4 := hlA.frozen 2 0 rfl; have z5 := hlA.frozen 2 1 rfl)))
      · have HZ := hid (hlA.blk_ w3.heap.size rfl 37 #[.int .i64 s, .slice A3 J.length c3])
        have hwb := hlB.out.bl.size
        have p0 := HZ.out.cell 6 0 rfl rfl
        have p1 := HZ.out.cell 6 1 rfl rfl
        have p2 := HZ.out.cell 0 0 rfl rfl
        have p3 := HZ.out.cell 0 1 rfl rfl
        clear hlA hlB ho3 hb3 hcl3 HL C0 C1 C2 C3 C4 C5
        go_wp2_with fail
        refine (implIsValidRoute s _ (HN.out.grow HZ.out.bl) (HZ.out.rt 1 rfl (by have := HKl.out; omega))).mono ?_
        rintro e w5 ⟨rfl, hb5⟩
        have HZ5 := hid (HZ.out.step hb5)
        clear hb5 p0 p1 p2 p3
        cases g4 : routeB xs fs s J
        · have e1 : Hid (jnS xs fs s ids t jds = 0) := by unfold Hid; rw [H1.out, g4]; rfl
          have e2 : Hid (jnL xs fs s ids t jds = []) := by unfold Hid; rw [H2.out, g4]; rfl
          have e3 : Hid (jnB xs fs s ids t jds = false) := by unfold Hid; rw [H.out, g4]
          have y0 := HZ5.out.cell 3 0 rfl rfl
          have y1 := HZ5.out.cell 3 1 rfl rfl
          have z0 := HZ5.out.frozen 3 0 rfl
          have z1 := HZ5.out.frozen 3 1 rfl
          have HE := hid ((HZ5.out.set 3 rfl 0 (.int .i64 0)).set 3 rfl 1 (.slice none 0 0))
          clear g4
          go_wp2
          exact bodyPost_ret (v := .tuple #[.agg #[.int .i64 0, .slice none 0 0], .bool false]) (by simp [results, Try.results29, go_sem, y0, y1]) rfl
            ⟨none, 0, by rw [e1.out, e2.out, e3.out]; rfl, by rw [e2.out]; exact World.ownsRow_nil _ _ _ _, HE.out.bl⟩
        · have e1 : Hid (jnS xs fs s ids t jds = s) := by unfold Hid; rw [H1.out, g4]; rfl
          have e2 : Hid (jnL xs fs s ids t jds = J) := by unfold Hid; rw [H2.out, g4]; rfl
          have e3 : Hid (jnB xs fs s ids t jds = true) := by unfold Hid; rw [H.out, g4]
          have p2 := HZ5.out.cell 0 0 rfl rfl
          have p3 := HZ5.out.cell 0 1 rfl rfl
          have y0 := HZ5.out.cell 3 0 rfl rfl
          have y1 := HZ5.out.cell 3 1 rfl rfl
          have z0 := HZ5.out.frozen 3 0 rfl
          have z1 := HZ5.out.frozen 3 1 rfl
          have HE := hid ((HZ5.out.set 3 rfl 0 (.int .i64 s)).set 3 rfl 1 (.slice A3 J.length c3))
          clear g4
          go_wp2
          exact bodyPost_ret (v := .tuple #[.agg #[.int .i64 s, .slice A3 J.length c3], .bool true]) (by simp [results, Try.results29, go_sem, y0, y1]) rfl
            ⟨A3, c3, by rw [e1.out, e2.out, e3.out], by rw [e2.out]; exact (HE.out.own 1 rfl).base (by first | exact hwb | (simp; omega)), HE.out.bl⟩
      · have HZ := hid ((hlA.set 1 rfl 0 (.int .i64 s)).set 1 rfl 1 (.slice A3 J.length c3))
        have hwb := hlB.out.bl.size
        have p0 := HZ.out.cell 6 0 rfl rfl
        have p1 := HZ.out.cell 6 1 rfl rfl
        have p2 := HZ.out.cell 1 0 rfl rfl
        have p3 := HZ.out.cell 1 1 rfl rfl
        clear hlA hlB ho3 hb3 hcl3 HL C0 C1 C2 C3 C4 C5 q4 q5 z4 z5
        go_wp2_with fail
        refine (implIsValidRoute s _ (HN.out.grow HZ.out.bl) (HZ.out.rt 0 rfl (by have := HKl.out; omega))).mono ?_
        rintro e w5 ⟨rfl, hb5⟩
        have HZ5 := hid (HZ.out.step hb5)
        clear hb5 p0 p1 p2 p3
        cases g4 : routeB xs fs s J
        · have e1 : Hid (jnS xs fs s ids t jds = 0) := by unfold Hid; rw [H1.out, g4]; rfl
          have e2 : Hid (jnL xs fs s ids t jds = []) := by unfold Hid; rw [H2.out, g4]; rfl
          have e3 : Hid (jnB xs fs s ids t jds = false) := by unfold Hid; rw [H.out, g4]
          have y0 := HZ5.out.cell 3 0 rfl rfl
          have y1 := HZ5.out.cell 3 1 rfl rfl
          have z0 := HZ5.out.frozen 3 0 rfl
          have z1 := HZ5.out.frozen 3 1 rfl
          have HE := hid ((HZ5.out.set 3 rfl 0 (.int .i64 0)).set 3 rfl 1 (.slice none 0 0))
          clear g4
          go_wp2
          exact bodyPost_ret (v := .tuple #[.agg #[.int .i64 0, .slice none 0 0], .bool false]) (by simp [results, Try.results29, go_sem, y0, y1]) rfl
            ⟨none, 0, by rw [e1.out, e2.out, e3.out]; rfl, by rw [e2.out]; exact World.ownsRow_nil _ _ _ _, HE.out.bl⟩
        · have e1 : Hid (jnS xs fs s ids t jds = s) := by unfold Hid; rw [H1.out, g4]; rfl
          have e2 : Hid (jnL xs fs s ids t jds = J) := by unfold Hid; rw [H2.out, g4]; rfl
          have e3 : Hid (jnB xs fs s ids t jds = true) := by unfold Hid; rw [H.out, g4]
          have p2 := HZ5.out.cell 1 0 rfl rfl
          have p3 := HZ5.out.cell 1 1 rfl rfl
          have y0 := HZ5.out.cell 3 0 rfl rfl
          have y1 := HZ5.out.cell 3 1 rfl rfl
          have z0 := HZ5.out.frozen 3 0 rfl
          have z1 := HZ5.out.frozen 3 1 rfl
          have HE := hid ((HZ5.out.set 3 rfl 0 (.int .i64 s)).set 3 rfl 1 (.slice A3 J.length c3))
          clear g4
          go_wp2
          exact bodyPost_ret (v := .tuple #[.agg #[.int .i64 s, .slice A3 J.length c3], .bool true]) (by simp [results, Try.results29, go_sem, y0, y1]) rfl
            ⟨A3, c3, by rw [e1.out, e2.out, e3.out], by rw [e2.out]; exact (HE.out.own 0 rfl).base (by first | exact hwb | (simp; omega)), HE.out.bl⟩
      · have HZ := hid ((hlA.set 2 rfl 0 (.int .i64 s)).set 2 rfl 1 (.slice A3 J.length c3))
        have hwb := hlB.out.bl.size
        have p0 := HZ.out.cell 6 0 rfl rfl
        have p1 := HZ.out.cell 6 1 rfl rfl
        have p2 := HZ.out.cell 2 0 rfl rfl
        have p3 := HZ.out.cell 2 1 rfl rfl
        clear hlA hlB ho3 hb3 hcl3 HL C0 C1 C2 C3 C4 C5 q4 q5 z4 z5
        go_wp2_with fail
        refine (implIsValidRoute s _ (HN.out.grow HZ.out.bl) (HZ.out.rt 0 rfl (by have := HKl.out; omega))).mono ?_
        rintro e w5 ⟨rfl, hb5⟩
        have HZ5 := hid (HZ.out.step hb5)
        clear hb5 p0 p1 p2 p3
        cases g4 : routeB xs fs s J
        · have e1 : Hid (jnS xs fs s ids t jds = 0) := by unfold Hid; rw [H1.out, g4]; rfl
          have e2 : Hid (jnL xs fs s ids t jds = []) := by unfold Hid; rw [H2.out, g4]; rfl
          have e3 : Hid (jnB xs fs s ids t jds = false) := by unfold Hid; rw [H.out, g4]
          have y0 := HZ5.out.cell 3 0 rfl rfl
          have y1 := HZ5.out.cell 3 1 rfl rfl
          have z0 := HZ5.out.frozen 3 0 rfl
          have z1 := HZ5.out.frozen 3 1 rfl
          have HE := hid ((HZ5.out.set 3 rfl 0 (.int .i64 0)).set 3 rfl 1 (.slice none 0 0))
          clear g4
          go_wp2
          exact bodyPost_ret (v := .tuple #[.agg #[.int .i64 0, .slice none 0 0], .bool false]) (by simp [results, Try.results29, go_sem, y0, y1]) rfl
            ⟨none, 0, by rw [e1.out, e2.out, e3.out]; rfl, by rw [e2.out]; exact World.ownsRow_nil _ _ _ _, HE.out.bl⟩
        · have e1 : Hid (jnS xs fs s ids t jds = s) := by unfold Hid; rw [H1.out, g4]; rfl
          have e2 : Hid (jnL xs fs s ids t jds = J) := by unfold Hid; rw [H2.out, g4]; rfl
          have e3 : Hid (jnB xs fs s ids t jds = true) := by unfold Hid; rw [H.out, g4]
          have p2 := HZ5.out.cell 2 0 rfl rfl
          have p3 := HZ5.out.cell 2 1 rfl rfl
          have y0 := HZ5.out.cell 3 0 rfl rfl
          have y1 := HZ5.out.cell 3 1 rfl rfl
          have z0 := HZ5.out.frozen 3 0 rfl
          have z1 := HZ5.out.frozen 3 1 rfl
          have HE := hid ((HZ5.out.set 3 rfl 0 (.int .i64 s)).set 3 rfl 1 (.slice A3 J.length c3))
          clear g4
          go_wp2
          exact bodyPost_ret (v := .tuple #[.agg #[.int .i64 s, .slice A3 J.length c3], .bool true]) (by simp [results, Try.results29, go_sem, y0, y1]) rfl
            ⟨A3, c3, by rw [e1.out, e2.out, e3.out], by rw [e2.out]; exact (HE.out.own 0 rfl).base (by first | exact hwb | (simp; omega)), HE.out.bl⟩
set_option maxHeartbeats 4000000 in
set_option maxRecDepth 100000 in
theorem specJoin (w : World) (h : NetIs w A n c A' m d xs fs) (hr : RtIs w R ids.length er ids) (hq : RtIs w Q jds.length eq jds) (s t : Int) :
    Calls Try.prog 28 #[.agg #[.slice A n c, .slice A' m d], .agg #[.int .i64 s, .slice R ids.length er], .agg #[.int .i64 t, .slice Q jds.length eq]] w fun e w' => ∃ R' c', e = .returned (.tuple #[.agg #[.int .i64 (jnS xs fs s ids t jds), .slice R' (jnL xs fs s ids t jds).length c'], .bool (jnB xs fs s ids t jds)]) ∧ Owns elInt w' w.heap.size 3 (.slice R' (jnL xs fs s ids t jds).length c') (jnL xs fs s ids t jds) ∧ Below w.heap.size w w' := by
  have hS := ((((Led.nil w).blk_ w.heap.size rfl 35 #[.slice A n c, .slice A' m d]).blk_ (w.heap.size + 1) (by simp) 37 #[.int .i64 s, .slice R ids.length er]).blk_ (w.heap.size + 1 + 1) (by simp) 37 #[.int .i64 t, .slice Q jds.length eq]).blk_ (w.heap.size + 1 + 1 + 1) (by simp) 37 #[.int .i64 0, .slice none 0 0]
  have HN := hid h
  have HR := hid hr
  have HQ := hid hq
  clear h hr hq
  cases ga : routeB xs fs s ids
  · skip
    have H : Hid (jnB xs fs s ids t jds = false) := by unfold Hid jnB; rw [ga]; simp
    have H1 : Hid (jnS xs fs s ids t jds = 0 ∧ jnL xs fs s ids t jds = []) := by unfold Hid jnS jnL; rw [H.out]; exact ⟨rfl, rfl⟩
    rw [H.out, H1.out.1, H1.out.2]
    go_enter Try.func28, Try.ntmps28
    go_wp2_with fail
    generalize (((w.alloc (.cells #[.slice A n c, .slice A' m d] 35)).alloc (.cells #[.int .i64 s, .slice R ids.length er] 37)).alloc (.cells #[.int .i64 t, .slice Q jds.length eq] 37)).alloc (.cells #[.int .i64 0, .slice none 0 0] 37) = W1 at *
    have C0 : ∀ w', Cls W1 w' → w'.cell? ⟨w.heap.size, 0, none⟩ = some (.slice A n c) := fun _ h => h.cell (hS.cell 3 0 rfl rfl)
    have C1 : ∀ w', Cls W1 w' → w'.cell? ⟨w.heap.size, 1, none⟩ = some (.slice A' m d) := fun _ h => h.cell (hS.cell 3 1 rfl rfl)
    have C2 : ∀ w', Cls W1 w' → w'.cell? ⟨w.heap.size + 1, 0, none⟩ = some (.int .i64 s) := fun _ h => h.cell (hS.cell 2 0 rfl rfl)
    have C3 : ∀ w', Cls W1 w' → w'.cell? ⟨w.heap.size + 1, 1, none⟩ = some (.slice R ids.length er) := fun _ h => h.cell (hS.cell 2 1 rfl rfl)
    have C4 : ∀ w', Cls W1 w' → w'.cell? ⟨w.heap.size + 1 + 1, 0, none⟩ = some (.int .i64 t) := fun _ h => h.cell (hS.cell 1 0 rfl rfl)
    have C5 : ∀ w', Cls W1 w' → w'.cell? ⟨w.heap.size + 1 + 1, 1, none⟩ = some (.slice Q jds.length eq) := fun _ h => h.cell (hS.cell 1 1 rfl rfl)
    have HL := hid (fun w' (h : Cls W1 w') => hS.step h)
    clear hS
    try go_wp2_with fail
    refine region_cls (by kernel_rfl) (by kernel_rfl) ?_
    repeat (first
      | ((with_reducible refine quiet_pos ?_ (fun K hK => ?_))
         · rfl
         apply Exists.intro
         refine ⟨fun w' hw' => ?_, ?_⟩
         · go_simp
           first
             | with_reducible rfl
             | (go_at_call_of 56 (Value.agg #[.int .i64 s, .slice R ids.length er]); exact hw'.call (calls_eq (l4Good_any s _ (HN.out.grow (HL.out _ hw').bl) (HR.out.grow (HL.out _ hw').bl)) (by rw [ga])))
         simp only [Act.put, List.setIfInBounds_toArray, List.set_cons_zero, List.set_cons_succ]
         refine hK _ ?_; clear hK K)
      | ((with_reducible refine quiet_neg ?_ (fun K hK => ?_))
         · rfl
         simp only [Act.put, List.setIfInBounds_toArray, List.set_cons_zero, List.set_cons_succ]
         refine hK _ ?_; clear hK K))
    with_reducible refine wpQuiet_nil ?_
    intro wz hwz'
    have HZ := hid (HL.out _ hwz')
    clear hwz'
    have y0 := HZ.out.cell 0 0 rfl rfl
    have y1 := HZ.out.cell 0 1 rfl rfl
    have z0 := HZ.out.frozen 0 0 rfl
    have z1 := HZ.out.frozen 0 1 rfl
    have HE := hid ((HZ.out.set 0 rfl 0 (.int .i64 0)).set 0 rfl 1 (.slice none 0 0))
    clear HL C0 C1 C2 C3 C4 C5
    go_wp2
    exact bodyPost_ret (v := .tuple #[.agg #[.int .i64 0, .slice none 0 0], .bool false]) (by simp [results, Try.results28, go_sem, y0, y1]) rfl
      ⟨none, 0, rfl, World.ownsRow_nil _ _ _ _, HE.out.bl⟩
  · skip
    cases gb : routeB xs fs t jds
    · skip
      have H : Hid (jnB xs fs s ids t jds = false) := by unfold Hid jnB; rw [ga, gb]; simp
      have H1 : Hid (jnS xs fs s ids t jds = 0 ∧ jnL xs fs s ids t jds = []) := by unfold Hid jnS jnL; rw [H.out]; exact ⟨rfl, rfl⟩
      rw [H.out, H1.out.1, H1.out.2]
      go_enter Try.func28, Try.ntmps28
      go_wp2_with fail
      generalize (((w.alloc (.cells #[.slice A n c, .slice A' m d] 35)).alloc (.cells #[.int .i64 s, .slice R ids.length er] 37)).alloc (.cells #[.int .i64 t, .slice Q jds.length eq] 37)).alloc (.cells #[.int .i64 0, .slice none 0 0] 37) = W1 at *
      have C0 : ∀ w', Cls W1 w' → w'.cell? ⟨w.heap.size, 0, none⟩ = some (.slice A n c) := fun _ h => h.cell (hS.cell 3 0 rfl rfl)
      have C1 : ∀ w', Cls W1 w' → w'.cell? ⟨w.heap.size, 1, none⟩ = some (.slice A' m d) := fun _ h => h.cell (hS.cell 3 1 rfl rfl)
      have C2 : ∀ w', Cls W1 w' → w'.cell? ⟨w.heap.size + 1, 0, none⟩ = some (.int .i64 s) := fun _ h => h.cell (hS.cell 2 0 rfl rfl)
      have C3 : ∀ w', Cls W1 w' → w'.cell? ⟨w.heap.size + 1, 1, none⟩ = some (.slice R ids.length er) := fun _ h => h.cell (hS.cell 2 1 rfl rfl)
      have C4 : ∀ w', Cls W1 w' → w'.cell? ⟨w.heap.size + 1 + 1, 0, none⟩ = some (.int .i64 t) := fun _ h => h.cell (hS.cell 1 0 rfl rfl)
      have C5 : ∀ w', Cls W1 w' → w'.cell? ⟨w.heap.size + 1 + 1, 1, none⟩ = some (.slice Q jds.length eq) := fun _ h => h.cell (hS.cell 1 1 rfl rfl)
      have HL := hid (fun w' (h : Cls W1 w') => hS.step h)
      clear hS
      try go_wp2_with fail
      refine region_cls (by kernel_rfl) (by kernel_rfl) ?_
      repeat (first
        | ((with_reducible refine quiet_pos ?_ (fun K hK => ?_))
           · rfl
           apply Exists.intro
           refine ⟨fun w' hw' => ?_, ?_⟩
           · go_simp
             first
               | with_reducible rfl
               | (go_at_call_of 56 (Value.agg #[.int .i64 s, .slice R ids.length er]); exact hw'.call (calls_eq (l4Good_any s _ (HN.out.grow (HL.out _ hw').bl) (HR.out.grow (HL.out _ hw').bl)) (by rw [ga])))
               | (go_at_call_of 56 (Value.agg #[.int .i64 t, .slice Q jds.length eq]); exact hw'.call (calls_eq (l4Good_any t _ (HN.out.grow (HL.out _ hw').bl) (HQ.out.grow (HL.out _ hw').bl)) (by rw [gb])))
           simp only [Act.put, List.setIfInBounds_toArray, List.set_cons_zero, List.set_cons_succ]
           refine hK _ ?_; clear hK K)
        | ((with_reducible refine quiet_neg ?_ (fun K hK => ?_))
           · rfl
           simp only [Act.put, List.setIfInBounds_toArray, List.set_cons_zero, List.set_cons_succ]
           refine hK _ ?_; clear hK K))
      with_reducible refine wpQuiet_nil ?_
      intro wz hwz'
      have HZ := hid (HL.out _ hwz')
      clear hwz'
      have y0 := HZ.out.cell 0 0 rfl rfl
      have y1 := HZ.out.cell 0 1 rfl rfl
      have z0 := HZ.out.frozen 0 0 rfl
      have z1 := HZ.out.frozen 0 1 rfl
      have HE := hid ((HZ.out.set 0 rfl 0 (.int .i64 0)).set 0 rfl 1 (.slice none 0 0))
      clear HL C0 C1 C2 C3 C4 C5
      go_wp2
      exact bodyPost_ret (v := .tuple #[.agg #[.int .i64 0, .slice none 0 0], .bool false]) (by simp [results, Try.results28, go_sem, y0, y1]) rfl
        ⟨none, 0, rfl, World.ownsRow_nil _ _ _ _, HE.out.bl⟩
    · skip
      have g : (routeB xs fs s ids && routeB xs fs t jds) = true := by rw [ga, gb]; rfl
      obtain ⟨hg, hrt⟩ := routeB_good ga
      rw [HN.out.xlen] at hrt
      have HRT := hid hrt
      have h7 := (routeB_short ga).1
      have h8 := (routeB_short gb).1
      obtain ⟨z, hz⟩ : ∃ z, z = atW fs s ids ids.length := ⟨_, rfl⟩
      have HAT : Hid (atW fs s ids ids.length = z) := hz.symm
      clear hz hrt hg
      cases g2 : (z == t)
      · skip
        have g3 : (z != t) = true := by simpa using g2
        have H : Hid (jnB xs fs s ids t jds = false) := by unfold Hid jnB; rw [g, HAT.out, g2]; simp
        have H1 : Hid (jnS xs fs s ids t jds = 0 ∧ jnL xs fs s ids t jds = []) := by unfold Hid jnS jnL; rw [H.out]; exact ⟨rfl, rfl⟩
        rw [H.out, H1.out.1, H1.out.2]
        go_enter Try.func28, Try.ntmps28
        go_wp2_with fail
        generalize (((w.alloc (.cells #[.slice A n c, .slice A' m d] 35)).alloc (.cells #[.int .i64 s, .slice R ids.length er] 37)).alloc (.cells #[.int .i64 t, .slice Q jds.length eq] 37)).alloc (.cells #[.int .i64 0, .slice none 0 0] 37) = W1 at *
        have C0 : ∀ w', Cls W1 w' → w'.cell? ⟨w.heap.size, 0, none⟩ = some (.slice A n c) := fun _ h => h.cell (hS.cell 3 0 rfl rfl)
        have C1 : ∀ w', Cls W1 w' → w'.cell? ⟨w.heap.size, 1, none⟩ = some (.slice A' m d) := fun _ h => h.cell (hS.cell 3 1 rfl rfl)
        have C2 : ∀ w', Cls W1 w' → w'.cell? ⟨w.heap.size + 1, 0, none⟩ = some (.int .i64 s) := fun _ h => h.cell (hS.cell 2 0 rfl rfl)
        have C3 : ∀ w', Cls W1 w' → w'.cell? ⟨w.heap.size + 1, 1, none⟩ = some (.slice R ids.length er) := fun _ h => h.cell (hS.cell 2 1 rfl rfl)
        have C4 : ∀ w', Cls W1 w' → w'.cell? ⟨w.heap.size + 1 + 1, 0, none⟩ = some (.int .i64 t) := fun _ h => h.cell (hS.cell 1 0 rfl rfl)
        have C5 : ∀ w', Cls W1 w' → w'.cell? ⟨w.heap.size + 1 + 1, 1, none⟩ = some (.slice Q jds.length eq) := fun _ h => h.cell (hS.cell 1 1 rfl rfl)
        have HL := hid (fun w' (h : Cls W1 w') => hS.step h)
        clear hS
        try go_wp2_with fail
        refine region_cls (by kernel_rfl) (by kernel_rfl) ?_
        repeat (first
          | ((with_reducible refine quiet_pos ?_ (fun K hK => ?_))
             · rfl
             apply Exists.intro
             refine ⟨fun w' hw' => ?_, ?_⟩
             · go_simp
               first
                 | with_reducible rfl
                 | (go_at_call_of 56 (Value.agg #[.int .i64 s, .slice R ids.length er]); exact hw'.call (calls_eq (l4Good_any s _ (HN.out.grow (HL.out _ hw').bl) (HR.out.grow (HL.out _ hw').bl)) (by rw [ga])))
                 | (go_at_call_of 56 (Value.agg #[.int .i64 t, .slice Q jds.length eq]); exact hw'.call (calls_eq (l4Good_any t _ (HN.out.grow (HL.out _ hw').bl) (HQ.out.grow (HL.out _ hw').bl)) (by rw [gb])))
                 | (go_at_call 58; exact hw'.call (calls_eq (l4End_any (s := s) _ (HN.out.grow (HL.out _ hw').bl) (HR.out.grow (HL.out _ hw').bl) HRT.out) (by rw [HAT.out])))
             simp only [Act.put, List.setIfInBounds_toArray, List.set_cons_zero, List.set_cons_succ]
             refine hK _ ?_; clear hK K)
          | ((with_reducible refine quiet_neg ?_ (fun K hK => ?_))
             · rfl
             simp only [Act.put, List.setIfInBounds_toArray, List.set_cons_zero, List.set_cons_succ]
             refine hK _ ?_; clear hK K))
        with_reducible refine wpQuiet_nil ?_
        intro wz hwz'
        have HZ := hid (HL.out _ hwz')
        clear hwz'
        have y0 := HZ.out.cell 0 0 rfl rfl
        have y1 := HZ.out.cell 0 1 rfl rfl
        have z0 := HZ.out.frozen 0 0 rfl
        have z1 := HZ.out.frozen 0 1 rfl
        have HE := hid ((HZ.out.set 0 rfl 0 (.int .i64 0)).set 0 rfl 1 (.slice none 0 0))
        clear HL C0 C1 C2 C3 C4 C5
        go_wp2
        exact bodyPost_ret (v := .tuple #[.agg #[.int .i64 0, .slice none 0 0], .bool false]) (by simp [results, Try.results28, go_sem, y0, y1]) rfl
          ⟨none, 0, rfl, World.ownsRow_nil _ _ _ _, HE.out.bl⟩
      · skip
        have g3 : (z != t) = false := by simpa using g2
        have hzt : z = t := by simpa using g2
        obtain ⟨J, hK⟩ : ∃ J, J = ids ++ jds := ⟨_, rfl⟩
        have HK : Hid (ids ++ jds = J) := hK.symm
        have HKl : Hid (J.length = ids.length + jds.length) := by unfold Hid; rw [hK, List.length_append]
        clear hK
        have H : Hid (jnB xs fs s ids t jds = routeB xs fs s J) := by unfold Hid jnB; rw [g, HAT.out, g2, HK.out]; rfl
        have H1 : Hid (jnS xs fs s ids t jds = if routeB xs fs s J then s else 0) := by unfold Hid jnS; rw [H.out]
        have H2 : Hid (jnL xs fs s ids t jds = if routeB xs fs s J then J else []) := by unfold Hid jnL; rw [H.out, HK.out]
        go_enter Try.func28, Try.ntmps28
        go_wp2_with fail
        generalize (((w.alloc (.cells #[.slice A n c, .slice A' m d] 35)).alloc (.cells #[.int .i64 s, .slice R ids.length er] 37)).alloc (.cells #[.int .i64 t, .slice Q jds.length eq] 37)).alloc (.cells #[.int .i64 0, .slice none 0 0] 37) = W1 at *
        have C0 : ∀ w', Cls W1 w' → w'.cell? ⟨w.heap.size, 0, none⟩ = some (.slice A n c) := fun _ h => h.cell (hS.cell 3 0 rfl rfl)
        have C1 : ∀ w', Cls W1 w' → w'.cell? ⟨w.heap.size, 1, none⟩ = some (.slice A' m d) := fun _ h => h.cell (hS.cell 3 1 rfl rfl)
        have C2 : ∀ w', Cls W1 w' → w'.cell? ⟨w.heap.size + 1, 0, none⟩ = some (.int .i64 s) := fun _ h => h.cell (hS.cell 2 0 rfl rfl)
        have C3 : ∀ w', Cls W1 w' → w'.cell? ⟨w.heap.size + 1, 1, none⟩ = some (.slice R ids.length er) := fun _ h => h.cell (hS.cell 2 1 rfl rfl)
        have C4 : ∀ w', Cls W1 w' → w'.cell? ⟨w.heap.size + 1 + 1, 0, none⟩ = some (.int .i64 t) := fun _ h => h.cell (hS.cell 1 0 rfl rfl)
        have C5 : ∀ w', Cls W1 w' → w'.cell? ⟨w.heap.size + 1 + 1, 1, none⟩ = some (.slice Q jds.length eq) := fun _ h => h.cell (hS.cell 1 1 rfl rfl)
        have HL := hid (fun w' (h : Cls W1 w') => hS.step h)
        clear hS
        try go_wp2_with fail
        refine region_cls (by kernel_rfl) (by kernel_rfl) ?_
        repeat (first
          | ((with_reducible refine quiet_pos ?_ (fun K hK => ?_))
             · rfl
             apply Exists.intro
             refine ⟨fun w' hw' => ?_, ?_⟩
             · go_simp
               first
                 | with_reducible rfl
                 | (go_at_call_of 56 (Value.agg #[.int .i64 s, .slice R ids.length er]); exact hw'.call (calls_eq (l4Good_any s _ (HN.out.grow (HL.out _ hw').bl) (HR.out.grow (HL.out _ hw').bl)) (by rw [ga])))
                 | (go_at_call_of 56 (Value.agg #[.int .i64 t, .slice Q jds.length eq]); exact hw'.call (calls_eq (l4Good_any t _ (HN.out.grow (HL.out _ hw').bl) (HQ.out.grow (HL.out _ hw').bl)) (by rw [gb])))
                 | (go_at_call 58; exact hw'.call (calls_eq (l4End_any (s := s) _ (HN.out.grow (HL.out _ hw').bl) (HR.out.grow (HL.out _ hw').bl) HRT.out) (by rw [HAT.out])))
             simp only [Act.put, List.setIfInBounds_toArray, List.set_cons_zero, List.set_cons_succ]
             refine hK _ ?_; clear hK K)
          | ((with_reducible refine quiet_neg ?_ (fun K hK => ?_))
             · rfl
             simp only [Act.put, List.setIfInBounds_toArray, List.set_cons_zero, List.set_cons_succ]
             refine hK _ ?_; clear hK K))
        with_reducible refine wpQuiet_nil ?_
        intro wz hwz'
        have hS := HL.out _ hwz'
        clear hwz' HL C0 C1 C2 C3 C4 C5
        obtain ⟨i0, hi, hx0, hx1, hx2⟩ := info_parts int_info
        have C0 : ∀ w', Led w w' [tBlk (w.heap.size + 1 + 1 + 1) 37 #[.int .i64 0, .slice none 0 0], tBlk (w.heap.size + 1 + 1) 37 #[.int .i64 t, .slice Q jds.length eq], tBlk (w.heap.size + 1) 37 #[.int .i64 s, .slice R ids.length er], tBlk w.heap.size 35 #[.slice A n c, .slice A' m d]] → w'.cell? ⟨w.heap.size, 0, none⟩ = some (.slice A n c) := fun _ h => h.cell 3 0 rfl rfl
        have C1 : ∀ w', Led w w' [tBlk (w.heap.size + 1 + 1 + 1) 37 #[.int .i64 0, .slice none 0 0], tBlk (w.heap.size + 1 + 1) 37 #[.int .i64 t, .slice Q jds.length eq], tBlk (w.heap.size + 1) 37 #[.int .i64 s, .slice R ids.length er], tBlk w.heap.size 35 #[.slice A n c, .slice A' m d]] → w'.cell? ⟨w.heap.size, 1, none⟩ = some (.slice A' m d) := fun _ h => h.cell 3 1 rfl rfl
        have C2 : ∀ w', Led w w' [tBlk (w.heap.size + 1 + 1 + 1) 37 #[.int .i64 0, .slice none 0 0], tBlk (w.heap.size + 1 + 1) 37 #[.int .i64 t, .slice Q jds.length eq], tBlk (w.heap.size + 1) 37 #[.int .i64 s, .slice R ids.length er], tBlk w.heap.size 35 #[.slice A n c, .slice A' m d]] → w'.cell? ⟨w.heap.size + 1, 0, none⟩ = some (.int .i64 s) := fun _ h => h.cell 2 0 rfl rfl
        have C3 : ∀ w', Led w w' [tBlk (w.heap.size + 1 + 1 + 1) 37 #[.int .i64 0, .slice none 0 0], tBlk (w.heap.size + 1 + 1) 37 #[.int .i64 t, .slice Q jds.length eq], tBlk (w.heap.size + 1) 37 #[.int .i64 s, .slice R ids.length er], tBlk w.heap.size 35 #[.slice A n c, .slice A' m d]] → w'.cell? ⟨w.heap.size + 1, 1, none⟩ = some (.slice R ids.length er) := fun _ h => h.cell 2 1 rfl rfl
        have C4 : ∀ w', Led w w' [tBlk (w.heap.size + 1 + 1 + 1) 37 #[.int .i64 0, .slice none 0 0], tBlk (w.heap.size + 1 + 1) 37 #[.int .i64 t, .slice Q jds.length eq], tBlk (w.heap.size + 1) 37 #[.int .i64 s, .slice R ids.length er], tBlk w.heap.size 35 #[.slice A n c, .slice A' m d]] → w'.cell? ⟨w.heap.size + 1 + 1, 0, none⟩ = some (.int .i64 t) := fun _ h => h.cell 1 0 rfl rfl
        have C5 : ∀ w', Led w w' [tBlk (w.heap.size + 1 + 1 + 1) 37 #[.int .i64 0, .slice none 0 0], tBlk (w.heap.size + 1 + 1) 37 #[.int .i64 t, .slice Q jds.length eq], tBlk (w.heap.size + 1) 37 #[.int .i64 s, .slice R ids.length er], tBlk w.heap.size 35 #[.slice A n c, .slice A' m d]] → w'.cell? ⟨w.heap.size + 1 + 1, 1, none⟩ = some (.slice Q jds.length eq) := fun _ h => h.cell 1 1 rfl rfl
        go_wp2_with fail
        refine wp_region_held_drew (S := fun w' => Led w w' [tBlk (w.heap.size + 1 + 1 + 1) 37 #[.int .i64 0, .slice none 0 0], tBlk (w.heap.size + 1 + 1) 37 #[.int .i64 t, .slice Q jds.length eq], tBlk (w.heap.size + 1) 37 #[.int .i64 s, .slice R ids.length er], tBlk w.heap.size 35 #[.slice A n c, .slice A' m d]]) (by kernel_rfl) (hS.step (Cls.drew _)) (fun hHeld => ?_)
        refine wpAnyH_take (i := 0) (oi := _) (v := ?_) rfl (by kernel_rfl) (by kernel_rfl) (by kernel_rfl) (fun _ _ _ h => h) (Or.inl ⟨by rfl, ?_⟩) (by assumption) ?_
        rotate_left
        · intro w hSw; go_simp; with_reducible rfl
        simp only [Act.put, List.getElem_toArray, List.getElem_cons_zero, List.setIfInBounds_toArray, List.set_cons_zero, List.set_cons_succ]
        refine wpAnyH_take (i := 1) (oi := _) (v := ?_) rfl (by kernel_rfl) (by kernel_rfl) (by kernel_rfl) (fun _ _ _ h => h) (Or.inl ⟨by rfl, ?_⟩) (by assumption) ?_
        rotate_left
        · intro w hSw; go_simp; with_reducible rfl
        simp only [Act.put, List.getElem_toArray, List.getElem_cons_zero, List.getElem_cons_succ, List.setIfInBounds_toArray, List.set_cons_zero, List.set_cons_succ]
        refine wpAnyH_take (i := 2) (oi := _) (v := ?_) rfl (by kernel_rfl) (by kernel_rfl) (by kernel_rfl) (fun _ _ _ h => h) (Or.inl ⟨by rfl, ?_⟩) (by assumption) ?_
        rotate_left
        · intro w hSw; go_simp; with_reducible rfl
        simp only [Act.put, List.getElem_toArray, List.getElem_cons_zero, List.getElem_cons_succ, List.setIfInBounds_toArray, List.set_cons_zero, List.set_cons_succ]
        refine wpAnyH_take (i := 3) (oi := _) (v := ?_) rfl (by kernel_rfl) (by kernel_rfl) (by kernel_rfl) (fun _ _ _ h => h) (Or.inl ⟨by rfl, ?_⟩) (by assumption) ?_
        rotate_left
        · intro w hSw; go_simp; with_reducible rfl
        simp only [Act.put, List.getElem_toArray, List.getElem_cons_zero, List.getElem_cons_succ, List.setIfInBounds_toArray, List.set_cons_zero, List.set_cons_succ]
        refine wpAnyH_take (i := 5) (oi := _) (v := ?_) rfl (by kernel_rfl) (by kernel_rfl) (by kernel_rfl) (fun _ _ _ h => h) (Or.inl ⟨by rfl, ?_⟩) (by assumption) ?_
        rotate_left
        · intro w hSw; go_simp; with_reducible rfl
        simp only [Act.put, List.getElem_toArray, List.getElem_cons_zero, List.getElem_cons_succ, List.setIfInBounds_toArray, List.set_cons_zero, List.set_cons_succ]
        refine wpAnyH_take (i := 6) (oi := _) (v := ?_) rfl (by kernel_rfl) (by kernel_rfl) (by kernel_rfl) (fun _ _ _ h => h) (Or.inl ⟨by rfl, ?_⟩) (by assumption) ?_
        rotate_left
        · intro w hSw; go_simp; with_reducible rfl
        simp only [Act.put, List.getElem_toArray, List.getElem_cons_zero, List.getElem_cons_succ, List.setIfInBounds_toArray, List.set_cons_zero, List.set_cons_succ]
        refine wpAnyH_ready (rs := [4, 9]) (by kernel_rfl) (by simp) ?_
        refine AllReadyH.cons rfl (fun K hK => ?_) ?_
        · skip
          go_simp
          have hlB := hid (hS.step (Cls.drew _))
          refine (l1Own_any _ ((HR.out.grow hlB.out.bl).2) (by omega)).mono ?_
          rintro e w2 ⟨v3, rfl, ho3, hb3⟩
          obtain ⟨A2, c2, rfl, _⟩ := ho3.form
          have hl2 := hlB.out.owns hb3 ho3
          go_wp2_with fail
          refine hK.out _ _ (hl2.drop 1) (fun hHeld => ?_)
          clear hK K
          try simp only [Act.put, List.getElem_toArray, List.getElem_cons_zero, List.getElem_cons_succ, List.setIfInBounds_toArray, List.set_cons_zero, List.set_cons_succ]
          refine wpAnyH_ready (rs := [7, 9]) (by kernel_rfl) (by simp) ?_
          refine AllReadyH.cons rfl (fun K hK => ?_) ?_
          · skip
            have hlC := hl2
            refine step_append_led rfl _ _ 26 rfl hlC 0 rfl Try.underlying26 hi hx0 hx1 (by rw [hx2]; decide) rfl rfl rfl ((HQ.out.grow hlC.bl).2) (by omega) (by first | exact hb3.size | exact Nat.le_trans hb3.size (by simp)) ?_
            intro A3 c3 w4 hS4
            rw [HK.out, ← HKl.out] at hS4
            rw [← HKl.out]
            refine hK.out _ _ (hS4.drop 1) (fun hHeld => ?_)
            clear hK K
            try simp only [Act.put, List.getElem_toArray, List.getElem_cons_zero, List.getElem_cons_succ, List.setIfInBounds_toArray, List.set_cons_zero, List.set_cons_succ]
            refine wpAnyH_take (i := 8) (oi := _) (v := ?_) rfl (by kernel_rfl) (by kernel_rfl) (by kernel_rfl) (fun _ _ _ h => h) (Or.inl ⟨by rfl, ?_⟩) (by assumption) ?_
            rotate_left
            · intro w hSw; go_simp; with_reducible rfl
            simp only [Act.put, List.getElem_toArray, List.getElem_cons_zero, List.getElem_cons_succ, List.setIfInBounds_toArray, List.set_cons_zero, List.set_cons_succ]
            refine wpAnyH_ready (rs := [9]) (by kernel_rfl) (by simp) ?_
            refine AllReadyH.cons rfl (fun K hK => ?_) AllReadyH.nil
            go_simp
            go_wp2_with fail
            refine hK.out _ _ ((hS4.blk_ w4.heap.size rfl 37 #[.int .i64 0, .slice none 0 0]).drop 2) (fun hHeld => ?_)
            clear hK K
            try simp only [Act.put, List.getElem_toArray, List.getElem_cons_zero, List.getElem_cons_succ, List.setIfInBounds_toArray, List.set_cons_zero, List.set_cons_succ]
            refine wpAnyH_ready (rs := [10]) (by kernel_rfl) (by simp) ?_
            refine AllReadyH.cons rfl (fun K hK => ?_) AllReadyH.nil
            go_simp
            go_wp2_with fail
            refine hK.out _ _ ((hS4.blk_ w4.heap.size rfl 37 #[.int .i64 s, .slice A3 J.length c3]).drop 2) (fun hHeld => ?_)
            clear hK K
            try simp only [Act.put, List.getElem_toArray, List.getElem_cons_zero, List.getElem_cons_succ, List.setIfInBounds_toArray, List.set_cons_zero, List.set_cons_succ]
            refine wpAnyH_done (by kernel_rfl) ?_ _
            have HZ := hid (hS4.blk_ w4.heap.size rfl 37 #[.int .i64 s, .slice A3 J.length c3])
            have hwb := hS.bl.size
            have p0 := HZ.out.cell 5 0 rfl rfl
            have p1 := HZ.out.cell 5 1 rfl rfl
            have p2 := HZ.out.cell 0 0 rfl rfl
            have p3 := HZ.out.cell 0 1 rfl rfl
            try clear hHeld
            try clear hS4
            try clear hl2
            try clear hlB
            try clear ho3
            try clear hb3
            try clear C0
            try clear C1
            try clear C2
            try clear C3
            try clear C4
            try clear C5
            try clear q4
            try clear q5
            try clear z4
            try clear z5
            try clear hS
            go_wp2_with fail
            refine (l4Good_any s _ (HN.out.grow HZ.out.bl) (HZ.out.rt 1 rfl (by have := HKl.out; omega))).mono ?_
            rintro e w5 ⟨rfl, hb5⟩
            have HZ5 := hid (HZ.out.step hb5)
            clear hb5 p0 p1 p2 p3
            cases g4 : routeB xs fs s J
            · have e1 : Hid (jnS xs fs s ids t jds = 0) := by unfold Hid; rw [H1.out, g4]; rfl
              have e2 : Hid (jnL xs fs s ids t jds = []) := by unfold Hid; rw [H2.out, g4]; rfl
              have e3 : Hid (jnB xs fs s ids t jds = false) := by unfold Hid; rw [H.out, g4]
              have y0 := HZ5.out.cell 2 0 rfl rfl
              have y1 := HZ5.out.cell 2 1 rfl rfl
              have z0 := HZ5.out.frozen 2 0 rfl
              have z1 := HZ5.out.frozen 2 1 rfl
              have HE := hid ((HZ5.out.set 2 rfl 0 (.int .i64 0)).set 2 rfl 1 (.slice none 0 0))
              clear g4
              go_wp2
              exact bodyPost_ret (v := .tuple #[.agg #[.int .i64 0, .slice none 0 0], .bool false]) (by simp [results, Try.results28, go_sem, y0, y1]) rfl
                ⟨none, 0, by rw [e1.out, e2.out, e3.out]; rfl, by rw [e2.out]; exact World.ownsRow_nil _ _ _ _, HE.out.bl⟩
            · have e1 : Hid (jnS xs fs s ids t jds = s) := by unfold Hid; rw [H1.out, g4]; rfl
              have e2 : Hid (jnL xs fs s ids t jds = J) := by unfold Hid; rw [H2.out, g4]; rfl
              have e3 : Hid (jnB xs fs s ids t jds = true) := by unfold Hid; rw [H.out, g4]
              have p2 := HZ5.out.cell 0 0 rfl rfl
              have p3 := HZ5.out.cell 0 1 rfl rfl
              have y0 := HZ5.out.cell 2 0 rfl rfl
              have y1 := HZ5.out.cell 2 1 rfl rfl
              have z0 := HZ5.out.frozen 2 0 rfl
              have z1 := HZ5.out.frozen 2 1 rfl
              have HE := hid ((HZ5.out.set 2 rfl 0 (.int .i64 s)).set 2 rfl 1 (.slice A3 J.length c3))
              clear g4
              go_wp2
              exact bodyPost_ret (v := .tuple #[.agg #[.int .i64 s, .slice A3 J.length c3], .bool true]) (by simp [results, Try.results28, go_sem, y0, y1]) rfl
                ⟨A3, c3, by rw [e1.out, e2.out, e3.out], by rw [e2.out]; exact (HE.out.own 1 rfl).base (by first | exact hwb | (simp; omega)), HE.out.bl⟩
          · skip
            refine AllReadyH.cons rfl (fun K hK => ?_) AllReadyH.nil
            go_simp
            go_wp2_with fail
            refine hK.out _ _ ((hl2.blk_ w2.heap.size rfl 37 #[.int .i64 0, .slice none 0 0]).drop 2) (fun hHeld => ?_)
            clear hK K
            try simp only [Act.put, List.getElem_toArray, List.getElem_cons_zero, List.getElem_cons_succ, List.setIfInBounds_toArray, List.set_cons_zero, List.set_cons_succ]
            refine wpAnyH_ready (rs := [7]) (by kernel_rfl) (by simp) ?_
            refine AllReadyH.cons rfl (fun K hK => ?_) AllReadyH.nil
            have hlC := hl2.blk_ w2.heap.size rfl 37 #[.int .i64 0, .slice none 0 0]
            refine step_append_led rfl _ _ 26 rfl hlC 1 rfl Try.underlying26 hi hx0 hx1 (by rw [hx2]; decide) rfl rfl rfl ((HQ.out.grow hlC.bl).2) (by omega) (by first | exact hb3.size | exact Nat.le_trans hb3.size (by simp)) ?_
            intro A3 c3 w4 hS4
            rw [HK.out, ← HKl.out] at hS4
            rw [← HKl.out]
            refine hK.out _ _ (hS4.drop 2) (fun hHeld => ?_)
            clear hK K
            try simp only [Act.put, List.getElem_toArray, List.getElem_cons_zero, List.getElem_cons_succ, List.setIfInBounds_toArray, List.set_cons_zero, List.set_cons_succ]
            refine wpAnyH_take (i := 8) (oi := _) (v := ?_) rfl (by kernel_rfl) (by kernel_rfl) (by kernel_rfl) (fun _ _ _ h => h) (Or.inl ⟨by rfl, ?_⟩) (by assumption) ?_
            rotate_left
            · intro w hSw; go_simp; with_reducible rfl
            simp only [Act.put, List.getElem_toArray, List.getElem_cons_zero, List.getElem_cons_succ, List.setIfInBounds_toArray, List.set_cons_zero, List.set_cons_succ]
            have q4 := hS4.cell 0 0 rfl rfl
            have q5 := hS4.cell 0 1 rfl rfl
            have z4 := hS4.frozen 0 0 rfl
            have z5 := hS4.frozen 0 1 rfl
            refine wpAnyH_ready (rs := [10]) (by kernel_rfl) (by simp) ?_
            refine AllReadyH.cons rfl (fun K hK => ?_) AllReadyH.nil
            go_simp
            go_wp2_with fail
            refine hK.out _ _ (((hS4.set 0 rfl 0 (.int .i64 s)).set 0 rfl 1 (.slice A3 J.length c3)).drop 2) (fun hHeld => ?_)
            clear hK K
            try simp only [Act.put, List.getElem_toArray, List.getElem_cons_zero, List.getElem_cons_succ, List.setIfInBounds_toArray, List.set_cons_zero, List.set_cons_succ]
            refine wpAnyH_done (by kernel_rfl) ?_ _
            have HZ := hid ((hS4.set 0 rfl 0 (.int .i64 s)).set 0 rfl 1 (.slice A3 J.length c3))
            have hwb := hS.bl.size
            have p0 := HZ.out.cell 5 0 rfl rfl
            have p1 := HZ.out.cell 5 1 rfl rfl
            have p2 := HZ.out.cell 0 0 rfl rfl
            have p3 := HZ.out.cell 0 1 rfl rfl
            try clear hHeld
            try clear hS4
            try clear hl2
            try clear hlB
            try clear ho3
            try clear hb3
            try clear C0
            try clear C1
            try clear C2
            try clear C3
            try clear C4
            try clear C5
            try clear q4
            try clear q5
            try clear z4
            try clear z5
            try clear hS
            go_wp2_with fail
            refine (l4Good_any s _ (HN.out.grow HZ.out.bl) (HZ.out.rt 1 rfl (by have := HKl.out; omega))).mono ?_
            rintro e w5 ⟨rfl, hb5⟩
            have HZ5 := hid (HZ.out.step hb5)
            clear hb5 p0 p1 p2 p3
            cases g4 : routeB xs fs s J
            · have e1 : Hid (jnS xs fs s ids t jds = 0) := by unfold Hid; rw [H1.out, g4]; rfl
              have e2 : Hid (jnL xs fs s ids t jds = []) := by unfold Hid; rw [H2.out, g4]; rfl
              have e3 : Hid (jnB xs fs s ids t jds = false) := by unfold Hid; rw [H.out, g4]
              have y0 := HZ5.out.cell 2 0 rfl rfl
              have y1 := HZ5.out.cell 2 1 rfl rfl
              have z0 := HZ5.out.frozen 2 0 rfl
              have z1 := HZ5.out.frozen 2 1 rfl
              have HE := hid ((HZ5.out.set 2 rfl 0 (.int .i64 0)).set 2 rfl 1 (.slice none 0 0))
              clear g4
              go_wp2
              exact bodyPost_ret (v := .tuple #[.agg #[.int .i64 0, .slice none 0 0], .bool false]) (by simp [results, Try.results28, go_sem, y0, y1]) rfl
                ⟨none, 0, by rw [e1.out, e2.out, e3.out]; rfl, by rw [e2.out]; exact World.ownsRow_nil _ _ _ _, HE.out.bl⟩
            · have e1 : Hid (jnS xs fs s ids t jds = s) := by unfold Hid; rw [H1.out, g4]; rfl
              have e2 : Hid (jnL xs fs s ids t jds = J) := by unfold Hid; rw [H2.out, g4]; rfl
              have e3 : Hid (jnB xs fs s ids t jds = true) := by unfold Hid; rw [H.out, g4]
              have p2 := HZ5.out.cell 0 0 rfl rfl
              have p3 := HZ5.out.cell 0 1 rfl rfl
              have y0 := HZ5.out.cell 2 0 rfl rfl
              have y1 := HZ5.out.cell 2 1 rfl rfl
              have z0 := HZ5.out.frozen 2 0 rfl
              have z1 := HZ5.out.frozen 2 1 rfl
              have HE := hid ((HZ5.out.set 2 rfl 0 (.int .i64 s)).set 2 rfl 1 (.slice A3 J.length c3))
              clear g4
              go_wp2
              exact bodyPost_ret (v := .tuple #[.agg #[.int .i64 s, .slice A3 J.length c3], .bool true]) (by simp [results, Try.results28, go_sem, y0, y1]) rfl
                ⟨A3, c3, by rw [e1.out, e2.out, e3.out], by rw [e2.out]; exact (HE.out.own 1 rfl).base (by first | exact hwb | (simp; omega)), HE.out.bl⟩
        · skip
          refine AllReadyH.cons rfl (fun K hK => ?_) AllReadyH.nil
          go_simp
          go_wp2_with fail
          refine hK.out _ _ (((hS.blk_ wz.heap.size rfl 37 #[.int .i64 0, .slice none 0 0]).step (Cls.drew _)).drop 1) (fun hHeld => ?_)
          clear hK K
          try simp only [Act.put, List.getElem_toArray, List.getElem_cons_zero, List.getElem_cons_succ, List.setIfInBounds_toArray, List.set_cons_zero, List.set_cons_succ]
          refine wpAnyH_ready (rs := [4]) (by kernel_rfl) (by simp) ?_
          refine AllReadyH.cons rfl (fun K hK => ?_) AllReadyH.nil
          go_simp
          have hlB := hid ((hS.blk_ wz.heap.size rfl 37 #[.int .i64 0, .slice none 0 0]).step (Cls.drew _))
          refine (l1Own_any _ ((HR.out.grow hlB.out.bl).2) (by omega)).mono ?_
          rintro e w2 ⟨v3, rfl, ho3, hb3⟩
          obtain ⟨A2, c2, rfl, _⟩ := ho3.form
          have hl2 := hlB.out.owns hb3 ho3
          go_wp2_with fail
          refine hK.out _ _ (hl2.drop 2) (fun hHeld => ?_)
          clear hK K
          try simp only [Act.put, List.getElem_toArray, List.getElem_cons_zero, List.getElem_cons_succ, List.setIfInBounds_toArray, List.set_cons_zero, List.set_cons_succ]
          refine wpAnyH_ready (rs := [7]) (by kernel_rfl) (by simp) ?_
          refine AllReadyH.cons rfl (fun K hK => ?_) AllReadyH.nil
          have hlC := hl2
          refine step_append_led rfl _ _ 26 rfl hlC 0 rfl Try.underlying26 hi hx0 hx1 (by rw [hx2]; decide) rfl rfl rfl ((HQ.out.grow hlC.bl).2) (by omega) (by first | exact hb3.size | exact Nat.le_trans hb3.size (by simp)) ?_
          intro A3 c3 w4 hS4
          rw [HK.out, ← HKl.out] at hS4
          rw [← HKl.out]
          refine hK.out _ _ (hS4.drop 2) (fun hHeld => ?_)
          clear hK K
          try simp only [Act.put, List.getElem_toArray, List.getElem_cons_zero, List.getElem_cons_succ, List.setIfInBounds_toArray, List.set_cons_zero, List.set_cons_succ]
          refine wpAnyH_take (i := 8) (oi := _) (v := ?_) rfl (by kernel_rfl) (by kernel_rfl) (by kernel_rfl) (fun _ _ _ h => h) (Or.inl ⟨by rfl, ?_⟩) (by assumption) ?_
          rotate_left
          · intro w hSw; go_simp; with_reducible rfl
          simp only [Act.put, List.getElem_toArray, List.getElem_cons_zero, List.getElem_cons_succ, List.setIfInBounds_toArray, List.set_cons_zero, List.set_cons_succ]
          have q4 := hS4.cell 1 0 rfl rfl
          have q5 := hS4.cell 1 1 rfl rfl
          have z4 := hS4.frozen 1 0 rfl
          have z5 := hS4.frozen 1 1 rfl
          refine wpAnyH_ready (rs := [10]) (by kernel_rfl) (by simp) ?_
          refine AllReadyH.cons rfl (fun K hK => ?_) AllReadyH.nil
          go_simp
          go_wp2_with fail
          refine hK.out _ _ (((hS4.set 1 rfl 0 (.int .i64 s)).set 1 rfl 1 (.slice A3 J.length c3)).drop 2) (fun hHeld => ?_)
          clear hK K
          try simp only [Act.put, List.getElem_toArray, List.getElem_cons_zero, List.getElem_cons_succ, List.setIfInBounds_toArray, List.set_cons_zero, List.set_cons_succ]
          refine wpAnyH_done (by kernel_rfl) ?_ _
          have HZ := hid ((hS4.set 1 rfl 0 (.int .i64 s)).set 1 rfl 1 (.slice A3 J.length c3))
          have hwb := hS.bl.size
          have p0 := HZ.out.cell 5 0 rfl rfl
          have p1 := HZ.out.cell 5 1 rfl rfl
          have p2 := HZ.out.cell 1 0 rfl rfl
          have p3 := HZ.out.cell 1 1 rfl rfl
          try clear hHeld
          try clear hS4
          try clear hl2
          try clear hlB
          try clear ho3
          try clear hb3
          try clear C0
          try clear C1
          try clear C2
          try clear C3
          try clear C4
          try clear C5
          try clear q4
          try clear q5
          try clear z4
          try clear z5
          try clear hS
          go_wp2_with fail
          refine (l4Good_any s _ (HN.out.grow HZ.out.bl) (HZ.out.rt 0 rfl (by have := HKl.out; omega))).mono ?_
          rintro e w5 ⟨rfl, hb5⟩
          have HZ5 := hid (HZ.out.step hb5)
          clear hb5 p0 p1 p2 p3
          cases g4 : routeB xs fs s J
          · have e1 : Hid (jnS xs fs s ids t jds = 0) := by unfold Hid; rw [H1.out, g4]; rfl
            have e2 : Hid (jnL xs fs s ids t jds = []) := by unfold Hid; rw [H2.out, g4]; rfl
            have e3 : Hid (jnB xs fs s ids t jds = false) := by unfold Hid; rw [H.out, g4]
            have y0 := HZ5.out.cell 2 0 rfl rfl
            have y1 := HZ5.out.cell 2 1 rfl rfl
            have z0 := HZ5.out.frozen 2 0 rfl
            have z1 := HZ5.out.frozen 2 1 rfl
            have HE := hid ((HZ5.out.set 2 rfl 0 (.int .i64 0)).set 2 rfl 1 (.slice none 0 0))
            clear g4
            go_wp2
            exact bodyPost_ret (v := .tuple #[.agg #[.int .i64 0, .slice none 0 0], .bool false]) (by simp [results, Try.results28, go_sem, y0, y1]) rfl
              ⟨none, 0, by rw [e1.out, e2.out, e3.out]; rfl, by rw [e2.out]; exact World.ownsRow_nil _ _ _ _, HE.out.bl⟩
          · have e1 : Hid (jnS xs fs s ids t jds = s) := by unfold Hid; rw [H1.out, g4]; rfl
            have e2 : Hid (jnL xs fs s ids t jds = J) := by unfold Hid; rw [H2.out, g4]; rfl
            have e3 : Hid (jnB xs fs s ids t jds = true) := by unfold Hid; rw [H.out, g4]
            have p2 := HZ5.out.cell 1 0 rfl rfl
            have p3 := HZ5.out.cell 1 1 rfl rfl
            have y0 := HZ5.out.cell 2 0 rfl rfl
            have y1 := HZ5.out.cell 2 1 rfl rfl
            have z0 := HZ5.out.frozen 2 0 rfl
            have z1 := HZ5.out.frozen 2 1 rfl
            have HE := hid ((HZ5.out.set 2 rfl 0 (.int .i64 s)).set 2 rfl 1 (.slice A3 J.length c3))
            clear g4
            go_wp2
            exact bodyPost_ret (v := .tuple #[.agg #[.int .i64 s, .slice A3 J.length c3], .bool true]) (by simp [results, Try.results28, go_sem, y0, y1]) rfl
              ⟨A3, c3, by rw [e1.out, e2.out, e3.out], by rw [e2.out]; exact (HE.out.own 0 rfl).base (by first | exact hwb | (simp; omega)), HE.out.bl⟩
end
end Go.Proofs.Ytjklphlgmlomjaa
/- Things of a ledger, picked and put into another order. Conditions: none. -/
namespace Go.Proofs.Ytjklphlgmlomjaa
open Go.RowKit
/-- A proposition kept apart (no assumption is taken for it). -/
structure Kept (P : Prop) : Prop where
  out : P
theorem share {P G : Prop} (k : Kept P → G) (h : P) : G := k ⟨h⟩
theorem Led.pick {w0 w : World} {L : List Thing} (h : Led w0 w L) (is : List Nat) (hn : is.Nodup) (he : is.all (fun i => decide (i < L.length)) = true) : Led w0 w (is.filterMap fun i => L[i]?) := by
  have hm : is.map (fun i => L[i]?) = (is.filterMap fun i => L[i]?).map some := by
    clear hn
    induction is with
    | nil => rfl
    | cons x is ih =>
      rw [List.all_cons, Bool.and_eq_true, decide_eq_true_eq] at he
      rw [List.map_cons, List.filterMap_cons, List.getElem?_eq_getElem he.1, ih he.2]
      rfl
  have key : ∀ (i : Nat) t, (is.filterMap fun i => L[i]?)[i]? = some t → ∃ k, is[i]? = some k ∧ L[k]? = some t := fun i t ht => by
    have h1 : (is.map (fun i => L[i]?))[i]? = some (some t) := by rw [hm, List.getElem?_map, ht]; rfl
    rw [List.getElem?_map] at h1
    cases hk : is[i]? with
    | none => rw [hk] at h1; cases h1
    | some k =>
      rw [hk] at h1
      injection h1 with h1
      exact ⟨k, rfl, h1⟩
  refine ⟨h.bl, fun i t ht => ?_, fun i j a b hij ha hb => ?_⟩
  · obtain ⟨k, _, hk⟩ := key i t ht
    exact h.all k t hk
  · obtain ⟨k, hk1, hk⟩ := key i a ha
    obtain ⟨l, hl1, hl⟩ := key j b hb
    exact h.apart k l a b (fun e => hij (by
      subst e
      exact (List.getElem?_inj (List.getElem?_eq_some_iff.1 hk1).1 hn).1 (hk1.trans hl1.symm))) hk hl
end Go.Proofs.Ytjklphlgmlomjaa
/- A route that came in. Conditions: none. -/
namespace Go.Proofs.Ytjklphlgmlomjaa
open Go.ChangeShapes Go.WideShapes Go.ChangeAt Go.RowKit Go.Deep Go.Joins
section
variable {H : Type} {enc : TypeId × Value → H} {W : World} {spare : Nat → Bool} {held : Bool}
theorem cellsR : Try.prog.cellsOf 28 = 2 := by kernel_rfl
/-- A route that came in. -/
def RouteArg (W : World) (s : Int) (A : Option Addr) (n c : Nat) (xs : List Int) : Prop := (-9223372036854775808 ≤ s ∧ s ≤ 9223372036854775807) ∧ IntsArg W A n c xs
set_option maxRecDepth 100000 in
theorem open_route {base : Nat} {v : Value} {d : DataW H} {p : List MemPlace} (hv : Value.okWide Try.prog W .any base 28 v) (h : DataW.Trod enc Try.prog W 0 spare held 28 v d p) :
    ∃ s A n c xs, v = .agg #[.int .i64 s, .slice A n c] ∧ RouteArg W s A n c xs := by
  obtain ⟨v0, v1, y0, y1, k, rfl, _, _, h0, h1⟩ := open_agg2 Try.underlying28 (by kernel_rfl) cellsR hv h
  obtain ⟨s, e0, hs⟩ := el_int Try.underlying3 _ _ _ h0
  obtain ⟨A, n, c, xs, e1, b1, b2, b3, b4⟩ := open_sl elInt _ Try.underlying26 cellsI (el_int Try.underlying3) h1
  simp [elInt] at e0 e1
  exact ⟨s, A, n, c, xs, by rw [e0, e1], hs, ⟨b1, b2, b3, b4⟩⟩
end
end Go.Proofs.Ytjklphlgmlomjaa
