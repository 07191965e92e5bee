/- Lemmas and walks that the claim rests on, laid together. Conditions: none. -/
import Derived.Test.YtfepilpllfiegaaZ19d51b277163
import Derived.Test.YtfepilpllfiegaaZca6a11a8a0df
import Derived.Deep.RegionHeld3
import Derived.Test.YtfepilpllfiegaaZc731a5b1582e
import Derived.Lib.SlicesCompact
import Derived.Test.YtfepilpllfiegaaZc3e33f13110d
import Derived.Test.YtfepilpllfiegaaZ76d3d4a5ee99
import Derived.Test.YtfepilpllfiegaaRows
/- JoinRoutes of both sides, walked. Conditions: none. -/
namespace Go.Proofs.Ytfepilpllfiegaa
open Go.RowKit
/-- May two routes be joined? -/
def jnB (xs : List ByteArray) (fs : List Fib) (s : Int) (ids : List Int) (t : Int) (jds : List Int) : Bool := ((routeB xs fs s ids && routeB xs fs t jds) && (atW fs s ids ids.length == t)) && routeB xs fs s (ids ++ jds)
def jnS (xs : List ByteArray) (fs : List Fib) (s : Int) (ids : List Int) (t : Int) (jds : List Int) : Int := if jnB xs fs s ids t jds then s else 0
def jnL (xs : List ByteArray) (fs : List Fib) (s : Int) (ids : List Int) (t : Int) (jds : List Int) : List Int := if jnB xs fs s ids t jds then ids ++ jds else []
theorem jnL_len {xs : List ByteArray} {fs : List Fib} {s t : Int} {ids jds : List Int} : (jnL xs fs s ids t jds).length ≤ 14 := by
  unfold jnL
  cases g : jnB xs fs s ids t jds
  · simp
  · unfold jnB at g
    rw [Bool.and_eq_true, Bool.and_eq_true, Bool.and_eq_true] at g
    have h1 := (routeB_short g.1.1.1).1
    have h2 := (routeB_short g.1.1.2).1
    simp; omega
theorem calls_eq {P : Program} {f : FuncId} {args : Array Value} {w : World} {v v' : Value} (h : Calls P f args w fun e w' => e = .returned v ∧ Below w.heap.size w w') (e : v = v') : Calls P f args w fun e w' => e = .returned v' ∧ Below w.heap.size w w' := by subst e; exact h
section
variable {n c m d er eq : Nat} {A A' R Q : Option Addr} {xs : List ByteArray} {fs : List Fib} {ids jds : List Int} {s t : Int}
set_option maxHeartbeats 4000000 in
set_option maxRecDepth 100000 in
theorem implJoin (w : World) (h : NetIs w A n c A' m d xs fs) (hr : RtIs w R ids.length er ids) (hq : RtIs w Q jds.length eq jds) (s t : Int) :
    Calls Try.prog 41 #[.agg #[.slice A n c, .slice A' m d], .agg #[.int .i64 s, .slice R ids.length er], .agg #[.int .i64 t, .slice Q jds.length eq]] w fun e w' => ∃ R' c', e = .returned (.tuple #[.agg #[.int .i64 (jnS xs fs s ids t jds), .slice R' (jnL xs fs s ids t jds).length c'], .bool (jnB xs fs s ids t jds)]) ∧ Owns elInt w' w.heap.size 3 (.slice R' (jnL xs fs s ids t jds).length c') (jnL xs fs s ids t jds) ∧ Below w.heap.size w w' := by
  have hS := ((((Led.nil w).blk_ w.heap.size rfl 27 #[.slice A n c, .slice A' m d]).blk_ (w.heap.size + 1) (by simp) 35 #[.int .i64 s, .slice R ids.length er]).blk_ (w.heap.size + 1 + 1) (by simp) 35 #[.int .i64 t, .slice Q jds.length eq]).blk_ (w.heap.size + 1 + 1 + 1) (by simp) 35 #[.int .i64 0, .slice none 0 0]
  have HN := hid h
  have HR := hid hr
  have HQ := hid hq
  clear h hr hq
  cases g : (routeB xs fs s ids && routeB xs fs t jds)
  · skip
    have H : Hid (jnB xs fs s ids t jds = false) := by unfold Hid jnB; rw [g]; simp
    have H1 : Hid (jnS xs fs s ids t jds = 0 ∧ jnL xs fs s ids t jds = []) := by unfold Hid jnS jnL; rw [H.out]; exact ⟨rfl, rfl⟩
    rw [H.out, H1.out.1, H1.out.2]
    go_enter Try.func41, Try.ntmps41
    go_wp2_with fail
    generalize (((w.alloc (.cells #[.slice A n c, .slice A' m d] 27)).alloc (.cells #[.int .i64 s, .slice R ids.length er] 35)).alloc (.cells #[.int .i64 t, .slice Q jds.length eq] 35)).alloc (.cells #[.int .i64 0, .slice none 0 0] 35) = W1 at *
    have C0 : ∀ w', Cls W1 w' → w'.cell? ⟨w.heap.size, 0, none⟩ = some (.slice A n c) := fun _ h => h.cell (hS.cell 3 0 rfl rfl)
    have C1 : ∀ w', Cls W1 w' → w'.cell? ⟨w.heap.size, 1, none⟩ = some (.slice A' m d) := fun _ h => h.cell (hS.cell 3 1 rfl rfl)
    have C2 : ∀ w', Cls W1 w' → w'.cell? ⟨w.heap.size + 1, 0, none⟩ = some (.int .i64 s) := fun _ h => h.cell (hS.cell 2 0 rfl rfl)
    have C3 : ∀ w', Cls W1 w' → w'.cell? ⟨w.heap.size + 1, 1, none⟩ = some (.slice R ids.length er) := fun _ h => h.cell (hS.cell 2 1 rfl rfl)
    have C4 : ∀ w', Cls W1 w' → w'.cell? ⟨w.heap.size + 1 + 1, 0, none⟩ = some (.int .i64 t) := fun _ h => h.cell (hS.cell 1 0 rfl rfl)
    have C5 : ∀ w', Cls W1 w' → w'.cell? ⟨w.heap.size + 1 + 1, 1, none⟩ = some (.slice Q jds.length eq) := fun _ h => h.cell (hS.cell 1 1 rfl rfl)
    have HL := hid (fun w' (h : Cls W1 w') => hS.step h)
    clear hS
    try go_wp2_with fail
    refine region_cls (by kernel_rfl) (by kernel_rfl) ?_
    repeat (first
      | ((with_reducible refine quiet_pos ?_ (fun K hK => ?_))
         · rfl
         apply Exists.intro
         refine ⟨fun w' hw' => ?_, ?_⟩
         · go_simp
           first
             | with_reducible rfl
             | (go_at_call 63; exact hw'.call (calls_eq (areRoutes_any (s := s) (t := t) _ (HN.out.grow (HL.out _ hw').bl) (HR.out.grow (HL.out _ hw').bl) (HQ.out.grow (HL.out _ hw').bl)) (by rw [g])))
         simp only [Act.put, List.setIfInBounds_toArray, List.set_cons_zero, List.set_cons_succ]
         refine hK _ ?_; clear hK K)
      | ((with_reducible refine quiet_neg ?_ (fun K hK => ?_))
         · rfl
         simp only [Act.put, List.setIfInBounds_toArray, List.set_cons_zero, List.set_cons_succ]
         refine hK _ ?_; clear hK K))
    with_reducible refine wpQuiet_nil ?_
    intro wz hwz'
    have HZ := hid (HL.out _ hwz')
    clear hwz'
    have y0 := HZ.out.cell 0 0 rfl rfl
    have y1 := HZ.out.cell 0 1 rfl rfl
    have z0 := HZ.out.frozen 0 0 rfl
    have z1 := HZ.out.frozen 0 1 rfl
    have HE := hid ((HZ.out.set 0 rfl 0 (.int .i64 0)).set 0 rfl 1 (.slice none 0 0))
    clear HL C0 C1 C2 C3 C4 C5
    go_wp2
    exact bodyPost_ret (v := .tuple #[.agg #[.int .i64 0, .slice none 0 0], .bool false]) (by simp [results, Try.results41, go_sem, y0, y1]) rfl
      ⟨none, 0, rfl, World.ownsRow_nil _ _ _ _, HE.out.bl⟩
  · skip
    obtain ⟨ga, gb⟩ := (Bool.and_eq_true _ _).mp g
    obtain ⟨hg, hrt⟩ := routeB_good ga
    rw [HN.out.xlen] at hrt
    have HRT := hid hrt
    have h7 := (routeB_short ga).1
    have h8 := (routeB_short gb).1
    obtain ⟨z, hz⟩ : ∃ z, z = atW fs s ids ids.length := ⟨_, rfl⟩
    have HAT : Hid (atW fs s ids ids.length = z) := hz.symm
    clear hz hrt hg
    cases g2 : (z == t)
    · skip
      have g3 : (z != t) = true := by simpa using g2
      have H : Hid (jnB xs fs s ids t jds = false) := by unfold Hid jnB; rw [g, HAT.out, g2]; simp
      have H1 : Hid (jnS xs fs s ids t jds = 0 ∧ jnL xs fs s ids t jds = []) := by unfold Hid jnS jnL; rw [H.out]; exact ⟨rfl, rfl⟩
      rw [H.out, H1.out.1, H1.out.2]
      go_enter Try.func41, Try.ntmps41
      go_wp2_with fail
      generalize (((w.alloc (.cells #[.slice A n c, .slice A' m d] 27)).alloc (.cells #[.int .i64 s, .slice R ids.length er] 35)).alloc (.cells #[.int .i64 t, .slice Q jds.length eq] 35)).alloc (.cells #[.int .i64 0, .slice none 0 0] 35) = W1 at *
      have C0 : ∀ w', Cls W1 w' → w'.cell? ⟨w.heap.size, 0, none⟩ = some (.slice A n c) := fun _ h => h.cell (hS.cell 3 0 rfl rfl)
      have C1 : ∀ w', Cls W1 w' → w'.cell? ⟨w.heap.size, 1, none⟩ = some (.slice A' m d) := fun _ h => h.cell (hS.cell 3 1 rfl rfl)
      have C2 : ∀ w', Cls W1 w' → w'.cell? ⟨w.heap.size + 1, 0, none⟩ = some (.int .i64 s) := fun _ h => h.cell (hS.cell 2 0 rfl rfl)
      have C3 : ∀ w', Cls W1 w' → w'.cell? ⟨w.heap.size + 1, 1, none⟩ = some (.slice R ids.length er) := fun _ h => h.cell (hS.cell 2 1 rfl rfl)
      have C4 : ∀ w', Cls W1 w' → w'.cell? ⟨w.heap.size + 1 + 1, 0, none⟩ = some (.int .i64 t) := fun _ h => h.cell (hS.cell 1 0 rfl rfl)
      have C5 : ∀ w', Cls W1 w' → w'.cell? ⟨w.heap.size + 1 + 1, 1, none⟩ = some (.slice Q jds.length eq) := fun _ h => h.cell (hS.cell 1 1 rfl rfl)
      have HL := hid (fun w' (h : Cls W1 w') => hS.step h)
      clear hS
      try go_wp2_with fail
      refine region_cls (by kernel_rfl) (by kernel_rfl) ?_
      repeat (first
        | ((with_reducible refine quiet_pos ?_ (fun K hK => ?_))
           · rfl
           apply Exists.intro
           refine ⟨fun w' hw' => ?_, ?_⟩
           · go_simp
             first
               | with_reducible rfl
               | (go_at_call 63; exact hw'.call (calls_eq (areRoutes_any (s := s) (t := t) _ (HN.out.grow (HL.out _ hw').bl) (HR.out.grow (HL.out _ hw').bl) (HQ.out.grow (HL.out _ hw').bl)) (by rw [g])))
               | (go_at_call 98; exact hw'.call (calls_eq (endOf_any (s := s) _ (HN.out.grow (HL.out _ hw').bl) (HR.out.grow (HL.out _ hw').bl) HRT.out) (by rw [HAT.out])))
           simp only [Act.put, List.setIfInBounds_toArray, List.set_cons_zero, List.set_cons_succ]
           refine hK _ ?_; clear hK K)
        | ((with_reducible refine quiet_neg ?_ (fun K hK => ?_))
           · rfl
           simp only [Act.put, List.setIfInBounds_toArray, List.set_cons_zero, List.set_cons_succ]
           refine hK _ ?_; clear hK K))
      with_reducible refine wpQuiet_nil ?_
      intro wz hwz'
      have HZ := hid (HL.out _ hwz')
      clear hwz'
      have y0 := HZ.out.cell 0 0 rfl rfl
      have y1 := HZ.out.cell 0 1 rfl rfl
      have z0 := HZ.out.frozen 0 0 rfl
      have z1 := HZ.out.frozen 0 1 rfl
      have HE := hid ((HZ.out.set 0 rfl 0 (.int .i64 0)).set 0 rfl 1 (.slice none 0 0))
      clear HL C0 C1 C2 C3 C4 C5
      go_wp2
      exact bodyPost_ret (v := .tuple #[.agg #[.int .i64 0, .slice none 0 0], .bool false]) (by simp [results, Try.results41, go_sem, y0, y1]) rfl
        ⟨none, 0, rfl, World.ownsRow_nil _ _ _ _, HE.out.bl⟩
    · skip
      have g3 : (z != t) = false := by simpa using g2
      have hzt : z = t := by simpa using g2
      obtain ⟨J, hK⟩ : ∃ J, J = ids ++ jds := ⟨_, rfl⟩
      have HK : Hid (ids ++ jds = J) := hK.symm
      have HKl : Hid (J.length = ids.length + jds.length) := by unfold Hid; rw [hK, List.length_append]
      clear hK
      have H : Hid (jnB xs fs s ids t jds = routeB xs fs s J) := by unfold Hid jnB; rw [g, HAT.out, g2, HK.out]; rfl
      have H1 : Hid (jnS xs fs s ids t jds = if routeB xs fs s J then s else 0) := by unfold Hid jnS; rw [H.out]
      have H2 : Hid (jnL xs fs s ids t jds = if routeB xs fs s J then J else []) := by unfold Hid jnL; rw [H.out, HK.out]
      go_enter Try.func41, Try.ntmps41
      go_wp2_with fail
      generalize (((w.alloc (.cells #[.slice A n c, .slice A' m d] 27)).alloc (.cells #[.int .i64 s, .slice R ids.length er] 35)).alloc (.cells #[.int .i64 t, .slice Q jds.length eq] 35)).alloc (.cells #[.int .i64 0, .slice none 0 0] 35) = W1 at *
      have C0 : ∀ w', Cls W1 w' → w'.cell? ⟨w.heap.size, 0, none⟩ = some (.slice A n c) := fun _ h => h.cell (hS.cell 3 0 rfl rfl)
      have C1 : ∀ w', Cls W1 w' → w'.cell? ⟨w.heap.size, 1, none⟩ = some (.slice A' m d) := fun _ h => h.cell (hS.cell 3 1 rfl rfl)
      have C2 : ∀ w', Cls W1 w' → w'.cell? ⟨w.heap.size + 1, 0, none⟩ = some (.int .i64 s) := fun _ h => h.cell (hS.cell 2 0 rfl rfl)
      have C3 : ∀ w', Cls W1 w' → w'.cell? ⟨w.heap.size + 1, 1, none⟩ = some (.slice R ids.length er) := fun _ h => h.cell (hS.cell 2 1 rfl rfl)
      have C4 : ∀ w', Cls W1 w' → w'.cell? ⟨w.heap.size + 1 + 1, 0, none⟩ = some (.int .i64 t) := fun _ h => h.cell (hS.cell 1 0 rfl rfl)
      have C5 : ∀ w', Cls W1 w' → w'.cell? ⟨w.heap.size + 1 + 1, 1, none⟩ = some (.slice Q jds.length eq) := fun _ h => h.cell (hS.cell 1 1 rfl rfl)
      have HL := hid (fun w' (h : Cls W1 w') => hS.step h)
      clear hS
      try go_wp2_with fail
      refine region_cls (by kernel_rfl) (by kernel_rfl) ?_
      repeat (first
        | ((with_reducible refine quiet_pos ?_ (fun K hK => ?_))
           · rfl
           apply Exists.intro
           refine ⟨fun w' hw' => ?_, ?_⟩
           · go_simp
             first
               | with_reducible rfl
               | (go_at_call 63; exact hw'.call (calls_eq (areRoutes_any (s := s) (t := t) _ (HN.out.grow (HL.out _ hw').bl) (HR.out.grow (HL.out _ hw').bl) (HQ.out.grow (HL.out _ hw').bl)) (by rw [g])))
               | (go_at_call 98; exact hw'.call (calls_eq (endOf_any (s := s) _ (HN.out.grow (HL.out _ hw').bl) (HR.out.grow (HL.out _ hw').bl) HRT.out) (by rw [HAT.out])))
           simp only [Act.put, List.setIfInBounds_toArray, List.set_cons_zero, List.set_cons_succ]
           refine hK _ ?_; clear hK K)
        | ((with_reducible refine quiet_neg ?_ (fun K hK => ?_))
           · rfl
           simp only [Act.put, List.setIfInBounds_toArray, List.set_cons_zero, List.set_cons_succ]
           refine hK _ ?_; clear hK K))
      with_reducible refine wpQuiet_nil ?_
      intro wz hwz'
      have hS := HL.out _ hwz'
      clear hwz' HL C0 C1 C2 C3 C4 C5
      have C0 : ∀ w', Cls wz w' → w'.cell? ⟨w.heap.size, 0, none⟩ = some (.slice A n c) := fun _ h => h.cell (hS.cell 3 0 rfl rfl)
      have C1 : ∀ w', Cls wz w' → w'.cell? ⟨w.heap.size, 1, none⟩ = some (.slice A' m d) := fun _ h => h.cell (hS.cell 3 1 rfl rfl)
      have C2 : ∀ w', Cls wz w' → w'.cell? ⟨w.heap.size + 1, 0, none⟩ = some (.int .i64 s) := fun _ h => h.cell (hS.cell 2 0 rfl rfl)
      have C3 : ∀ w', Cls wz w' → w'.cell? ⟨w.heap.size + 1, 1, none⟩ = some (.slice R ids.length er) := fun _ h => h.cell (hS.cell 2 1 rfl rfl)
      have C4 : ∀ w', Cls wz w' → w'.cell? ⟨w.heap.size + 1 + 1, 0, none⟩ = some (.int .i64 t) := fun _ h => h.cell (hS.cell 1 0 rfl rfl)
      have C5 : ∀ w', Cls wz w' → w'.cell? ⟨w.heap.size + 1 + 1, 1, none⟩ = some (.slice Q jds.length eq) := fun _ h => h.cell (hS.cell 1 1 rfl rfl)
      have HL := hid (fun w' (h : Cls wz w') => hS.step h)
      clear hS
      go_wp2_with fail
      go_region_held3 (fun w' => Cls wz w') (first | exact Cls.refl _ | exact Cls.drew _ | assumption | exact Cls.next (by assumption) (by assumption) | exact bl_alloc (by assumption) _ | exact bl_alloc (Cls.drew _) _ | exact (bl_alloc (Cls.refl _) _).drew | exact bl_set (bl_set (by assumption) _ (by simp)) _ (by simp))
        (first
          | (go_at_call 101; first
            | (have hlB := hid (((HL.out wz (Cls.refl _)).blk_ wz.heap.size rfl 33 #[.slice R ids.length er, .slice Q jds.length eq]).step (Cls.drew _)); have hcc := concat2_any _ (hlB.out.get 0 rfl) ((HR.out.grow hlB.out.bl).2) ((HQ.out.grow hlB.out.bl).2) (by omega) (by omega); with_reducible refine hcc.mono ?_; clear hcc; rintro e w3 ⟨v3, rfl, ho3, hb3⟩; rw [HK.out] at ho3; obtain ⟨A3, c3, hv3, _⟩ := ho3.form; subst hv3; have hcl3 : Cls wz _ := Cls.next hb3 (by assumption); have hlA := hlB.out.owns hb3 ho3)
            | (have hlB := hid ((((HL.out wz (Cls.refl _)).blk_ wz.heap.size rfl 33 #[.slice R ids.length er, .slice Q jds.length eq]).blk_ (wz.heap.size + 1) (by simp) 35 #[.int .i64 0, .slice none 0 0]).step (Cls.drew _)); have hcc := concat2_any _ (hlB.out.get 1 rfl) ((HR.out.grow hlB.out.bl).2) ((HQ.out.grow hlB.out.bl).2) (by omega) (by omega); with_reducible refine hcc.mono ?_; clear hcc; rintro e w3 ⟨v3, rfl, ho3, hb3⟩; rw [HK.out] at ho3; obtain ⟨A3, c3, hv3, _⟩ := ho3.form; subst hv3; have hcl3 : Cls wz _ := Cls.next hb3 (by assumption); have hlA := hlB.out.owns hb3 ho3; have q4 := hlA.cell 1 0 rfl rfl; have q5 := hlA.cell 1 1 rfl rfl; have z4 := hlA.frozen 1 0 rfl; have z5 := hlA.frozen 1 1 rfl)
            | (have hlB := hid ((((HL.out wz (Cls.refl _)).blk_ wz.heap.size rfl 35 #[.int .i64 0, .slice none 0 0]).blk_ (wz.heap.size + 1) (by simp) 33 #[.slice R ids.length er, .slice Q jds.length eq]).step (Cls.drew _)); have hcc := concat2_any _ (hlB.out.get 0 rfl) ((HR.out.grow hlB.out.bl).2) ((HQ.out.grow hlB.out.bl).2) (by omega) (by omega); with_reducible refine hcc.mono ?_; clear hcc; rintro e w3 ⟨v3, rfl, ho3, hb3⟩; rw [HK.out] at ho3; obtain ⟨A3, c3, hv3, _⟩ := ho3.form; subst hv3; have hcl3 : Cls wz _ := Cls.next hb3 (by assumption); have hlA := hlB.out.owns hb3 ho3; have q4 := hlA.cell 2 0 rfl rfl; have q5 := hlA.cell 2 1 rfl rfl; have z4 := hlA.frozen 2 0 rfl; have z5 := hlA.frozen 2 1 rfl)))
      · have HZ := hid (hlA.blk_ w3.heap.size rfl 35 #[.int .i64 s, .slice A3 J.length c3])
        have hwb := hlB.out.bl.size
        have p0 := HZ.out.cell 6 0 rfl rfl
        have p1 := HZ.out.cell 6 1 rfl rfl
        have p2 := HZ.out.cell 0 0 rfl rfl
        have p3 := HZ.out.cell 0 1 rfl rfl
        clear hlA hlB ho3 hb3 hcl3 HL C0 C1 C2 C3 C4 C5
        go_wp2_with fail
        refine (implIsValidRoute s _ (HN.out.grow HZ.out.bl) (HZ.out.rt 1 rfl (by have := HKl.out; omega))).mono ?_
        rintro e w5 ⟨rfl, hb5⟩
        have HZ5 := hid (HZ.out.step hb5)
        clear hb5 p0 p1 p2 p3
        cases g4 : routeB xs fs s J
        · have e1 : Hid (jnS xs fs s ids t jds = 0) := by unfold Hid; rw [H1.out, g4]; rfl
          have e2 : Hid (jnL xs fs s ids t jds = []) := by unfold Hid; rw [H2.out, g4]; rfl
          have e3 : Hid (jnB xs fs s ids t jds = false) := by unfold Hid; rw [H.out, g4]
          have y0 := HZ5.out.cell 3 0 rfl rfl
          have y1 := HZ5.out.cell 3 1 rfl rfl
          have z0 := HZ5.out.frozen 3 0 rfl
          have z1 := HZ5.out.frozen 3 1 rfl
          have HE := hid ((HZ5.out.set 3 rfl 0 (.int .i64 0)).set 3 rfl 1 (.slice none 0 0))
          clear g4
          go_wp2
          exact bodyPost_ret (v := .tuple #[.agg #[.int .i64 0, .slice none 0 0], .bool false]) (by simp [results, Try.results41, go_sem, y0, y1]) rfl
            ⟨none, 0, by rw [e1.out, e2.out, e3.out]; rfl, by rw [e2.out]; exact World.ownsRow_nil _ _ _ _, HE.out.bl⟩
        · have e1 : Hid (jnS xs fs s ids t jds = s) := by unfold Hid; rw [H1.out, g4]; rfl
          have e2 : Hid (jnL xs fs s ids t jds = J) := by unfold Hid; rw [H2.out, g4]; rfl
          have e3 : Hid (jnB xs fs s ids t jds = true) := by unfold Hid; rw [H.out, g4]
          have p2 := HZ5.out.cell 0 0 rfl rfl
          have p3 := HZ5.out.cell 0 1 rfl rfl
          have y0 := HZ5.out.cell 3 0 rfl rfl
          have y1 := HZ5.out.cell 3 1 rfl rfl
          have z0 := HZ5.out.frozen 3 0 rfl
          have z1 := HZ5.out.frozen 3 1 rfl
          have HE := hid ((HZ5.out.set 3 rfl 0 (.int .i64 s)).set 3 rfl 1 (.slice A3 J.length c3))
          clear g4
          go_wp2
          exact bodyPost_ret (v := .tuple #[.agg #[.int .i64 s, .slice A3 J.length c3], .bool true]) (by simp [results, Try.results41, go_sem, y0, y1]) rfl
            ⟨A3, c3, by rw [e1.out, e2.out, e3.out], by rw [e2.out]; exact (HE.out.own 1 rfl).base (by first | exact hwb | (simp; omega)), HE.out.bl⟩
      · have HZ := hid ((hlA.set 1 rfl 0 (.int .i64 s)).set 1 rfl 1 (.slice A3 J.length c3))
        have hwb := hlB.out.bl.size
        have p0 := HZ.out.cell 6 0 rfl rfl
        have p1 := HZ.out.cell 6 1 rfl rfl
        have p2 := HZ.out.cell 1 0 rfl rfl
        have p3 := HZ.out.cell 1 1 rfl rfl
        clear hlA hlB ho3 hb3 hcl3 HL C0 C1 C2 C3 C4 C5 q4 q5 z4 z5
        go_wp2_with fail
        refine (implIsValidRoute s _ (HN.out.grow HZ.out.bl) (HZ.out.rt 0 rfl (by have := HKl.out; omega))).mono ?_
        rintro e w5 ⟨rfl, hb5⟩
        have HZ5 := hid (HZ.out.step hb5)
        clear hb5 p0 p1 p2 p3
        cases g4 : routeB xs fs s J
        · have e1 : Hid (jnS xs fs s ids t jds = 0) := by unfold Hid; rw [H1.out, g4]; rfl
          have e2 : Hid (jnL xs fs s ids t jds = []) := by unfold Hid; rw [H2.out, g4]; rfl
          have e3 : Hid (jnB xs fs s ids t jds = false) := by unfold Hid; rw [H.out, g4]
          have y0 := HZ5.out.cell 3 0 rfl rfl
          have y1 := HZ5.out.cell 3 1 rfl rfl
          have z0 := HZ5.out.frozen 3 0 rfl
          have z1 := HZ5.out.frozen 3 1 rfl
          have HE := hid ((HZ5.out.set 3 rfl 0 (.int .i64 0)).set 3 rfl 1 (.slice none 0 0))
          clear g4
          go_wp2
          exact bodyPost_ret (v := .tuple #[.agg #[.int .i64 0, .slice none 0 0], .bool false]) (by simp [results, Try.results41, go_sem, y0, y1]) rfl
            ⟨none, 0, by rw [e1.out, e2.out, e3.out]; rfl, by rw [e2.out]; exact World.ownsRow_nil _ _ _ _, HE.out.bl⟩
        · have e1 : Hid (jnS xs fs s ids t jds = s) := by unfold Hid; rw [H1.out, g4]; rfl
          have e2 : Hid (jnL xs fs s ids t jds = J) := by unfold Hid; rw [H2.out, g4]; rfl
          have e3 : Hid (jnB xs fs s ids t jds = true) := by unfold Hid; rw [H.out, g4]
          have p2 := HZ5.out.cell 1 0 rfl rfl
          have p3 := HZ5.out.cell 1 1 rfl rfl
          have y0 := HZ5.out.cell 3 0 rfl rfl
          have y1 := HZ5.out.cell 3 1 rfl rfl
          have z0 := HZ5.out.frozen 3 0 rfl
          have z1 := HZ5.out.frozen 3 1 rfl
          have HE := hid ((HZ5.out.set 3 rfl 0 (.int .i64 s)).set 3 rfl 1 (.slice A3 J.length c3))
          clear g4
          go_wp2
          exact bodyPost_ret (v := .tuple #[.agg #[.int .i64 s, .slice A3 J.length c3], .bool true]) (by simp [results, Try.results41, go_sem, y0, y1]) rfl
            ⟨A3, c3, by rw [e1.out, e2.out, e3.out], by rw [e2.out]; exact (HE.out.own 0 rfl).base (by first | exact hwb | (simp; omega)), HE.out.bl⟩
      · have HZ := hid ((hlA.set 2 rfl 0 (.int .i64 s)).set 2 rfl 1 (.slice A3 J.length c3))
        have hwb := hlB.out.bl.size
        have p0 := HZ.out.cell 6 0 rfl rfl
        have p1 := HZ.out.cell 6 1 rfl rfl
        have p2 := HZ.out.cell 2 0 rfl rfl
        have p3 := HZ.out.cell 2 1 rfl rfl
        clear hlA hlB ho3 hb3 hcl3 HL C0 C1 C2 C3 C4 C5 q4 q5 z4 z5
        go_wp2_with fail
        refine (implIsValidRoute s _ (HN.out.grow HZ.out.bl) (HZ.out.rt 0 rfl (by have := HKl.out; omega))).mono ?_
        rintro e w5 ⟨rfl, hb5⟩
        have HZ5 := hid (HZ.out.step hb5)
        clear hb5 p0 p1 p2 p3
        cases g4 : routeB xs fs s J
        · have e1 : Hid (jnS xs fs s ids t jds = 0) := by unfold Hid; rw [H1.out, g4]; rfl
          have e2 : Hid (jnL xs fs s ids t jds = []) := by unfold Hid; rw [H2.out, g4]; rfl
          have e3 : Hid (jnB xs fs s ids t jds = false) := by unfold Hid; rw [H.out, g4]
          have y0 := HZ5.out.cell 3 0 rfl rfl
          have y1 := HZ5.out.cell 3 1 rfl rfl
          have z0 := HZ5.out.frozen 3 0 rfl
          have z1 := HZ5.out.frozen 3 1 rfl
          have HE := hid ((HZ5.out.set 3 rfl 0 (.int .i64 0)).set 3 rfl 1 (.slice none 0 0))
          clear g4
          go_wp2
          exact bodyPost_ret (v := .tuple #[.agg #[.int .i64 0, .slice none 0 0], .bool false]) (by simp [results, Try.results41, go_sem, y0, y1]) rfl
            ⟨none, 0, by rw [e1.out, e2.out, e3.out]; rfl, by rw [e2.out]; exact World.ownsRow_nil _ _ _ _, HE.out.bl⟩
        · have e1 : Hid (jnS xs fs s ids t jds = s) := by unfold Hid; rw [H1.out, g4]; rfl
          have e2 : Hid (jnL xs fs s ids t jds = J) := by unfold Hid; rw [H2.out, g4]; rfl
          have e3 : Hid (jnB xs fs s ids t jds = true) := by unfold Hid; rw [H.out, g4]
          have p2 := HZ5.out.cell 2 0 rfl rfl
          have p3 := HZ5.out.cell 2 1 rfl rfl
          have y0 := HZ5.out.cell 3 0 rfl rfl
          have y1 := HZ5.out.cell 3 1 rfl rfl
          have z0 := HZ5.out.frozen 3 0 rfl
          have z1 := HZ5.out.frozen 3 1 rfl
          have HE := hid ((HZ5.out.set 3 rfl 0 (.int .i64 s)).set 3 rfl 1 (.slice A3 J.length c3))
          clear g4
          go_wp2
          exact bodyPost_ret (v := .tuple #[.agg #[.int .i64 s, .slice A3 J.length c3], .bool true]) (by simp [results, Try.results41, go_sem, y0, y1]) rfl
            ⟨A3, c3, by rw [e1.out, e2.out, e3.out], by rw [e2.out]; exact (HE.out.own 0 rfl).base (by first | exact hwb | (simp; omega)), HE.out.bl⟩
set_option maxHeartbeats 4000000 in
set_option maxRecDepth 100000 in
theorem specJoin (w : World) (h : NetIs w A n c A' m d xs fs) (hr : RtIs w R ids.length er ids) (hq : RtIs w Q jds.length eq jds) (s t : Int) :
    Calls Try.prog 42 #[.agg #[.slice A n c, .slice A' m d], .agg #[.int .i64 s, .slice R ids.length er], .agg #[.int .i64 t, .slice Q jds.length eq]] w fun e w' => ∃ R' c', e = .returned (.tuple #[.agg #[.int .i64 (jnS xs fs s ids t jds), .slice R' (jnL xs fs s ids t jds).length c'], .bool (jnB xs fs s ids t jds)]) ∧ Owns elInt w' w.heap.size 3 (.slice R' (jnL xs fs s ids t jds).length c') (jnL xs fs s ids t jds) ∧ Below w.heap.size w w' := by
  have hS := ((((Led.nil w).blk_ w.heap.size rfl 27 #[.slice A n c, .slice A' m d]).blk_ (w.heap.size + 1) (by simp) 35 #[.int .i64 s, .slice R ids.length er]).blk_ (w.heap.size + 1 + 1) (by simp) 35 #[.int .i64 t, .slice Q jds.length eq]).blk_ (w.heap.size + 1 + 1 + 1) (by simp) 35 #[.int .i64 0, .slice none 0 0]
  have HN := hid h
  have HR := hid hr
  have HQ := hid hq
  clear h hr hq
  cases ga : routeB xs fs s ids
  · skip
    have H : Hid (jnB xs fs s ids t jds = false) := by unfold Hid jnB; rw [ga]; simp
    have H1 : Hid (jnS xs fs s ids t jds = 0 ∧ jnL xs fs s ids t jds = []) := by unfold Hid jnS jnL; rw [H.out]; exact ⟨rfl, rfl⟩
    rw [H.out, H1.out.1, H1.out.2]
    go_enter Try.func42, Try.ntmps42
    go_wp2_with fail
    generalize (((w.alloc (.cells #[.slice A n c, .slice A' m d] 27)).alloc (.cells #[.int .i64 s, .slice R ids.length er] 35)).alloc (.cells #[.int .i64 t, .slice Q jds.length eq] 35)).alloc (.cells #[.int .i64 0, .slice none 0 0] 35) = W1 at *
    have C0 : ∀ w', Cls W1 w' → w'.cell? ⟨w.heap.size, 0, none⟩ = some (.slice A n c) := fun _ h => h.cell (hS.cell 3 0 rfl rfl)
    have C1 : ∀ w', Cls W1 w' → w'.cell? ⟨w.heap.size, 1, none⟩ = some (.slice A' m d) := fun _ h => h.cell (hS.cell 3 1 rfl rfl)
    have C2 : ∀ w', Cls W1 w' → w'.cell? ⟨w.heap.size + 1, 0, none⟩ = some (.int .i64 s) := fun _ h => h.cell (hS.cell 2 0 rfl rfl)
    have C3 : ∀ w', Cls W1 w' → w'.cell? ⟨w.heap.size + 1, 1, none⟩ = some (.slice R ids.length er) := fun _ h => h.cell (hS.cell 2 1 rfl rfl)
    have C4 : ∀ w', Cls W1 w' → w'.cell? ⟨w.heap.size + 1 + 1, 0, none⟩ = some (.int .i64 t) := fun _ h => h.cell (hS.cell 1 0 rfl rfl)
    have C5 : ∀ w', Cls W1 w' → w'.cell? ⟨w.heap.size + 1 + 1, 1, none⟩ = some (.slice Q jds.length eq) := fun _ h => h.cell (hS.cell 1 1 rfl rfl)
    have HL := hid (fun w' (h : Cls W1 w') => hS.step h)
    clear hS
    try go_wp2_with fail
    refine region_cls (by kernel_rfl) (by kernel_rfl) ?_
    repeat (first
      | ((with_reducible refine quiet_pos ?_ (fun K hK => ?_))
         · rfl
         apply Exists.intro
         refine ⟨fun w' hw' => ?_, ?_⟩
         · go_simp
           first
             | with_reducible rfl
             | (go_at_call_of 95 (Value.agg #[.int .i64 s, .slice R ids.length er]); exact hw'.call (calls_eq (l4Good_any s _ (HN.out.grow (HL.out _ hw').bl) (HR.out.grow (HL.out _ hw').bl)) (by rw [ga])))
         simp only [Act.put, List.setIfInBounds_toArray, List.set_cons_zero, List.set_cons_succ]
         refine hK _ ?_; clear hK K)
      | ((with_reducible refine quiet_neg ?_ (fun K hK => ?_))
         · rfl
         simp only [Act.put, List.setIfInBounds_toArray, List.set_cons_zero, List.set_cons_succ]
         refine hK _ ?_; clear hK K))
    with_reducible refine wpQuiet_nil ?_
    intro wz hwz'
    have HZ := hid (HL.out _ hwz')
    clear hwz'
    have y0 := HZ.out.cell 0 0 rfl rfl
    have y1 := HZ.out.cell 0 1 rfl rfl
    have z0 := HZ.out.frozen 0 0 rfl
    have z1 := HZ.out.frozen 0 1 rfl
    have HE := hid ((HZ.out.set 0 rfl 0 (.int .i64 0)).set 0 rfl 1 (.slice none 0 0))
    clear HL C0 C1 C2 C3 C4 C5
    go_wp2
    exact bodyPost_ret (v := .tuple #[.agg #[.int .i64 0, .slice none 0 0], .bool false]) (by simp [results, Try.results42, go_sem, y0, y1]) rfl
      ⟨none, 0, rfl, World.ownsRow_nil _ _ _ _, HE.out.bl⟩
  · skip
    cases gb : routeB xs fs t jds
    · skip
      have H : Hid (jnB xs fs s ids t jds = false) := by unfold Hid jnB; rw [ga, gb]; simp
      have H1 : Hid (jnS xs fs s ids t jds = 0 ∧ jnL xs fs s ids t jds = []) := by unfold Hid jnS jnL; rw [H.out]; exact ⟨rfl, rfl⟩
      rw [H.out, H1.out.1, H1.out.2]
      go_enter Try.func42, Try.ntmps42
      go_wp2_with fail
      generalize (((w.alloc (.cells #[.slice A n c, .slice A' m d] 27)).alloc (.cells #[.int .i64 s, .slice R ids.length er] 35)).alloc (.cells #[.int .i64 t, .slice Q jds.length eq] 35)).alloc (.cells #[.int .i64 0, .slice none 0 0] 35) = W1 at *
      have C0 : ∀ w', Cls W1 w' → w'.cell? ⟨w.heap.size, 0, none⟩ = some (.slice A n c) := fun _ h => h.cell (hS.cell 3 0 rfl rfl)
      have C1 : ∀ w', Cls W1 w' → w'.cell? ⟨w.heap.size, 1, none⟩ = some (.slice A' m d) := fun _ h => h.cell (hS.cell 3 1 rfl rfl)
      have C2 : ∀ w', Cls W1 w' → w'.cell? ⟨w.heap.size + 1, 0, none⟩ = some (.int .i64 s) := fun _ h => h.cell (hS.cell 2 0 rfl rfl)
      have C3 : ∀ w', Cls W1 w' → w'.cell? ⟨w.heap.size + 1, 1, none⟩ = some (.slice R ids.length er) := fun _ h => h.cell (hS.cell 2 1 rfl rfl)
      have C4 : ∀ w', Cls W1 w' → w'.cell? ⟨w.heap.size + 1 + 1, 0, none⟩ = some (.int .i64 t) := fun _ h => h.cell (hS.cell 1 0 rfl rfl)
      have C5 : ∀ w', Cls W1 w' → w'.cell? ⟨w.heap.size + 1 + 1, 1, none⟩ = some (.slice Q jds.length eq) := fun _ h => h.cell (hS.cell 1 1 rfl rfl)
      have HL := hid (fun w' (h : Cls W1 w') => hS.step h)
      clear hS
      try go_wp2_with fail
      refine region_cls (by kernel_rfl) (by kernel_rfl) ?_
      repeat (first
        | ((with_reducible refine quiet_pos ?_ (fun K hK => ?_))
           · rfl
           apply Exists.intro
           refine ⟨fun w' hw' => ?_, ?_⟩
           · go_simp
             first
               | with_reducible rfl
               | (go_at_call_of 95 (Value.agg #[.int .i64 s, .slice R ids.length er]); exact hw'.call (calls_eq (l4Good_any s _ (HN.out.grow (HL.out _ hw').bl) (HR.out.grow (HL.out _ hw').bl)) (by rw [ga])))
               | (go_at_call_of 95 (Value.agg #[.int .i64 t, .slice Q jds.length eq]); exact hw'.call (calls_eq (l4Good_any t _ (HN.out.grow (HL.out _ hw').bl) (HQ.out.grow (HL.out _ hw').bl)) (by rw [gb])))
           simp only [Act.put, List.setIfInBounds_toArray, List.set_cons_zero, List.set_cons_succ]
           refine hK _ ?_; clear hK K)
        | ((with_reducible refine quiet_neg ?_ (fun K hK => ?_))
           · rfl
           simp only [Act.put, List.setIfInBounds_toArray, List.set_cons_zero, List.set_cons_succ]
           refine hK _ ?_; clear hK K))
      with_reducible refine wpQuiet_nil ?_
      intro wz hwz'
      have HZ := hid (HL.out _ hwz')
      clear hwz'
      have y0 := HZ.out.cell 0 0 rfl rfl
      have y1 := HZ.out.cell 0 1 rfl rfl
      have z0 := HZ.out.frozen 0 0 rfl
      have z1 := HZ.out.frozen 0 1 rfl
      have HE := hid ((HZ.out.set 0 rfl 0 (.int .i64 0)).set 0 rfl 1 (.slice none 0 0))
      clear HL C0 C1 C2 C3 C4 C5
      go_wp2
      exact bodyPost_ret (v := .tuple #[.agg #[.int .i64 0, .slice none 0 0], .bool false]) (by simp [results, Try.results42, go_sem, y0, y1]) rfl
        ⟨none, 0, rfl, World.ownsRow_nil _ _ _ _, HE.out.bl⟩
    · skip
      have g : (routeB xs fs s ids && routeB xs fs t jds) = true := by rw [ga, gb]; rfl
      obtain ⟨hg, hrt⟩ := routeB_good ga
      rw [HN.out.xlen] at hrt
      have HRT := hid hrt
      have h7 := (routeB_short ga).1
      have h8 := (routeB_short gb).1
      obtain ⟨z, hz⟩ : ∃ z, z = atW fs s ids ids.length := ⟨_, rfl⟩
      have HAT : Hid (atW fs s ids ids.length = z) := hz.symm
      clear hz hrt hg
      cases g2 : (z == t)
      · skip
        have g3 : (z != t) = true := by simpa using g2
        have H : Hid (jnB xs fs s ids t jds = false) := by unfold Hid jnB; rw [g, HAT.out, g2]; simp
        have H1 : Hid (jnS xs fs s ids t jds = 0 ∧ jnL xs fs s ids t jds = []) := by unfold Hid jnS jnL; rw [H.out]; exact ⟨rfl, rfl⟩
        rw [H.out, H1.out.1, H1.out.2]
        go_enter Try.func42, Try.ntmps42
        go_wp2_with fail
        generalize (((w.alloc (.cells #[.slice A n c, .slice A' m d] 27)).alloc (.cells #[.int .i64 s, .slice R ids.length er] 35)).alloc (.cells #[.int .i64 t, .slice Q jds.length eq] 35)).alloc (.cells #[.int .i64 0, .slice none 0 0] 35) = W1 at *
        have C0 : ∀ w', Cls W1 w' → w'.cell? ⟨w.heap.size, 0, none⟩ = some (.slice A n c) := fun _ h => h.cell (hS.cell 3 0 rfl rfl)
        have C1 : ∀ w', Cls W1 w' → w'.cell? ⟨w.heap.size, 1, none⟩ = some (.slice A' m d) := fun _ h => h.cell (hS.cell 3 1 rfl rfl)
        have C2 : ∀ w', Cls W1 w' → w'.cell? ⟨w.heap.size + 1, 0, none⟩ = some (.int .i64 s) := fun _ h => h.cell (hS.cell 2 0 rfl rfl)
        have C3 : ∀ w', Cls W1 w' → w'.cell? ⟨w.heap.size + 1, 1, none⟩ = some (.slice R ids.length er) := fun _ h => h.cell (hS.cell 2 1 rfl rfl)
        have C4 : ∀ w', Cls W1 w' → w'.cell? ⟨w.heap.size + 1 + 1, 0, none⟩ = some (.int .i64 t) := fun _ h => h.cell (hS.cell 1 0 rfl rfl)
        have C5 : ∀ w', Cls W1 w' → w'.cell? ⟨w.heap.size + 1 + 1, 1, none⟩ = some (.slice Q jds.length eq) := fun _ h => h.cell (hS.cell 1 1 rfl rfl)
        have HL := hid (fun w' (h : Cls W1 w') => hS.step h)
        clear hS
        try go_wp2_with fail
        refine region_cls (by kernel_rfl) (by kernel_rfl) ?_
        repeat (first
          | ((with_reducible refine quiet_pos ?_ (fun K hK => ?_))
             · rfl
             apply Exists.intro
             refine ⟨fun w' hw' => ?_, ?_⟩
             · go_simp
               first
                 | with_reducible rfl
                 | (go_at_call_of 95 (Value.agg #[.int .i64 s, .slice R ids.length er]); exact hw'.call (calls_eq (l4Good_any s _ (HN.out.grow (HL.out _ hw').bl) (HR.out.grow (HL.out _ hw').bl)) (by rw [ga])))
                 | (go_at_call_of 95 (Value.agg #[.int .i64 t, .slice Q jds.length eq]); exact hw'.call (calls_eq (l4Good_any t _ (HN.out.grow (HL.out _ hw').bl) (HQ.out.grow (HL.out _ hw').bl)) (by rw [gb])))
                 | (go_at_call 102; exact hw'.call (calls_eq (l4End_any (s := s) _ (HN.out.grow (HL.out _ hw').bl) (HR.out.grow (HL.out _ hw').bl) HRT.out) (by rw [HAT.out])))
             simp only [Act.put, List.setIfInBounds_toArray, List.set_cons_zero, List.set_cons_succ]
             refine hK _ ?_; clear hK K)
          | ((with_reducible refine quiet_neg ?_ (fun K hK => ?_))
             · rfl
             simp only [Act.put, List.setIfInBounds_toArray, List.set_cons_zero, List.set_cons_succ]
             refine hK _ ?_; clear hK K))
        with_reducible refine wpQuiet_nil ?_
        intro wz hwz'
        have HZ := hid (HL.out _ hwz')
        clear hwz'
        have y0 := HZ.out.cell 0 0 rfl rfl
        have y1 := HZ.out.cell 0 1 rfl rfl
        have z0 := HZ.out.frozen 0 0 rfl
        have z1 := HZ.out.frozen 0 1 rfl
        have HE := hid ((HZ.out.set 0 rfl 0 (.int .i64 0)).set 0 rfl 1 (.slice none 0 0))
        clear HL C0 C1 C2 C3 C4 C5
        go_wp2
        exact bodyPost_ret (v := .tuple #[.agg #[.int .i64 0, .slice none 0 0], .bool false]) (by simp [results, Try.results42, go_sem, y0, y1]) rfl
          ⟨none, 0, rfl, World.ownsRow_nil _ _ _ _, HE.out.bl⟩
      · skip
        have g3 : (z != t) = false := by simpa using g2
        have hzt : z = t := by simpa using g2
        obtain ⟨J, hK⟩ : ∃ J, J = ids ++ jds := ⟨_, rfl⟩
        have HK : Hid (ids ++ jds = J) := hK.symm
        have HKl : Hid (J.length = ids.length + jds.length) := by unfold Hid; rw [hK, List.length_append]
        clear hK
        have H : Hid (jnB xs fs s ids t jds = routeB xs fs s J) := by unfold Hid jnB; rw [g, HAT.out, g2, HK.out]; rfl
        have H1 : Hid (jnS xs fs s ids t jds = if routeB xs fs s J then s else 0) := by unfold Hid jnS; rw [H.out]
        have H2 : Hid (jnL xs fs s ids t jds = if routeB xs fs s J then J else []) := by unfold Hid jnL; rw [H.out, HK.out]
        go_enter Try.func42, Try.ntmps42
        go_wp2_with fail
        generalize (((w.alloc (.cells #[.slice A n c, .slice A' m d] 27)).alloc (.cells #[.int .i64 s, .slice R ids.length er] 35)).alloc (.cells #[.int .i64 t, .slice Q jds.length eq] 35)).alloc (.cells #[.int .i64 0, .slice none 0 0] 35) = W1 at *
        have C0 : ∀ w', Cls W1 w' → w'.cell? ⟨w.heap.size, 0, none⟩ = some (.slice A n c) := fun _ h => h.cell (hS.cell 3 0 rfl rfl)
        have C1 : ∀ w', Cls W1 w' → w'.cell? ⟨w.heap.size, 1, none⟩ = some (.slice A' m d) := fun _ h => h.cell (hS.cell 3 1 rfl rfl)
        have C2 : ∀ w', Cls W1 w' → w'.cell? ⟨w.heap.size + 1, 0, none⟩ = some (.int .i64 s) := fun _ h => h.cell (hS.cell 2 0 rfl rfl)
        have C3 : ∀ w', Cls W1 w' → w'.cell? ⟨w.heap.size + 1, 1, none⟩ = some (.slice R ids.length er) := fun _ h => h.cell (hS.cell 2 1 rfl rfl)
        have C4 : ∀ w', Cls W1 w' → w'.cell? ⟨w.heap.size + 1 + 1, 0, none⟩ = some (.int .i64 t) := fun _ h => h.cell (hS.cell 1 0 rfl rfl)
        have C5 : ∀ w', Cls W1 w' → w'.cell? ⟨w.heap.size + 1 + 1, 1, none⟩ = some (.slice Q jds.length eq) := fun _ h => h.cell (hS.cell 1 1 rfl rfl)
        have HL := hid (fun w' (h : Cls W1 w') => hS.step h)
        clear hS
        try go_wp2_with fail
        refine region_cls (by kernel_rfl) (by kernel_rfl) ?_
        repeat (first
          | ((with_reducible refine quiet_pos ?_ (fun K hK => ?_))
             · rfl
             apply Exists.intro
             refine ⟨fun w' hw' => ?_, ?_⟩
             · go_simp
               first
                 | with_reducible rfl
                 | (go_at_call_of 95 (Value.agg #[.int .i64 s, .slice R ids.length er]); exact hw'.call (calls_eq (l4Good_any s _ (HN.out.grow (HL.out _ hw').bl) (HR.out.grow (HL.out _ hw').bl)) (by rw [ga])))
                 | (go_at_call_of 95 (Value.agg #[.int .i64 t, .slice Q jds.length eq]); exact hw'.call (calls_eq (l4Good_any t _ (HN.out.grow (HL.out _ hw').bl) (HQ.out.grow (HL.out _ hw').bl)) (by rw [gb])))
                 | (go_at_call 102; exact hw'.call (calls_eq (l4End_any (s := s) _ (HN.out.grow (HL.out _ hw').bl) (HR.out.grow (HL.out _ hw').bl) HRT.out) (by rw [HAT.out])))
             simp only [Act.put, List.setIfInBounds_toArray, List.set_cons_zero, List.set_cons_succ]
             refine hK _ ?_; clear hK K)
          | ((with_reducible refine quiet_neg ?_ (fun K hK => ?_))
             · rfl
             simp only [Act.put, List.setIfInBounds_toArray, List.set_cons_zero, List.set_cons_succ]
             refine hK _ ?_; clear hK K))
        with_reducible refine wpQuiet_nil ?_
        intro wz hwz'
        have hS := HL.out _ hwz'
        clear hwz' HL C0 C1 C2 C3 C4 C5
        obtain ⟨i0, hi, hx0, hx1, hx2⟩ := info_parts int_info
        have C0 : ∀ w', Led w w' [tBlk (w.heap.size + 1 + 1 + 1) 35 #[.int .i64 0, .slice none 0 0], tBlk (w.heap.size + 1 + 1) 35 #[.int .i64 t, .slice Q jds.length eq], tBlk (w.heap.size + 1) 35 #[.int .i64 s, .slice R ids.length er], tBlk w.heap.size 27 #[.slice A n c, .slice A' m d]] → w'.cell? ⟨w.heap.size, 0, none⟩ = some (.slice A n c) := fun _ h => h.cell 3 0 rfl rfl
        have C1 : ∀ w', Led w w' [tBlk (w.heap.size + 1 + 1 + 1) 35 #[.int .i64 0, .slice none 0 0], tBlk (w.heap.size + 1 + 1) 35 #[.int .i64 t, .slice Q jds.length eq], tBlk (w.heap.size + 1) 35 #[.int .i64 s, .slice R ids.length er], tBlk w.heap.size 27 #[.slice A n c, .slice A' m d]] → w'.cell? ⟨w.heap.size, 1, none⟩ = some (.slice A' m d) := fun _ h => h.cell 3 1 rfl rfl
        have C2 : ∀ w', Led w w' [tBlk (w.heap.size + 1 + 1 + 1) 35 #[.int .i64 0, .slice none 0 0], tBlk (w.heap.size + 1 + 1) 35 #[.int .i64 t, .slice Q jds.length eq], tBlk (w.heap.size + 1) 35 #[.int .i64 s, .slice R ids.length er], tBlk w.heap.size 27 #[.slice A n c, .slice A' m d]] → w'.cell? ⟨w.heap.size + 1, 0, none⟩ = some (.int .i64 s) := fun _ h => h.cell 2 0 rfl rfl
        have C3 : ∀ w', Led w w' [tBlk (w.heap.size + 1 + 1 + 1) 35 #[.int .i64 0, .slice none 0 0], tBlk (w.heap.size + 1 + 1) 35 #[.int .i64 t, .slice Q jds.length eq], tBlk (w.heap.size + 1) 35 #[.int .i64 s, .slice R ids.length er], tBlk w.heap.size 27 #[.slice A n c, .slice A' m d]] → w'.cell? ⟨w.heap.size + 1, 1, none⟩ = some (.slice R ids.length er) := fun _ h => h.cell 2 1 rfl rfl
        have C4 : ∀ w', Led w w' [tBlk (w.heap.size + 1 + 1 + 1) 35 #[.int .i64 0, .slice none 0 0], tBlk (w.heap.size + 1 + 1) 35 #[.int .i64 t, .slice Q jds.length eq], tBlk (w.heap.size + 1) 35 #[.int .i64 s, .slice R ids.length er], tBlk w.heap.size 27 #[.slice A n c, .slice A' m d]] → w'.cell? ⟨w.heap.size + 1 + 1, 0, none⟩ = some (.int .i64 t) := fun _ h => h.cell 1 0 rfl rfl
        have C5 : ∀ w', Led w w' [tBlk (w.heap.size + 1 + 1 + 1) 35 #[.int .i64 0, .slice none 0 0], tBlk (w.heap.size + 1 + 1) 35 #[.int .i64 t, .slice Q jds.length eq], tBlk (w.heap.size + 1) 35 #[.int .i64 s, .slice R ids.length er], tBlk w.heap.size 27 #[.slice A n c, .slice A' m d]] → w'.cell? ⟨w.heap.size + 1 + 1, 1, none⟩ = some (.slice Q jds.length eq) := fun _ h => h.cell 1 1 rfl rfl
        go_wp2_with fail
        refine wp_region_held_drew (S := fun w' => Led w w' [tBlk (w.heap.size + 1 + 1 + 1) 35 #[.int .i64 0, .slice none 0 0], tBlk (w.heap.size + 1 + 1) 35 #[.int .i64 t, .slice Q jds.length eq], tBlk (w.heap.size + 1) 35 #[.int .i64 s, .slice R ids.length er], tBlk w.heap.size 27 #[.slice A n c, .slice A' m d]]) (by kernel_rfl) (hS.step (Cls.drew _)) (fun hHeld => ?_)
        refine wpAnyH_take (i := 0) (oi := _) (v := ?_) rfl (by kernel_rfl) (by kernel_rfl) (by kernel_rfl) (fun _ _ _ h => h) (Or.inl ⟨by rfl, ?_⟩) (by assumption) ?_
        rotate_left
        · intro w hSw; go_simp; with_reducible rfl
        simp only [Act.put, List.getElem_toArray, List.getElem_cons_zero, List.setIfInBounds_toArray, List.set_cons_zero, List.set_cons_succ]
        refine wpAnyH_take (i := 1) (oi := _) (v := ?_) rfl (by kernel_rfl) (by kernel_rfl) (by kernel_rfl) (fun _ _ _ h => h) (Or.inl ⟨by rfl, ?_⟩) (by assumption) ?_
        rotate_left
        · intro w hSw; go_simp; with_reducible rfl
        simp only [Act.put, List.getElem_toArray, List.getElem_cons_zero, List.getElem_cons_succ, List.setIfInBounds_toArray, List.set_cons_zero, List.set_cons_succ]
        refine wpAnyH_take (i := 2) (oi := _) (v := ?_) rfl (by kernel_rfl) (by kernel_rfl) (by kernel_rfl) (fun _ _ _ h => h) (Or.inl ⟨by rfl, ?_⟩) (by assumption) ?_
        rotate_left
        · intro w hSw; go_simp; with_reducible rfl
        simp only [Act.put, List.getElem_toArray, List.getElem_cons_zero, List.getElem_cons_succ, List.setIfInBounds_toArray, List.set_cons_zero, List.set_cons_succ]
        refine wpAnyH_take (i := 3) (oi := _) (v := ?_) rfl (by kernel_rfl) (by kernel_rfl) (by kernel_rfl) (fun _ _ _ h => h) (Or.inl ⟨by rfl, ?_⟩) (by assumption) ?_
        rotate_left
        · intro w hSw; go_simp; with_reducible rfl
        simp only [Act.put, List.getElem_toArray, List.getElem_cons_zero, List.getElem_cons_succ, List.setIfInBounds_toArray, List.set_cons_zero, List.set_cons_succ]
        refine wpAnyH_take (i := 5) (oi := _) (v := ?_) rfl (by kernel_rfl) (by kernel_rfl) (by kernel_rfl) (fun _ _ _ h => h) (Or.inl ⟨by rfl, ?_⟩) (by assumption) ?_
        rotate_left
        · intro w hSw; go_simp; with_reducible rfl
        simp only [Act.put, List.getElem_toArray, List.getElem_cons_zero, List.getElem_cons_succ, List.setIfInBounds_toArray, List.set_cons_zero, List.set_cons_succ]
        refine wpAnyH_take (i := 6) (oi := _) (v := ?_) rfl (by kernel_rfl) (by kernel_rfl) (by kernel_rfl) (fun _ _ _ h => h) (Or.inl ⟨by rfl, ?_⟩) (by assumption) ?_
        rotate_left
        · intro w hSw; go_simp; with_reducible rfl
        simp only [Act.put, List.getElem_toArray, List.getElem_cons_zero, List.getElem_cons_succ, List.setIfInBounds_toArray, List.set_cons_zero, List.set_cons_succ]
        refine wpAnyH_ready (rs := [4, 9]) (by kernel_rfl) (by simp) ?_
        refine AllReadyH.cons rfl (fun K hK => ?_) ?_
        · skip
          go_simp
          have hlB := hid (hS.step (Cls.drew _))
          refine (l1Own_any _ ((HR.out.grow hlB.out.bl).2) (by omega)).mono ?_
          rintro e w2 ⟨v3, rfl, ho3, hb3⟩
          obtain ⟨A2, c2, rfl, _⟩ := ho3.form
          have hl2 := hlB.out.owns hb3 ho3
          go_wp2_with fail
          refine hK.out _ _ (hl2.drop 1) (fun hHeld => ?_)
          clear hK K
          try simp only [Act.put, List.getElem_toArray, List.getElem_cons_zero, List.getElem_cons_succ, List.setIfInBounds_toArray, List.set_cons_zero, List.set_cons_succ]
          refine wpAnyH_ready (rs := [7, 9]) (by kernel_rfl) (by simp) ?_
          refine AllReadyH.cons rfl (fun K hK => ?_) ?_
          · skip
            have hlC := hl2
            refine step_append_led rfl _ _ 33 rfl hlC 0 rfl Try.underlying33 hi hx0 hx1 (by rw [hx2]; decide) rfl rfl rfl ((HQ.out.grow hlC.bl).2) (by omega) (by first | exact hb3.size | exact Nat.le_trans hb3.size (by simp)) ?_
            intro A3 c3 w4 hS4
            rw [HK.out, ← HKl.out] at hS4
            rw [← HKl.out]
            refine hK.out _ _ (hS4.drop 1) (fun hHeld => ?_)
            clear hK K
            try simp only [Act.put, List.getElem_toArray, List.getElem_cons_zero, List.getElem_cons_succ, List.setIfInBounds_toArray, List.set_cons_zero, List.set_cons_succ]
            refine wpAnyH_take (i := 8) (oi := _) (v := ?_) rfl (by kernel_rfl) (by kernel_rfl) (by kernel_rfl) (fun _ _ _ h => h) (Or.inl ⟨by rfl, ?_⟩) (by assumption) ?_
            rotate_left
            · intro w hSw; go_simp; with_reducible rfl
            simp only [Act.put, List.getElem_toArray, List.getElem_cons_zero, List.getElem_cons_succ, List.setIfInBounds_toArray, List.set_cons_zero, List.set_cons_succ]
            refine wpAnyH_ready (rs := [9]) (by kernel_rfl) (by simp) ?_
            refine AllReadyH.cons rfl (fun K hK => ?_) AllReadyH.nil
            go_simp
            go_wp2_with fail
            refine hK.out _ _ ((hS4.blk_ w4.heap.size rfl 35 #[.int .i64 0, .slice none 0 0]).drop 2) (fun hHeld => ?_)
            clear hK K
            try simp only [Act.put, List.getElem_toArray, List.getElem_cons_zero, List.getElem_cons_succ, List.setIfInBounds_toArray, List.set_cons_zero, List.set_cons_succ]
            refine wpAnyH_ready (rs := [10]) (by kernel_rfl) (by simp) ?_
            refine AllReadyH.cons rfl (fun K hK => ?_) AllReadyH.nil
            go_simp
            go_wp2_with fail
            refine hK.out _ _ ((hS4.blk_ w4.heap.size rfl 35 #[.int .i64 s, .slice A3 J.length c3]).drop 2) (fun hHeld => ?_)
            clear hK K
            try simp only [Act.put, List.getElem_toArray, List.getElem_cons_zero, List.getElem_cons_succ, List.setIfInBounds_toArray, List.set_cons_zero, List.set_cons_succ]
            refine wpAnyH_done (by kernel_rfl) ?_ _
            have HZ := hid (hS4.blk_ w4.heap.size rfl 35 #[.int .i64 s, .slice A3 J.length c3])
            have hwb := hS.bl.size
            have p0 := HZ.out.cell 5 0 rfl rfl
            have p1 := HZ.out.cell 5 1 rfl rfl
            have p2 := HZ.out.cell 0 0 rfl rfl
            have p3 := HZ.out.cell 0 1 rfl rfl
            try clear hHeld
            try clear hS4
            try clear hl2
            try clear hlB
            try clear ho3
            try clear hb3
            try clear C0
            try clear C1
            try clear C2
            try clear C3
            try clear C4
            try clear C5
            try clear q4
            try clear q5
            try clear z4
            try clear z5
            try clear hS
            go_wp2_with fail
            refine (l4Good_any s _ (HN.out.grow HZ.out.bl) (HZ.out.rt 1 rfl (by have := HKl.out; omega))).mono ?_
            rintro e w5 ⟨rfl, hb5⟩
            have HZ5 := hid (HZ.out.step hb5)
            clear hb5 p0 p1 p2 p3
            cases g4 : routeB xs fs s J
            · have e1 : Hid (jnS xs fs s ids t jds = 0) := by unfold Hid; rw [H1.out, g4]; rfl
              have e2 : Hid (jnL xs fs s ids t jds = []) := by unfold Hid; rw [H2.out, g4]; rfl
              have e3 : Hid (jnB xs fs s ids t jds = false) := by unfold Hid; rw [H.out, g4]
              have y0 := HZ5.out.cell 2 0 rfl rfl
              have y1 := HZ5.out.cell 2 1 rfl rfl
              have z0 := HZ5.out.frozen 2 0 rfl
              have z1 := HZ5.out.frozen 2 1 rfl
              have HE := hid ((HZ5.out.set 2 rfl 0 (.int .i64 0)).set 2 rfl 1 (.slice none 0 0))
              clear g4
              go_wp2
              exact bodyPost_ret (v := .tuple #[.agg #[.int .i64 0, .slice none 0 0], .bool false]) (by simp [results, Try.results42, go_sem, y0, y1]) rfl
                ⟨none, 0, by rw [e1.out, e2.out, e3.out]; rfl, by rw [e2.out]; exact World.ownsRow_nil _ _ _ _, HE.out.bl⟩
            · have e1 : Hid (jnS xs fs s ids t jds = s) := by unfold Hid; rw [H1.out, g4]; rfl
              have e2 : Hid (jnL xs fs s ids t jds = J) := by unfold Hid; rw [H2.out, g4]; rfl
              have e3 : Hid (jnB xs fs s ids t jds = true) := by unfold Hid; rw [H.out, g4]
              have p2 := HZ5.out.cell 0 0 rfl rfl
              have p3 := HZ5.out.cell 0 1 rfl rfl
              have y0 := HZ5.out.cell 2 0 rfl rfl
              have y1 := HZ5.out.cell 2 1 rfl rfl
              have z0 := HZ5.out.frozen 2 0 rfl
              have z1 := HZ5.out.frozen 2 1 rfl
              have HE := hid ((HZ5.out.set 2 rfl 0 (.int .i64 s)).set 2 rfl 1 (.slice A3 J.length c3))
              clear g4
              go_wp2
              exact bodyPost_ret (v := .tuple #[.agg #[.int .i64 s, .slice A3 J.length c3], .bool true]) (by simp [results, Try.results42, go_sem, y0, y1]) rfl
                ⟨A3, c3, by rw [e1.out, e2.out, e3.out], by rw [e2.out]; exact (HE.out.own 1 rfl).base (by first | exact hwb | (simp; omega)), HE.out.bl⟩
          · skip
            refine AllReadyH.cons rfl (fun K hK => ?_) AllReadyH.nil
            go_simp
            go_wp2_with fail
            refine hK.out _ _ ((hl2.blk_ w2.heap.size rfl 35 #[.int .i64 0, .slice none 0 0]).drop 2) (fun hHeld => ?_)
            clear hK K
            try simp only [Act.put, List.getElem_toArray, List.getElem_cons_zero, List.getElem_cons_succ, List.setIfInBounds_toArray, List.set_cons_zero, List.set_cons_succ]
            refine wpAnyH_ready (rs := [7]) (by kernel_rfl) (by simp) ?_
            refine AllReadyH.cons rfl (fun K hK => ?_) AllReadyH.nil
            have hlC := hl2.blk_ w2.heap.size rfl 35 #[.int .i64 0, .slice none 0 0]
            refine step_append_led rfl _ _ 33 rfl hlC 1 rfl Try.underlying33 hi hx0 hx1 (by rw [hx2]; decide) rfl rfl rfl ((HQ.out.grow hlC.bl).2) (by omega) (by first | exact hb3.size | exact Nat.le_trans hb3.size (by simp)) ?_
            intro A3 c3 w4 hS4
            rw [HK.out, ← HKl.out] at hS4
            rw [← HKl.out]
            refine hK.out _ _ (hS4.drop 2) (fun hHeld => ?_)
            clear hK K
            try simp only [Act.put, List.getElem_toArray, List.getElem_cons_zero, List.getElem_cons_succ, List.setIfInBounds_toArray, List.set_cons_zero, List.set_cons_succ]
            refine wpAnyH_take (i := 8) (oi := _) (v := ?_) rfl (by kernel_rfl) (by kernel_rfl) (by kernel_rfl) (fun _ _ _ h => h) (Or.inl ⟨by rfl, ?_⟩) (by assumption) ?_
            rotate_left
            · intro w hSw; go_simp; with_reducible rfl
            simp only [Act.put, List.getElem_toArray, List.getElem_cons_zero, List.getElem_cons_succ, List.setIfInBounds_toArray, List.set_cons_zero, List.set_cons_succ]
            have q4 := hS4.cell 0 0 rfl rfl
            have q5 := hS4.cell 0 1 rfl rfl
            have z4 := hS4.frozen 0 0 rfl
            have z5 := hS4.frozen 0 1 rfl
            refine wpAnyH_ready (rs := [10]) (by kernel_rfl) (by simp) ?_
            refine AllReadyH.cons rfl (fun K hK => ?_) AllReadyH.nil
            go_simp
            go_wp2_with fail
            refine hK.out _ _ (((hS4.set 0 rfl 0 (.int .i64 s)).set 0 rfl 1 (.slice A3 J.length c3)).drop 2) (fun hHeld => ?_)
            clear hK K
            try simp only [Act.put, List.getElem_toArray, List.getElem_cons_zero, List.getElem_cons_succ, List.setIfInBounds_toArray, List.set_cons_zero, List.set_cons_succ]
            refine wpAnyH_done (by kernel_rfl) ?_ _
            have HZ := hid ((hS4.set 0 rfl 0 (.int .i64 s)).set 0 rfl 1 (.slice A3 J.length c3))
            have hwb := hS.bl.size
            have p0 := HZ.out.cell 5 0 rfl rfl
            have p1 := HZ.out.cell 5 1 rfl rfl
            have p2 := HZ.out.cell 0 0 rfl rfl
            have p3 := HZ.out.cell 0 1 rfl rfl
            try clear hHeld
            try clear hS4
            try clear hl2
            try clear hlB
            try clear ho3
            try clear hb3
            try clear C0
            try clear C1
            try clear C2
            try clear C3
            try clear C4
            try clear C5
            try clear q4
            try clear q5
            try clear z4
            try clear z5
            try clear hS
            go_wp2_with fail
            refine (l4Good_any s _ (HN.out.grow HZ.out.bl) (HZ.out.rt 1 rfl (by have := HKl.out; omega))).mono ?_
            rintro e w5 ⟨rfl, hb5⟩
            have HZ5 := hid (HZ.out.step hb5)
            clear hb5 p0 p1 p2 p3
            cases g4 : routeB xs fs s J
            · have e1 : Hid (jnS xs fs s ids t jds = 0) := by unfold Hid; rw [H1.out, g4]; rfl
              have e2 : Hid (jnL xs fs s ids t jds = []) := by unfold Hid; rw [H2.out, g4]; rfl
              have e3 : Hid (jnB xs fs s ids t jds = false) := by unfold Hid; rw [H.out, g4]
              have y0 := HZ5.out.cell 2 0 rfl rfl
              have y1 := HZ5.out.cell 2 1 rfl rfl
              have z0 := HZ5.out.frozen 2 0 rfl
              have z1 := HZ5.out.frozen 2 1 rfl
              have HE := hid ((HZ5.out.set 2 rfl 0 (.int .i64 0)).set 2 rfl 1 (.slice none 0 0))
              clear g4
              go_wp2
              exact bodyPost_ret (v := .tuple #[.agg #[.int .i64 0, .slice none 0 0], .bool false]) (by simp [results, Try.results42, go_sem, y0, y1]) rfl
                ⟨none, 0, by rw [e1.out, e2.out, e3.out]; rfl, by rw [e2.out]; exact World.ownsRow_nil _ _ _ _, HE.out.bl⟩
            · have e1 : Hid (jnS xs fs s ids t jds = s) := by unfold Hid; rw [H1.out, g4]; rfl
              have e2 : Hid (jnL xs fs s ids t jds = J) := by unfold Hid; rw [H2.out, g4]; rfl
              have e3 : Hid (jnB xs fs s ids t jds = true) := by unfold Hid; rw [H.out, g4]
              have p2 := HZ5.out.cell 0 0 rfl rfl
              have p3 := HZ5.out.cell 0 1 rfl rfl
              have y0 := HZ5.out.cell 2 0 rfl rfl
              have y1 := HZ5.out.cell 2 1 rfl rfl
              have z0 := HZ5.out.frozen 2 0 rfl
              have z1 := HZ5.out.frozen 2 1 rfl
              have HE := hid ((HZ5.out.set 2 rfl 0 (.int .i64 s)).set 2 rfl 1 (.slice A3 J.length c3))
              clear g4
              go_wp2
              exact bodyPost_ret (v := .tuple #[.agg #[.int .i64 s, .slice A3 J.length c3], .bool true]) (by simp [results, Try.results42, go_sem, y0, y1]) rfl
                ⟨A3, c3, by rw [e1.out, e2.out, e3.out], by rw [e2.out]; exact (HE.out.own 1 rfl).base (by first | exact hwb | (simp; omega)), HE.out.bl⟩
        · skip
          refine AllReadyH.cons rfl (fun K hK => ?_) AllReadyH.nil
          go_simp
          go_wp2_with fail
          refine hK.out _ _ (((hS.blk_ wz.heap.size rfl 35 #[.int .i64 0, .slice none 0 0]).step (Cls.drew _)).drop 1) (fun hHeld => ?_)
          clear hK K
          try simp only [Act.put, List.getElem_toArray, List.getElem_cons_zero, List.getElem_cons_succ, List.setIfInBounds_toArray, List.set_cons_zero, List.set_cons_succ]
          refine wpAnyH_ready (rs := [4]) (by kernel_rfl) (by simp) ?_
          refine AllReadyH.cons rfl (fun K hK => ?_) AllReadyH.nil
          go_simp
          have hlB := hid ((hS.blk_ wz.heap.size rfl 35 #[.int .i64 0, .slice none 0 0]).step (Cls.drew _))
          refine (l1Own_any _ ((HR.out.grow hlB.out.bl).2) (by omega)).mono ?_
          rintro e w2 ⟨v3, rfl, ho3, hb3⟩
          obtain ⟨A2, c2, rfl, _⟩ := ho3.form
          have hl2 := hlB.out.owns hb3 ho3
          go_wp2_with fail
          refine hK.out _ _ (hl2.drop 2) (fun hHeld => ?_)
          clear hK K
          try simp only [Act.put, List.getElem_toArray, List.getElem_cons_zero, List.getElem_cons_succ, List.setIfInBounds_toArray, List.set_cons_zero, List.set_cons_succ]
          refine wpAnyH_ready (rs := [7]) (by kernel_rfl) (by simp) ?_
          refine AllReadyH.cons rfl (fun K hK => ?_) AllReadyH.nil
          have hlC := hl2
          refine step_append_led rfl _ _ 33 rfl hlC 0 rfl Try.underlying33 hi hx0 hx1 (by rw [hx2]; decide) rfl rfl rfl ((HQ.out.grow hlC.bl).2) (by omega) (by first | exact hb3.size | exact Nat.le_trans hb3.size (by simp)) ?_
          intro A3 c3 w4 hS4
          rw [HK.out, ← HKl.out] at hS4
          rw [← HKl.out]
          refine hK.out _ _ (hS4.drop 2) (fun hHeld => ?_)
          clear hK K
          try simp only [Act.put, List.getElem_toArray, List.getElem_cons_zero, List.getElem_cons_succ, List.setIfInBounds_toArray, List.set_cons_zero, List.set_cons_succ]
          refine wpAnyH_take (i := 8) (oi := _) (v := ?_) rfl (by kernel_rfl) (by kernel_rfl) (by kernel_rfl) (fun _ _ _ h => h) (Or.inl ⟨by rfl, ?_⟩) (by assumption) ?_
          rotate_left
          · intro w hSw; go_simp; with_reducible rfl
          simp only [Act.put, List.getElem_toArray, List.getElem_cons_zero, List.getElem_cons_succ, List.setIfInBounds_toArray, List.set_cons_zero, List.set_cons_succ]
          have q4 := hS4.cell 1 0 rfl rfl
          have q5 := hS4.cell 1 1 rfl rfl
          have z4 := hS4.frozen 1 0 rfl
          have z5 := hS4.frozen 1 1 rfl
          refine wpAnyH_ready (rs := [10]) (by kernel_rfl) (by simp) ?_
          refine AllReadyH.cons rfl (fun K hK => ?_) AllReadyH.nil
          go_simp
          go_wp2_with fail
          refine hK.out _ _ (((hS4.set 1 rfl 0 (.int .i64 s)).set 1 rfl 1 (.slice A3 J.length c3)).drop 2) (fun hHeld => ?_)
          clear hK K
          try simp only [Act.put, List.getElem_toArray, List.getElem_cons_zero, List.getElem_cons_succ, List.setIfInBounds_toArray, List.set_cons_zero, List.set_cons_succ]
          refine wpAnyH_done (by kernel_rfl) ?_ _
          have HZ := hid ((hS4.set 1 rfl 0 (.int .i64 s)).set 1 rfl 1 (.slice A3 J.length c3))
          have hwb := hS.bl.size
          have p0 := HZ.out.cell 5 0 rfl rfl
          have p1 := HZ.out.cell 5 1 rfl rfl
          have p2 := HZ.out.cell 1 0 rfl rfl
          have p3 := HZ.out.cell 1 1 rfl rfl
          try clear hHeld
          try clear hS4
          try clear hl2
          try clear hlB
          try clear ho3
          try clear hb3
          try clear C0
          try clear C1
          try clear C2
          try clear C3
          try clear C4
          try clear C5
          try clear q4
          try clear q5
          try clear z4
          try clear z5
          try clear hS
          go_wp2_with fail
          refine (l4Good_any s _ (HN.out.grow HZ.out.bl) (HZ.out.rt 0 rfl (by have := HKl.out; omega))).mono ?_
          rintro e w5 ⟨rfl, hb5⟩
          have HZ5 := hid (HZ.out.step hb5)
          clear hb5 p0 p1 p2 p3
          cases g4 : routeB xs fs s J
          · have e1 : Hid (jnS xs fs s ids t jds = 0) := by unfold Hid; rw [H1.out, g4]; rfl
            have e2 : Hid (jnL xs fs s ids t jds = []) := by unfold Hid; rw [H2.out, g4]; rfl
            have e3 : Hid (jnB xs fs s ids t jds = false) := by unfold Hid; rw [H.out, g4]
            have y0 := HZ5.out.cell 2 0 rfl rfl
            have y1 := HZ5.out.cell 2 1 rfl rfl
            have z0 := HZ5.out.frozen 2 0 rfl
            have z1 := HZ5.out.frozen 2 1 rfl
            have HE := hid ((HZ5.out.set 2 rfl 0 (.int .i64 0)).set 2 rfl 1 (.slice none 0 0))
            clear g4
            go_wp2
            exact bodyPost_ret (v := .tuple #[.agg #[.int .i64 0, .slice none 0 0], .bool false]) (by simp [results, Try.results42, go_sem, y0, y1]) rfl
              ⟨none, 0, by rw [e1.out, e2.out, e3.out]; rfl, by rw [e2.out]; exact World.ownsRow_nil _ _ _ _, HE.out.bl⟩
          · have e1 : Hid (jnS xs fs s ids t jds = s) := by unfold Hid; rw [H1.out, g4]; rfl
            have e2 : Hid (jnL xs fs s ids t jds = J) := by unfold Hid; rw [H2.out, g4]; rfl
            have e3 : Hid (jnB xs fs s ids t jds = true) := by unfold Hid; rw [H.out, g4]
            have p2 := HZ5.out.cell 1 0 rfl rfl
            have p3 := HZ5.out.cell 1 1 rfl rfl
            have y0 := HZ5.out.cell 2 0 rfl rfl
            have y1 := HZ5.out.cell 2 1 rfl rfl
            have z0 := HZ5.out.frozen 2 0 rfl
            have z1 := HZ5.out.frozen 2 1 rfl
            have HE := hid ((HZ5.out.set 2 rfl 0 (.int .i64 s)).set 2 rfl 1 (.slice A3 J.length c3))
            clear g4
            go_wp2
            exact bodyPost_ret (v := .tuple #[.agg #[.int .i64 s, .slice A3 J.length c3], .bool true]) (by simp [results, Try.results42, go_sem, y0, y1]) rfl
              ⟨A3, c3, by rw [e1.out, e2.out, e3.out], by rw [e2.out]; exact (HE.out.own 0 rfl).base (by first | exact hwb | (simp; omega)), HE.out.bl⟩
end
end Go.Proofs.Ytfepilpllfiegaa
/- What two lists have in common, in ascending order, in plain Lean. Conditions: none. -/
namespace Go.Proofs.Ytfepilpllfiegaa
/-- Strictly ascending. -/
def ascL (l : List Int) : Prop := l.Pairwise (· < ·)
/-- Strictly ascending lists with the same members are one. -/
theorem asc_ext : ∀ {a b : List Int}, ascL a → ascL b → (∀ x, x ∈ a ↔ x ∈ b) → a = b := by
  intro a
  induction a with
  | nil =>
    intro b _ _ h
    cases b with
    | nil => rfl
    | cons y b => exact absurd ((h y).2 (by simp)) (by simp)
  | cons x a ih =>
    intro b ha hb h
    cases b with
    | nil => exact absurd ((h x).1 (by simp)) (by simp)
    | cons y b =>
      unfold ascL at ha hb
      rw [List.pairwise_cons] at ha hb
      have hxy : x = y := by
        have h1 : x ∈ y :: b := (h x).1 (by simp)
        have h2 : y ∈ x :: a := (h y).2 (by simp)
        rcases List.mem_cons.1 h1 with e | h1
        · exact e
        · rcases List.mem_cons.1 h2 with e | h2
          · exact e.symm
          · have := hb.1 x h1
            have := ha.1 y h2
            omega
      subst hxy
      congr 1
      refine ih ha.2 hb.2 (fun z => ?_)
      constructor
      · intro hz
        have h1 := (h z).1 (by simp [hz])
        rcases List.mem_cons.1 h1 with e | h1
        · have := ha.1 z hz; omega
        · exact h1
      · intro hz
        have h1 := (h z).2 (by simp [hz])
        rcases List.mem_cons.1 h1 with e | h1
        · have := hb.1 z hz; omega
        · exact h1
/-- A number put to its place, once. -/
def putL : List Int → Int → List Int
  | [], n => [n]
  | x :: l, n => if x < n then x :: putL l n else if x = n then x :: l else n :: x :: l
theorem putL_mem : ∀ {l : List Int} {n x : Int}, x ∈ putL l n ↔ x ∈ l ∨ x = n := by
  intro l
  induction l with
  | nil => intro n x; simp [putL]
  | cons y l ih =>
    intro n x
    unfold putL
    split
    · simp [ih, or_assoc]
    · split
      · rename_i e; subst e
        simp
        intro h; exact .inl h
      · simp
        constructor
        · rintro (h | h | h)
          · exact .inr h
          · exact .inl (.inl h)
          · exact .inl (.inr h)
        · rintro ((h | h) | h)
          · exact .inr (.inl h)
          · exact .inr (.inr h)
          · exact .inl h
theorem putL_asc : ∀ {l : List Int} {n : Int}, ascL l → ascL (putL l n) := by
  intro l
  induction l with
  | nil => intro n _; simp [putL, ascL]
  | cons y l ih =>
    intro n h
    unfold ascL at h
    rw [List.pairwise_cons] at h
    unfold putL
    split
    · rename_i hlt
      unfold ascL
      rw [List.pairwise_cons]
      refine ⟨fun z hz => ?_, ih h.2⟩
      rcases putL_mem.1 hz with hz | rfl
      · exact h.1 z hz
      · exact hlt
    · rename_i hlt
      split
      · unfold ascL; rw [List.pairwise_cons]; exact h
      · rename_i hne
        unfold ascL
        rw [List.pairwise_cons, List.pairwise_cons]
        refine ⟨fun z hz => ?_, h⟩
        rcases List.mem_cons.1 hz with rfl | hz
        · omega
        · have := h.1 z hz; omega
theorem compact_asc {l : List Int} (h : l.Pairwise (· ≤ ·)) : ascL (Lib.compact l) ∧ ∀ x, x ∈ Lib.compact l ↔ x ∈ l := by
  have hle : ∀ i j, i ≤ j → j < l.length → l[i]! ≤ l[j]! := by
    intro i j hij hj
    rcases Nat.lt_or_ge i j with hlt | hge
    · have := List.pairwise_iff_getElem.1 h i j (by omega) hj hlt
      rw [getElem!_pos l i (by omega), getElem!_pos l j hj]; exact this
    · rw [show i = j by omega]; exact Int.le_refl _
  have e : ∀ j : Nat, l.toArray[j]! = l[j]! := by
    intro j
    by_cases hj : j < l.length
    · rw [getElem!_pos l j hj, getElem!_pos l.toArray j (by simpa using hj), List.getElem_toArray]
    · rw [getElem!_neg l j hj, getElem!_neg l.toArray j (by simpa using hj)]
  constructor
  · unfold ascL Lib.compact Lib.compactUpTo
    rw [List.pairwise_map]
    refine List.Pairwise.imp_of_mem (R := fun a b => a < b) ?_ (List.Pairwise.filter _ List.pairwise_lt_range)
    intro i j hi hj hij
    have hj1 := (List.mem_filter.1 hj).2
    have hj2 : j < l.length := by simpa using (List.mem_filter.1 hj).1
    rw [e, e]
    have h1 := hle i (j - 1) (by omega) (by omega)
    have h2 := hle (j - 1) j (by omega) hj2
    unfold Lib.keeps at hj1
    rw [e, e] at hj1
    have h3 : l[j]! ≠ l[j - 1]! := by
      intro hh
      rw [hh] at hj1
      simp at hj1
      omega
    omega
  · intro x
    unfold Lib.compact Lib.compactUpTo
    rw [List.mem_map]
    constructor
    · rintro ⟨j, hj, rfl⟩
      have hj2 : j < l.length := by simpa using (List.mem_filter.1 hj).1
      rw [e, getElem!_pos l j hj2]
      exact List.getElem_mem hj2
    · intro hx
      obtain ⟨k, hk, hkx⟩ := List.mem_iff_getElem.1 hx
      have hex : ∃ j, j < l.length ∧ l[j]! = x ∧ ∀ i, i < j → l[i]! ≠ x := by
        clear hle
        induction k using Nat.strongRecOn with
        | _ k ih =>
          rcases Classical.em (∃ i, i < k ∧ l[i]! = x) with ⟨i, hi, hix⟩ | hno
          · exact ih i hi (by omega) (by rw [getElem!_pos l i (by omega)] at hix; exact hix)
          · exact ⟨k, hk, by rw [getElem!_pos l k hk]; exact hkx, fun i hi h => hno ⟨i, hi, h⟩⟩
      obtain ⟨j, hj, hjx, hmin⟩ := hex
      refine ⟨j, List.mem_filter.2 ⟨by simpa using hj, ?_⟩, by rw [e]; exact hjx⟩
      unfold Lib.keeps
      rw [e, e, hjx]
      by_cases h0 : j = 0
      · simp [h0]
      · have := hmin (j - 1) (by omega)
        exact decide_eq_true (Or.inr (fun h => this h.symm))
/-- What two lists have in common. -/
def comL (a b : List Int) : List Int := Lib.compact ((a.filter fun x => hasB b x).mergeSort fun x y => decide (x ≤ y))
theorem comL_asc (a b : List Int) : ascL (comL a b) ∧ ∀ x, x ∈ comL a b ↔ x ∈ a ∧ x ∈ b := by
  have hs : ((a.filter fun x => hasB b x).mergeSort fun x y => decide (x ≤ y)).Pairwise (· ≤ ·) := by
    have := List.pairwise_mergeSort (le := fun x y : Int => decide (x ≤ y)) (fun a b c h1 h2 => by simp at *; omega) (fun a b => by simp; omega) (a.filter fun x => hasB b x)
    exact this.imp (fun h => by simpa using h)
  obtain ⟨h1, h2⟩ := compact_asc hs
  refine ⟨h1, fun x => ?_⟩
  unfold comL
  rw [h2, List.mem_mergeSort, List.mem_filter, hasB_iff]
end Go.Proofs.Ytfepilpllfiegaa
/- Sorted lists in plain Lean: one order, one list; a thing put at its place. Conditions: as each states. -/
namespace Go.Proofs.Ytfepilpllfiegaa
section
variable {R : Type} {le : R → R → Prop}
/-- Two sorted lists of the same things are one. -/
theorem sorted_one (hanti : ∀ a b, le a b → le b a → a = b) : ∀ {l1 l2 : List R}, l1.Pairwise le → l2.Pairwise le → l1.Perm l2 → l1 = l2 := by
  intro l1
  induction l1 with
  | nil => intro l2 _ _ hp; exact (List.nil_perm.1 hp).symm
  | cons a l1 ih =>
    intro l2 h1 h2 hp
    cases l2 with
    | nil => exact absurd hp.length_eq (by simp)
    | cons b l2 =>
      rw [List.pairwise_cons] at h1 h2
      have ha : a ∈ b :: l2 := hp.mem_iff.1 (by simp)
      have hb : b ∈ a :: l1 := hp.mem_iff.2 (by simp)
      have e : a = b := by
        rcases List.mem_cons.1 ha with e | ha
        · exact e
        · rcases List.mem_cons.1 hb with e | hb
          · exact e.symm
          · exact hanti a b (h1.1 b hb) (h2.1 a ha)
      subst e
      rw [ih h1.2 h2.2 hp.cons_inv]
/-- A thing put at its place. -/
def putAt (l : List R) (p : Nat) (r : R) : List R := l.take p ++ r :: l.drop p
theorem putAt_len (l : List R) (p : Nat) (r : R) : (putAt l p r).length = l.length + 1 := by
  unfold putAt
  rw [List.length_append, List.length_cons, List.length_take, List.length_drop]; omega
theorem putAt_perm (l : List R) (p : Nat) (r : R) : (putAt l p r).Perm (r :: l) := by
  unfold putAt
  have h := List.perm_middle (a := r) (l₁ := l.take p) (l₂ := l.drop p)
  rwa [List.take_append_drop] at h
theorem putAt_sorted {l : List R} {p : Nat} {r : R} (h : l.Pairwise le) (h1 : ∀ e ∈ l.take p, le e r) (h2 : ∀ e ∈ l.drop p, le r e) : (putAt l p r).Pairwise le := by
  unfold putAt
  have hd := (List.take_append_drop p l).symm ▸ h
  rw [List.pairwise_append] at hd
  rw [List.pairwise_append, List.pairwise_cons]
  refine ⟨hd.1, ⟨h2, hd.2.1⟩, fun a ha b hb => ?_⟩
  rcases List.mem_cons.1 hb with e | hb
  · rw [e]; exact h1 a ha
  · exact hd.2.2 a ha b hb
/-- Where a thing is put: behind the last that is not greater. -/
theorem place_ok {l : List R} {p : Nat} {r : R} (htr : ∀ a b c, le a b → le b c → le a c) (h : l.Pairwise le) (hp : p ≤ l.length) (hb : ∀ j e, p ≤ j → l[j]? = some e → le r e) (hs : p = 0 ∨ ∃ e, l[p - 1]? = some e ∧ le e r) : (putAt l p r).Pairwise le := by
  refine putAt_sorted h (fun e he => ?_) (fun e he => ?_)
  · rcases hs with h0 | ⟨x, hx, hxr⟩
    · subst h0; simp at he
    · obtain ⟨j, hj⟩ := List.getElem?_of_mem he
      rw [List.getElem?_take] at hj
      split at hj
      · rename_i hjp
        rcases Nat.lt_or_ge j (p - 1) with hlt | hge
        · have h3 := List.pairwise_iff_getElem.1 h j (p - 1) (List.getElem?_eq_some_iff.1 hj).1 (List.getElem?_eq_some_iff.1 hx).1 hlt
          rw [(List.getElem?_eq_some_iff.1 hj).2, (List.getElem?_eq_some_iff.1 hx).2] at h3
          exact htr _ _ _ h3 hxr
        · have : j = p - 1 := by omega
          rw [this, hx] at hj
          injection hj with hj
          rw [← hj]; exact hxr
      · cases hj
  · obtain ⟨j, hj⟩ := List.getElem?_of_mem he
    rw [List.getElem?_drop] at hj
    exact hb (p + j) e (by omega) hj
/-- All put in one after another: a sorted list of them all. -/
theorem fold_put {ins : List R → R → List R} (hperm : ∀ l r, (ins l r).Perm (r :: l)) (hsort : ∀ l r, l.Pairwise le → (ins l r).Pairwise le) : ∀ (D l : List R), l.Pairwise le → (D.foldl ins l).Pairwise le ∧ (D.foldl ins l).Perm (D ++ l) := by
  intro D
  induction D with
  | nil => intro l h; exact ⟨h, List.Perm.refl _⟩
  | cons r D ih =>
    intro l h
    rw [List.foldl_cons]
    obtain ⟨h1, h2⟩ := ih (ins l r) (hsort l r h)
    refine ⟨h1, h2.trans ?_⟩
    exact ((hperm l r).append_left D).trans List.perm_middle
end
end Go.Proofs.Ytfepilpllfiegaa
/- The order of routes in plain Lean: it is an order. Conditions: one start. -/
namespace Go.Proofs.Ytfepilpllfiegaa
theorem cmpL_le_trans : ∀ {a b c : List Int}, cmpL a b ≤ 0 → cmpL b c ≤ 0 → cmpL a c ≤ 0 ∧ (cmpL a c = 0 → cmpL a b = 0 ∧ cmpL b c = 0) := by
  intro a
  induction a with
  | nil =>
    intro b c h1 h2
    cases b with
    | nil => exact ⟨h2, fun h => ⟨rfl, h⟩⟩
    | cons y b =>
      cases c with
      | nil => exact absurd h2 (by unfold cmpL; decide)
      | cons z c => exact ⟨by unfold cmpL; decide, fun h => absurd h (by unfold cmpL; decide)⟩
  | cons x a ih =>
    intro b c h1 h2
    cases b with
    | nil => exact absurd h1 (by unfold cmpL; decide)
    | cons y b =>
      cases c with
      | nil => exact absurd h2 (by unfold cmpL; decide)
      | cons z c =>
        have e1 : cmpL (x :: a) (y :: b) = if x < y then -1 else if y < x then 1 else cmpL a b := rfl
        have e2 : cmpL (y :: b) (z :: c) = if y < z then -1 else if z < y then 1 else cmpL b c := rfl
        have e3 : cmpL (x :: a) (z :: c) = if x < z then -1 else if z < x then 1 else cmpL a c := rfl
        rw [e1] at h1
        rw [e2] at h2
        rw [e1, e2, e3]
        by_cases hxy : x < y
        · by_cases hyz : y < z
          · rw [if_pos (by omega : x < z)]; exact ⟨by omega, fun h => by omega⟩
          · rw [if_neg hyz] at h2
            by_cases hzy : z < y
            · rw [if_pos hzy] at h2; omega
            · rw [if_pos (by omega : x < z)]; exact ⟨by omega, fun h => by omega⟩
        · rw [if_neg hxy] at h1 ⊢
          by_cases hyx : y < x
          · rw [if_pos hyx] at h1; omega
          · rw [if_neg hyx] at h1 ⊢
            have hxe : x = y := by omega
            subst hxe
            by_cases hyz : x < z
            · rw [if_pos hyz, if_pos hyz]; exact ⟨by omega, fun h => by omega⟩
            · rw [if_neg hyz] at h2 ⊢
              rw [if_neg hyz]
              by_cases hzy : z < x
              · rw [if_pos hzy] at h2; omega
              · rw [if_neg hzy] at h2 ⊢
                rw [if_neg hzy]
                exact ih h1 h2
theorem cmpL_anti : ∀ {a b : List Int}, cmpL a b = 0 → a = b := by
  intro a
  induction a with
  | nil => intro b h; cases b with
    | nil => rfl
    | cons y b => exact absurd h (by unfold cmpL; decide)
  | cons x a ih =>
    intro b h
    cases b with
    | nil => exact absurd h (by unfold cmpL; decide)
    | cons y b =>
      have e1 : cmpL (x :: a) (y :: b) = if x < y then -1 else if y < x then 1 else cmpL a b := rfl
      rw [e1] at h
      split at h
      · omega
      · split at h
        · omega
        · rw [ih h, show x = y by omega]
theorem cmpL_flip : ∀ (a b : List Int), cmpL a b = -cmpL b a := by
  intro a
  induction a with
  | nil => intro b; cases b <;> rfl
  | cons x a ih =>
    intro b
    cases b with
    | nil => rfl
    | cons y b =>
      show (if x < y then -1 else if y < x then 1 else cmpL a b) = -(if y < x then -1 else if x < y then 1 else cmpL b a)
      rw [ih b]
      split <;> split <;> omega
/-- a is not behind b (one start). -/
def leR (fs : List Fib) (s : Int) (a b : List Int) : Prop := ordR fs s a s b ≤ 0
theorem ordR_eq (fs : List Fib) (s : Int) (a b : List Int) : ordR fs s a s b = if lenR fs a < lenR fs b then -1 else if lenR fs b < lenR fs a then 1 else if (a.length : Int) < b.length then -1 else if (b.length : Int) < a.length then 1 else cmpL a b := by
  by_cases h1 : lenR fs a < lenR fs b
  · simp [ordR, orI, cmpB, h1]
  · by_cases h2 : lenR fs b < lenR fs a
    · simp [ordR, orI, cmpB, h1, h2]
    · by_cases h3 : (a.length : Int) < b.length
      · have h3' : a.length < b.length := by omega
        simp [ordR, orI, cmpB, h1, h2, h3']
      · by_cases h4 : (b.length : Int) < a.length
        · have h4' : b.length < a.length := by omega
          have h3' : ¬ a.length < b.length := by omega
          simp [ordR, orI, cmpB, h1, h2, h3', h4']
        · simp only [ordR, orI, cmpB, if_neg h1, if_neg h2, if_neg h3, if_neg h4]
          by_cases h5 : cmpL a b = 0
          · simp [h5]
          · simp [h5]
theorem leR_trans {fs : List Fib} {s : Int} {a b c : List Int} (h1 : leR fs s a b) (h2 : leR fs s b c) : leR fs s a c := by
  unfold leR at *
  rw [ordR_eq] at *
  have h3 : cmpL a b ≤ 0 → cmpL b c ≤ 0 → cmpL a c ≤ 0 := fun x y => (cmpL_le_trans x y).1
  repeat' split at h1
  all_goals repeat' split at h2
  all_goals repeat' split
  all_goals first | omega | exact h3 h1 h2
theorem leR_anti {fs : List Fib} {s : Int} {a b : List Int} (h1 : leR fs s a b) (h2 : leR fs s b a) : a = b := by
  unfold leR at *
  rw [ordR_eq] at *
  have hf := cmpL_flip a b
  apply cmpL_anti
  repeat' split at h1
  all_goals repeat' split at h2
  all_goals omega
theorem leR_total {fs : List Fib} {s : Int} {a b : List Int} (h : ¬ leR fs s a b) : leR fs s b a := by
  unfold leR at *
  rw [ordR_eq] at *
  have hf := cmpL_flip a b
  repeat' split at h
  all_goals repeat' split
  all_goals omega
end Go.Proofs.Ytfepilpllfiegaa
/- All simple routes in plain Lean: the search that stops when it has too many, against the whole search. Conditions: none. -/
namespace Go.Proofs.Ytfepilpllfiegaa
section
variable {m to M : Nat} {nx : Nat → Nat → Option Nat} {ins : List (List Int) → List Int → List (List Int)}
/-- All routes that extend one, in the order of the search. -/
def dfsL (m to : Nat) (nx : Nat → Nat → Option Nat) : Nat → Nat → List Nat → List Int → List (List Int)
  | 0, _, _, _ => []
  | k + 1, v, seen, ids => if v = to then [ids] else (List.range m).flatMap fun i => match nx i v with
    | some u => if u ∈ seen then [] else dfsL m to nx k u (u :: seen) (ids ++ [(i : Int)])
    | none => []
/-- The search that puts each route at its place and stops when it has more than M. -/
def refL (m to M : Nat) (nx : Nat → Nat → Option Nat) (ins : List (List Int) → List Int → List (List Int)) : Nat → Nat → List Nat → List Int → List (List Int) → List (List Int)
  | 0, _, _, _, l => l
  | k + 1, v, seen, ids, l => if v = to then ins l ids else (List.range m).foldl (fun l i => if l.length ≤ M then (match nx i v with
    | some u => if u ∈ seen then l else refL m to M nx ins k u (u :: seen) (ids ++ [(i : Int)]) l
    | none => l) else l) l
theorem ins_foldl (hi : ∀ l r, (ins l r).length = l.length + 1) : ∀ (D l : List (List Int)), (D.foldl ins l).length = l.length + D.length := by
  intro D
  induction D with
  | nil => intro l; rfl
  | cons r D ih => intro l; rw [List.foldl_cons, ih, hi, List.length_cons]; omega
theorem refL_eq (hi : ∀ l r, (ins l r).length = l.length + 1) : ∀ (k v : Nat) (seen : List Nat) (ids : List Int) (l : List (List Int)), l.length ≤ M →
    refL m to M nx ins k v seen ids l = ((dfsL m to nx k v seen ids).take (M + 1 - l.length)).foldl ins l := by
  intro k
  induction k with
  | zero => intro v seen ids l _; unfold refL dfsL; rw [List.take_nil]; rfl
  | succ k ih =>
    intro v seen ids l hl
    unfold refL dfsL
    by_cases hv : v = to
    · rw [if_pos hv, if_pos hv, show M + 1 - l.length = (M - l.length) + 1 by omega, List.take_succ_cons, List.take_nil]
      rfl
    · rw [if_neg hv, if_neg hv]
      suffices hh : ∀ (is : List Nat) (l : List (List Int)), l.length ≤ M + 1 → is.foldl (fun l i => if l.length ≤ M then (match nx i v with
          | some u => if u ∈ seen then l else refL m to M nx ins k u (u :: seen) (ids ++ [(i : Int)]) l
          | none => l) else l) l = ((is.flatMap fun i => match nx i v with
          | some u => if u ∈ seen then [] else dfsL m to nx k u (u :: seen) (ids ++ [(i : Int)])
          | none => []).take (M + 1 - l.length)).foldl ins l from hh (List.range m) l (by omega)
      intro is
      induction is with
      | nil => intro l _; rw [List.flatMap_nil, List.take_nil]; rfl
      | cons i is ihs =>
        intro l hl1
        rw [List.foldl_cons, List.flatMap_cons]
        by_cases hM : l.length ≤ M
        · rw [if_pos hM]
          cases hn : nx i v with
          | none => simp only [List.nil_append]; exact ihs l hl1
          | some u =>
            simp only []
            by_cases hs : u ∈ seen
            · rw [if_pos hs, if_pos hs, List.nil_append]; exact ihs l hl1
            · rw [if_neg hs, if_neg hs, ih u (u :: seen) (ids ++ [(i : Int)]) l hM]
              generalize dfsL m to nx k u (u :: seen) (ids ++ [(i : Int)]) = D
              have hlen := ins_foldl hi (D.take (M + 1 - l.length)) l
              rw [List.length_take] at hlen
              rw [ihs _ (by rw [hlen]; omega), hlen, List.take_append, List.foldl_append]
              congr 2
              omega
        · rw [if_neg hM, ihs l hl1, show M + 1 - l.length = 0 by omega, List.take_zero, List.take_zero]
/-- The whole of it: either all routes, put in one after another, or too many. -/
theorem refL_all (hi : ∀ l r, (ins l r).length = l.length + 1) (k v : Nat) (seen : List Nat) (ids : List Int) :
    (refL m to M nx ins k v seen ids [] = (dfsL m to nx k v seen ids).foldl ins [] ∧ (dfsL m to nx k v seen ids).length ≤ M) ∨
    (M < (refL m to M nx ins k v seen ids []).length ∧ M < (dfsL m to nx k v seen ids).length) := by
  have h := refL_eq (m := m) (to := to) (M := M) (nx := nx) hi k v seen ids [] (Nat.zero_le _)
  rw [List.length_nil, Nat.sub_zero] at h
  by_cases hM : (dfsL m to nx k v seen ids).length ≤ M
  · exact .inl ⟨by rw [h, List.take_of_length_le (by omega)], hM⟩
  · refine .inr ⟨?_, by omega⟩
    rw [h, ins_foldl hi, List.length_take]
    simp; omega
end
end Go.Proofs.Ytfepilpllfiegaa
/- The search for routes over fibers, in plain Lean: its bounds; what it finds. Conditions: as each states. -/
namespace Go.Proofs.Ytfepilpllfiegaa
open Go.RowKit
/-- The node at the other end, if there is one. -/
def nxF (fs : List Fib) (i v : Nat) : Option Nat := if 0 ≤ otherF (fibD fs i) (v : Int) then some (otherF (fibD fs i) (v : Int)).toNat else none
/-- All routes on from v. -/
def rtsL (fs : List Fib) (to k v : Nat) (seen : List Nat) (ids : List Int) : List (List Int) := dfsL fs.length to (nxF fs) k v seen ids
theorem nxF_some {fs : List Fib} {i v u : Nat} (h : otherF (fibD fs i) (v : Int) = (u : Int)) : nxF fs i v = some u := by
  unfold nxF; rw [h, if_pos (by omega)]; rfl
theorem nxF_none {fs : List Fib} {i v : Nat} (h : otherF (fibD fs i) (v : Int) < 0) : nxF fs i v = none := by
  unfold nxF; rw [if_neg (by omega)]
/-- What fiber i adds. -/
def rtsI (fs : List Fib) (to k v : Nat) (seen : List Nat) (ids : List Int) (i : Nat) : List (List Int) := match nxF fs i v with
  | some u => if u ∈ seen then [] else rtsL fs to k u (u :: seen) (ids ++ [(i : Int)])
  | none => []
/-- What the first j fibers add. -/
def rtsJ (fs : List Fib) (to k v : Nat) (seen : List Nat) (ids : List Int) (j : Nat) : List (List Int) := (List.range j).flatMap (rtsI fs to k v seen ids)
section
variable {fs : List Fib} {to k v : Nat} {seen : List Nat} {ids : List Int}
theorem rtsL_end : rtsL fs to (k + 1) to seen ids = [ids] := by unfold rtsL dfsL; rw [if_pos rfl]
theorem rtsL_on (h : v ≠ to) : rtsL fs to (k + 1) v seen ids = rtsJ fs to k v seen ids fs.length := by
  unfold rtsL rtsJ
  rw [dfsL, if_neg h]
  rfl
theorem rtsJ_succ (j : Nat) : rtsJ fs to k v seen ids (j + 1) = rtsJ fs to k v seen ids j ++ rtsI fs to k v seen ids j := by
  unfold rtsJ
  rw [List.range_succ, List.flatMap_append]
  simp
theorem rtsI_none {i : Nat} (h : otherF (fibD fs i) (v : Int) < 0) : rtsI fs to k v seen ids i = [] := by unfold rtsI; rw [nxF_none h]
theorem rtsI_seen {i u : Nat} (h : otherF (fibD fs i) (v : Int) = (u : Int)) (hs : u ∈ seen) : rtsI fs to k v seen ids i = [] := by unfold rtsI; rw [nxF_some h]; simp [hs]
theorem rtsI_on {i u : Nat} (h : otherF (fibD fs i) (v : Int) = (u : Int)) (hs : ¬ u ∈ seen) : rtsI fs to k v seen ids i = rtsL fs to k u (u :: seen) (ids ++ [(i : Int)]) := by unfold rtsI; rw [nxF_some h]; simp [hs]
theorem rtsJ_mono {i j : Nat} (h : i ≤ j) : (rtsJ fs to k v seen ids i).length ≤ (rtsJ fs to k v seen ids j).length := by
  obtain ⟨d, rfl⟩ := Nat.exists_eq_add_of_le h
  clear h
  induction d with
  | zero => exact Nat.le_refl _
  | succ d ih => rw [Nat.add_succ, rtsJ_succ, List.length_append]; omega
/-- Only the set of the nodes seen counts. -/
theorem rtsL_congr : ∀ (k v : Nat) (s t : List Nat) (ids : List Int), (∀ u, u ∈ s ↔ u ∈ t) → rtsL fs to k v s ids = rtsL fs to k v t ids := by
  intro k
  induction k with
  | zero => intro v s t ids _; rfl
  | succ k ih =>
    intro v s t ids h
    by_cases hv : v = to
    · subst hv; rw [rtsL_end, rtsL_end]
    · rw [rtsL_on hv, rtsL_on hv]
      unfold rtsJ
      congr 1
      funext i
      unfold rtsI
      cases nxF fs i v with
      | none => rfl
      | some u =>
        simp only [h u]
        split
        · rfl
        · exact ih u _ _ _ (fun x => by rw [List.mem_cons, List.mem_cons, h x])
/-- How many there are. -/
theorem rtsL_len : ∀ (k v : Nat) (seen : List Nat) (ids : List Int), (rtsL fs to k v seen ids).length ≤ (fs.length + 1) ^ k := by
  intro k
  induction k with
  | zero => intro v seen ids; exact Nat.zero_le _
  | succ k ih =>
    intro v seen ids
    by_cases hv : v = to
    · subst hv; rw [rtsL_end]; exact Nat.one_le_pow _ _ (by omega)
    · rw [rtsL_on hv]
      have hj : ∀ j, (rtsJ fs to k v seen ids j).length ≤ j * (fs.length + 1) ^ k := by
        intro j
        induction j with
        | zero => exact Nat.zero_le _
        | succ j ihj =>
          rw [rtsJ_succ, List.length_append, Nat.add_mul, Nat.one_mul]
          have : (rtsI fs to k v seen ids j).length ≤ (fs.length + 1) ^ k := by
            unfold rtsI
            split
            · split
              · exact Nat.zero_le _
              · exact ih _ _ _
            · exact Nat.zero_le _
          omega
      have h1 := hj fs.length
      have h2 : fs.length * (fs.length + 1) ^ k ≤ (fs.length + 1) ^ (k + 1) := by
        rw [Nat.pow_succ, Nat.mul_comm]
        exact Nat.mul_le_mul_left _ (by omega)
      omega
/-- What is found extends what was given, by fibers of the network, few. -/
theorem rtsL_mem : ∀ (k v : Nat) (seen : List Nat) (ids : List Int), ∀ r ∈ rtsL fs to k v seen ids, (∃ e, r = ids ++ e ∧ e.length + 1 ≤ k ∧ ∀ x ∈ e, 0 ≤ x ∧ x < fs.length) := by
  intro k
  induction k with
  | zero => intro v seen ids r hr; cases hr
  | succ k ih =>
    intro v seen ids r hr
    by_cases hv : v = to
    · subst hv
      rw [rtsL_end] at hr
      rw [List.mem_singleton.1 hr]
      exact ⟨[], by simp, by simp, fun x hx => by cases hx⟩
    · rw [rtsL_on hv] at hr
      unfold rtsJ at hr
      obtain ⟨i, hi, hr⟩ := List.mem_flatMap.1 hr
      have hi2 : i < fs.length := by simpa using hi
      unfold rtsI at hr
      split at hr
      · split at hr
        · cases hr
        · obtain ⟨e, he, h1, h2⟩ := ih _ _ _ r hr
          refine ⟨(i : Int) :: e, by rw [he]; simp, by simp; omega, fun x hx => ?_⟩
          rcases List.mem_cons.1 hx with hx | hx
          · rw [hx]; omega
          · exact h2 x hx
      · cases hr
theorem nodup_len : ∀ (n : Nat) (l : List Nat), l.Nodup → (∀ u ∈ l, u < n) → l.length ≤ n := by
  intro n
  induction n with
  | zero =>
    intro l _ h
    cases l with
    | nil => exact Nat.le_refl _
    | cons x l => exact absurd (h x (by simp)) (by omega)
  | succ n ih =>
    intro l hl h
    by_cases hm : n ∈ l
    · have h1 := ih (l.erase n) (hl.erase n) (fun u hu => by
        have h2 := (hl.mem_erase_iff).1 hu
        have := h u h2.2
        have := h2.1
        omega)
      rw [List.length_erase_of_mem hm] at h1
      omega
    · have h1 := ih l hl (fun u hu => by
        have := h u hu
        have : u ≠ n := fun e => hm (e ▸ hu)
        omega)
      omega
/-- The depth is enough. -/
theorem fuel_pos {n k : Nat} {seen : List Nat} (hn : seen.Nodup) (hs : ∀ u ∈ seen, u < n) (h : seen.length + k = n + 1) : 0 < k := by
  have := nodup_len n seen hn hs
  omega
end
end Go.Proofs.Ytfepilpllfiegaa
/- Rows of routes: owned, seen, equal. Conditions: as each states. -/
namespace Go.Proofs.Ytfepilpllfiegaa
open Go.RowKit
/-- A route in memory: its start; where its fibers lie. -/
def elRt : El (Int × Sl) := ⟨2, fun x => [.int .i64 x.1, slV x.2], fun _ => rfl, by decide, fun _ u h => by
  simp at h
  rcases h with rfl | rfl
  · rfl
  · rfl⟩
/-- The row v of routes is the call's own, and so is each route's row; they hold rows; no two share memory. -/
def OwnsRS (w : World) (base : Nat) (v : Value) (ss : List (Int × Sl)) (rows : List (Int × List Int)) : Prop :=
  Owns elRt w base 35 v ss ∧ ss.length = rows.length ∧ (∀ (i : Nat) s r, ss[i]? = some s → rows[i]? = some r → s.1 = r.1 ∧ Owns elInt w base 3 (slV s.2) r.2) ∧
    ∀ (i j : Nat) s t g, i < j → ss[i]? = some s → ss[j]? = some t → (slV s.2).ownBlock = some g → ¬ ((slV t.2).ownBlock = some g)
/-- Rows of routes as they read. -/
def SeesRS (w : World) (A : Option Addr) (n : Nat) (ss : List (Int × Sl)) (rows : List (Int × List Int)) : Prop :=
  Sees elRt w w.heap.size A n ss ∧ ss.length = rows.length ∧ ∀ (i : Nat) s r, ss[i]? = some s → rows[i]? = some r → s.1 = r.1 ∧ s.2.n = r.2.length ∧ Sees elInt w w.heap.size s.2.A s.2.n r.2
section
variable {w w' : World} {base : Nat} {v : Value} {ss : List (Int × Sl)} {rows : List (Int × List Int)}
theorem OwnsRS.below (h : OwnsRS w base v ss rows) (hb : Below w.heap.size w w') : OwnsRS w' base v ss rows :=
  ⟨h.1.below hb, h.2.1, fun i s r h1 h2 => ⟨(h.2.2.1 i s r h1 h2).1, (h.2.2.1 i s r h1 h2).2.below hb⟩, h.2.2.2⟩
theorem OwnsRS.base_ {base' : Nat} (h : OwnsRS w base v ss rows) (hb : base' ≤ base) : OwnsRS w base' v ss rows :=
  ⟨h.1.base hb, h.2.1, fun i s r h1 h2 => ⟨(h.2.2.1 i s r h1 h2).1, (h.2.2.1 i s r h1 h2).2.base hb⟩, h.2.2.2⟩
theorem OwnsRS.nil (w : World) (base : Nat) : OwnsRS w base (.slice none 0 0) [] [] :=
  ⟨World.ownsRow_nil _ _ _ _, rfl, fun i s r h1 => by simp at h1, fun i j s t g _ h1 => by simp at h1⟩
theorem OwnsRS.lies (h : OwnsRS w base v ss rows) {b : Nat} (hb : v.ownBlock = some b ∨ ∃ (i : Nat) (s : Int × Sl), ss[i]? = some s ∧ (slV s.2).ownBlock = some b) : base ≤ b ∧ b < w.heap.size := by
  rcases hb with e | ⟨i, s, h1, e⟩
  · exact h.1.lies b e
  · obtain ⟨r, hr⟩ : ∃ r, rows[i]? = some r := ⟨rows[i]'(by rw [← h.2.1]; exact (List.getElem?_eq_some_iff.1 h1).1), List.getElem?_eq_getElem _⟩
    exact (h.2.2.1 i s r h1 hr).2.lies b e
theorem OwnsRS.sees {n c : Nat} {A : Option Addr} (h : OwnsRS w base (.slice A n c) ss rows) : SeesRS w A ss.length ss rows := by
  refine ⟨h.1.sees, h.2.1, fun i s r h1 h2 => ?_⟩
  obtain ⟨e0, ho⟩ := h.2.2.1 i s r h1 h2
  obtain ⟨A', c', hv, _, _, hs⟩ := ho.form
  unfold slV at hv
  injection hv with e1 e2 e3
  exact ⟨e0, e2, by rw [e1, e2]; exact hs⟩
theorem SeesRS.grow {A : Option Addr} {n : Nat} (h : SeesRS w A n ss rows) (hb : Below w.heap.size w w') : SeesRS w' A n ss rows :=
  ⟨(h.1.grow hb).more hb.size, h.2.1, fun i s r h1 h2 => ⟨(h.2.2 i s r h1 h2).1, (h.2.2 i s r h1 h2).2.1, ((h.2.2 i s r h1 h2).2.2.grow hb).more hb.size⟩⟩
/-- One route more, made behind the others; the row may have moved. -/
theorem OwnsRS.push {w2 w3 : World} {r0 : Int × List Int} {s0 : Int × Sl} {v' : Value} (h : OwnsRS w base v ss rows) (hb : Below w.heap.size w w2) (hbase : base ≤ w.heap.size) (h0 : s0.1 = r0.1) (hr : Owns elInt w2 w.heap.size 3 (slV s0.2) r0.2)
    (hown : Owns elRt w3 base 35 v' (ss ++ [s0])) (hg : Touch (fun b => v.ownBlock = some b) w2 w3) : OwnsRS w3 base v' (ss ++ [s0]) (rows ++ [r0]) := by
  have h2 := h.below hb
  refine ⟨hown, by simp [h.2.1], fun i s r h3 h4 => ?_, fun i j s t g hij h3 h4 h5 h6 => ?_⟩
  · rcases Nat.lt_or_ge i ss.length with hi | hi
    · rw [List.getElem?_append_left hi] at h3
      rw [List.getElem?_append_left (by rw [← h.2.1]; exact hi)] at h4
      obtain ⟨e0, ho⟩ := h2.2.2.1 i s r h3 h4
      exact ⟨e0, ho.touch hg (fun g hg' => owns_ne h2.1 ho (by decide) g hg')⟩
    · rw [List.getElem?_append_right hi] at h3
      rw [List.getElem?_append_right (by rw [← h.2.1]; exact hi)] at h4
      have e1 : i - ss.length = 0 := by have := (List.getElem?_eq_some_iff.1 h3).1; simp at this; omega
      have e2 : i - rows.length = 0 := by rw [← h.2.1]; exact e1
      rw [e1] at h3; rw [e2] at h4
      simp at h3 h4; subst h3; subst h4
      exact ⟨h0, (hr.touch hg (fun g hg' => owns_ne h2.1 hr (by decide) g hg')).base hbase⟩
  · rcases Nat.lt_or_ge j ss.length with hj | hj
    · rw [List.getElem?_append_left hj] at h4
      rw [List.getElem?_append_left (by omega)] at h3
      exact h.2.2.2 i j s t g hij h3 h4 h5 h6
    · rw [List.getElem?_append_right hj] at h4
      have e1 : j - ss.length = 0 := by have := (List.getElem?_eq_some_iff.1 h4).1; simp at this; omega
      rw [e1] at h4; simp at h4; subst h4
      rw [List.getElem?_append_left (by omega)] at h3
      obtain ⟨r, hrr⟩ : ∃ r, rows[i]? = some r := ⟨rows[i]'(by rw [← h.2.1]; omega), List.getElem?_eq_getElem _⟩
      have a1 := ((h.2.2.1 i s r h3 hrr).2.lies g h5).2
      have a2 := (hr.lies g h6).1
      omega
end
theorem rt_info : (Try.prog.info? 35).map (fun i => (i.zero, i.size, i.bytes)) = some (some (.agg #[.int .i64 0, .slice none 0 0]), 2, 32) := by kernel_rfl
/-- The blocks of a row of routes. -/
def rsS (v : Value) (ss : List (Int × Sl)) (b : Nat) : Prop := v.ownBlock = some b ∨ ∃ (i : Nat) (s : Int × Sl), ss[i]? = some s ∧ (slV s.2).ownBlock = some b
/-- Routes in the ledger. -/
def tRS (base : Nat) (v : Value) (ss : List (Int × Sl)) (rows : List (Int × List Int)) : Thing :=
  ⟨rsS v ss, fun w => OwnsRS w base v ss rows,
    fun _ _ ⟨a, b, c, d⟩ _ hb => ⟨a.st (fun b h => hb b (.inl h)), b, fun i s r h1 h2 => ⟨(c i s r h1 h2).1, (c i s r h1 h2).2.st (fun g h => hb g (.inr ⟨i, s, h1, h⟩))⟩, d⟩,
    fun _ h _ e => (h.lies e).2⟩
theorem Led.rs {w0 w w' : World} {L : List Thing} {v : Value} {ss : List (Int × Sl)} {rows : List (Int × List Int)} (h : Led w0 w L) (hb : Below w.heap.size w w') (ho : OwnsRS w' w.heap.size v ss rows) : Led w0 w' (tRS w.heap.size v ss rows :: L) :=
  h.put hb _ (fun _ e => (ho.lies e).1) ho
end Go.Proofs.Ytfepilpllfiegaa
/- markRouteS, heldRouteS, walked. Conditions: at most 1048576 routes and fibers of a route; the last mark below 2^40. -/
namespace Go.Proofs.Ytfepilpllfiegaa
open Go.RowKit
/-- The mark at which route j begins. -/
def offR (k : Int) (rows : List (Int × List Int)) (j : Nat) : Int := k + ((((rows.take j).map fun r => 1 + r.2.length).sum : Nat) : Int)
theorem offR_zero (k : Int) (rows : List (Int × List Int)) : offR k rows 0 = k := by simp [offR]
theorem offR_succ {k : Int} {rows : List (Int × List Int)} {j : Nat} {r : Int × List Int} (h : rows[j]? = some r) : offR k rows (j + 1) = offR k rows j + 1 + (r.2.length : Int) := by
  unfold offR
  rw [List.take_add_one, h]
  simp
  omega
theorem offR_ge (k : Int) (rows : List (Int × List Int)) (j : Nat) : k ≤ offR k rows j := by unfold offR; omega
theorem offR_le {k : Int} {rows : List (Int × List Int)} : ∀ {d j : Nat}, j + d = rows.length → offR k rows j ≤ offR k rows rows.length := by
  intro d
  induction d with
  | zero => intro j h; rw [show j = rows.length by omega]; exact Int.le_refl _
  | succ d ih =>
    intro j h
    have h1 := ih (j := j + 1) (by omega)
    obtain ⟨r, hr⟩ : ∃ r, rows[j]? = some r := ⟨rows[j]'(by omega), List.getElem?_eq_getElem _⟩
    rw [offR_succ hr] at h1
    omega
/-- All routes, marked. -/
def marksRS (k : Int) (rows : List (Int × List Int)) : List (Int × List Int) := (List.range rows.length).map fun i => (offR k rows i, marks (offR k rows i + 1) (rows.getD i (0, [])).2.length)
theorem marksRS_len (k : Int) (rows : List (Int × List Int)) : (marksRS k rows).length = rows.length := by simp [marksRS]
theorem marksRS_get {k : Int} {rows : List (Int × List Int)} {i : Nat} {r q : Int × List Int} (h : rows[i]? = some r) (hq : (marksRS k rows)[i]? = some q) : q = (offR k rows i, marks (offR k rows i + 1) r.2.length) := by
  have hi := (List.getElem?_eq_some_iff.1 h).1
  unfold marksRS at hq
  rw [List.getElem?_map, List.getElem?_range hi] at hq
  simp [h] at hq
  exact hq.symm
/-- A route's start is stored. -/
theorem Owns.rt_set {w : World} {base g c n : Nat} {ss : List (Int × Sl)} (h : Owns elRt w base 35 (.slice (some ⟨g, 0, none⟩) n c) ss) {j : Nat} {s : Int × Sl} (hj : ss[j]? = some s) (x : Int) :
    Owns elRt (w.setCell ⟨g, j * 2, none⟩ (.int .i64 x)) base 35 (.slice (some ⟨g, 0, none⟩) n c) (ss.set j (x, s.2)) := by
  rcases h.cases with ⟨h0, _⟩ | ⟨g1, c1, cur, hv, hbase, hb, hnc, hcm, hs, hf⟩
  · cases h0
  · injection hv with h1 h2 h3
    injection h1 with h1
    injection h1 with h1
    subst h1
    subst h3
    have hjl := (List.getElem?_eq_some_iff.1 hj).1
    rw [h2]
    refine Owns.of_blk (hb.set (j * 2) _) hbase (by simp) hnc (by simp [hs]) hcm (fun k y hk hy i u hu => ?_)
    rw [List.getElem?_set] at hy
    have hsz : cur.size = c * 2 := hs
    by_cases hjk : j = k
    · subst hjk
      rw [if_pos rfl, if_pos hjl] at hy
      injection hy with hy; subst hy
      have hu' : [Value.int .i64 x, slV s.2][i]? = some u := hu
      match i, hu' with
      | 0, hu' =>
        simp at hu'; subst hu'
        show (cur.setIfInBounds (j * 2) _)[j * 2 + 0]? = _
        rw [Nat.add_zero, Array.getElem?_setIfInBounds_self_of_lt (by omega)]
      | 1, hu' =>
        simp at hu'; subst hu'
        show (cur.setIfInBounds (j * 2) _)[j * 2 + 1]? = _
        rw [Array.getElem?_setIfInBounds_ne (by omega)]
        exact hf j s hk hj 1 _ rfl
      | i + 2, hu' => simp at hu'
    · rw [if_neg hjk] at hy
      have hi : i < 2 := by have := (List.getElem?_eq_some_iff.1 hu).1; rw [elRt.len y] at this; exact this
      show (cur.setIfInBounds (j * 2) _)[k * 2 + i]? = _
      rw [Array.getElem?_setIfInBounds_ne (by omega)]
      exact hf k y hk hy i u hu
theorem Owns.rt_free {w : World} {base g c n : Nat} {ss : List (Int × Sl)} (h : Owns elRt w base 35 (.slice (some ⟨g, 0, none⟩) n c) ss) (j : Nat) : w.frozen? ⟨g, j, none⟩ = false := by
  rcases h.cases with ⟨h0, _⟩ | ⟨g1, c1, cur, hv, _, hb, _⟩
  · cases h0
  · injection hv with h1 h2 h3
    injection h1 with h1
    injection h1 with h1
    subst h1
    exact hb.frozen j
/-- Route i behind j routes' marking. -/
def rowR (k : Int) (rows : List (Int × List Int)) (j i : Nat) (r : List Int) : List Int := if i < j then marks (offR k rows i + 1) r.length else r
theorem snd_of {ss tt : List (Int × Sl)} (h : tt.map (·.2) = ss.map (·.2)) {i : Nat} {t : Int × Sl} (ht : tt[i]? = some t) : ∃ s, ss[i]? = some s ∧ s.2 = t.2 := by
  have h1 : (tt.map (·.2))[i]? = some t.2 := by rw [List.getElem?_map, ht]; rfl
  rw [h, List.getElem?_map] at h1
  cases hs : ss[i]? with
  | none => rw [hs] at h1; cases h1
  | some s => rw [hs] at h1; injection h1 with h1; exact ⟨s, rfl, h1⟩
end Go.Proofs.Ytfepilpllfiegaa
