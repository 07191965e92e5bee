/- Lemmas and walks that the claim rests on, laid together. Conditions: none. -/
import Derived.Test.YtjklphlgmlomjaaZcc748d907edd
import Derived.Test.YtjklphlgmlomjaaZb082620ab1f1
import Derived.Test.YtjklphlgmlomjaaZ8c7ec3a8694e
import Derived.Deep.RegionHeld3
/- FnExactJoinRoutes, walked. Conditions: none. -/
namespace Go.Proofs.Ytjklphlgmlomjaa.fnExactJoinRoutes
open Go.RowKit
set_option maxHeartbeats 2000000 in
set_option maxRecDepth 100000 in
theorem walk (w : World) {A0 E0 : Option Addr} {n0 c0 m0 d0 : Nat} {xs0 : List ByteArray} {fs0 : List Fib} (h0 : NetArg w A0 n0 c0 E0 m0 d0 xs0 fs0) {s1 : Int} {A1 : Option Addr} {k1 c1 : Nat} {l1 : List Int} (h1 : RouteArg w s1 A1 k1 c1 l1) {s2 : Int} {A2 : Option Addr} {k2 c2 : Nat} {l2 : List Int} (h2 : RouteArg w s2 A2 k2 c2 l2) :
    Calls Try.prog 5 #[.agg #[.slice A0 n0 c0, .slice E0 m0 d0], .agg #[.int .i64 s1, .slice A1 k1 c1], .agg #[.int .i64 s2, .slice A2 k2 c2]] w fun e w' => e = .returned (.bool true) ∧ Below w.heap.size w w' := by
  obtain ⟨⟨h0nc, h0cm, h0A, h0x⟩, ⟨h0md, h0dm, h0F, _⟩⟩ := h0
  obtain ⟨_, h1nc, h1cm, h1A, _⟩ := h1
  obtain rfl := h1A.len
  obtain ⟨_, h2nc, h2cm, h2A, _⟩ := h2
  obtain rfl := h2A.len
  have hS := Led.nil w
  replace hS := hS.blk_ (w.heap.size) (by simp) 25 #[.slice A0 n0 c0, .slice E0 m0 d0]
  replace hS := hS.blk_ (w.heap.size + 1) (by simp) 28 #[.int .i64 s1, .slice A1 l1.length c1]
  replace hS := hS.blk_ (w.heap.size + 1 + 1) (by simp) 28 #[.int .i64 s2, .slice A2 l2.length c2]
  obtain ⟨r0, hr0⟩ : ∃ r, r = lessI 1048576 (netTot xs0 fs0) := ⟨_, rfl⟩
  have hlb0 := lessI_bd (left := 1048576) (t := (netTot xs0 fs0))
  rw [← hr0] at hlb0
  have HR0 := hid hr0
  clear hr0
  rcases hlb0 with ⟨hz0, _⟩ | ⟨hz0, hy0, hx0⟩
  case inl =>
    subst hz0
    go_enter Try.func5, Try.ntmps5
    go_wp2_with fail
    refine (szNetwork_any 1048576 _ (h0A.below hS.bl) (h0F.below hS.bl) hS.bl.size (by omega) (by omega) h0x (by omega) (by omega)).mono ?_
    rintro e W1 ⟨rfl, hb⟩; replace hS := hS.step hb; clear hb
    rw [← HR0.out]
    go_wp2_with fail
    go_ret
    exact ⟨rfl, hS.bl⟩
  have h0n : n0 ≤ 1048576 := by have := h0A.len; unfold netTot strTot at hx0; omega
  have h0m : m0 ≤ 1048576 := by have := h0F.len; unfold netTot strTot at hx0; omega
  have h0I := hid (show NetIs w A0 n0 c0 E0 m0 d0 xs0 fs0 from ⟨⟨h0nc, h0n⟩, ⟨h0md, h0m⟩, h0A, h0F, h0x⟩)
  clear hx0
  obtain ⟨r1, hr1⟩ : ∃ r, r = lessI r0 l1.length := ⟨_, rfl⟩
  have hlb1 := lessI_bd (left := r0) (t := l1.length)
  rw [← hr1] at hlb1
  have HR1 := hid hr1
  clear hr1
  rcases hlb1 with ⟨hz1, _⟩ | ⟨hz1, hy1, hx1⟩
  case inl =>
    subst hz1
    go_enter Try.func5, Try.ntmps5
    go_wp2_with fail
    refine (szNetwork_any 1048576 _ (h0A.below hS.bl) (h0F.below hS.bl) hS.bl.size (by omega) (by omega) h0x (by omega) (by omega)).mono ?_
    rintro e W1 ⟨rfl, hb⟩; replace hS := hS.step hb; clear hb
    rw [← HR0.out]
    have q0 := hS.cell 1 0 rfl rfl
    have q1 := hS.cell 1 1 rfl rfl
    go_wp2_with fail
    refine (szRoute_any s1 r0 _ (by omega) (by omega) (by omega)).mono ?_
    rintro e W2 ⟨rfl, hb⟩; replace hS := hS.step hb; clear hb
    rw [← HR1.out]
    clear q0 q1
    go_wp2_with fail
    go_ret
    exact ⟨rfl, hS.bl⟩
  have h1n : l1.length ≤ 1048576 := by omega
  have h1I := hid (show RtIs w A1 l1.length c1 l1 from ⟨⟨h1nc, h1n⟩, h1A⟩)
  clear hx1
  obtain ⟨r2, hr2⟩ : ∃ r, r = lessI r1 l2.length := ⟨_, rfl⟩
  have hlb2 := lessI_bd (left := r1) (t := l2.length)
  rw [← hr2] at hlb2
  have HR2 := hid hr2
  clear hr2
  rcases hlb2 with ⟨hz2, _⟩ | ⟨hz2, hy2, hx2⟩
  case inl =>
    subst hz2
    go_enter Try.func5, Try.ntmps5
    go_wp2_with fail
    refine (szNetwork_any 1048576 _ (h0A.below hS.bl) (h0F.below hS.bl) hS.bl.size (by omega) (by omega) h0x (by omega) (by omega)).mono ?_
    rintro e W1 ⟨rfl, hb⟩; replace hS := hS.step hb; clear hb
    rw [← HR0.out]
    have q0 := hS.cell 1 0 rfl rfl
    have q1 := hS.cell 1 1 rfl rfl
    go_wp2_with fail
    refine (szRoute_any s1 r0 _ (by omega) (by omega) (by omega)).mono ?_
    rintro e W2 ⟨rfl, hb⟩; replace hS := hS.step hb; clear hb
    rw [← HR1.out]
    clear q0 q1
    have q0 := hS.cell 0 0 rfl rfl
    have q1 := hS.cell 0 1 rfl rfl
    go_wp2_with fail
    refine (szRoute_any s2 r1 _ (by omega) (by omega) (by omega)).mono ?_
    rintro e W3 ⟨rfl, hb⟩; replace hS := hS.step hb; clear hb
    rw [← HR2.out]
    clear q0 q1
    go_wp2_with fail
    go_ret
    exact ⟨rfl, hS.bl⟩
  have h2n : l2.length ≤ 1048576 := by omega
  have h2I := hid (show RtIs w A2 l2.length c2 l2 from ⟨⟨h2nc, h2n⟩, h2A⟩)
  clear hx2
  go_enter Try.func5, Try.ntmps5
  go_wp2_with fail
  refine (szNetwork_any 1048576 _ (h0A.below hS.bl) (h0F.below hS.bl) hS.bl.size (by omega) (by omega) h0x (by omega) (by omega)).mono ?_
  rintro e W1 ⟨rfl, hb⟩; replace hS := hS.step hb; clear hb
  rw [← HR0.out]
  have q0 := hS.cell 1 0 rfl rfl
  have q1 := hS.cell 1 1 rfl rfl
  go_wp2_with fail
  refine (szRoute_any s1 r0 _ (by omega) (by omega) (by omega)).mono ?_
  rintro e W2 ⟨rfl, hb⟩; replace hS := hS.step hb; clear hb
  rw [← HR1.out]
  clear q0 q1
  have q0 := hS.cell 0 0 rfl rfl
  have q1 := hS.cell 0 1 rfl rfl
  go_wp2_with fail
  refine (szRoute_any s2 r1 _ (by omega) (by omega) (by omega)).mono ?_
  rintro e W3 ⟨rfl, hb⟩; replace hS := hS.step hb; clear hb
  rw [← HR2.out]
  clear q0 q1
  -- the reference
  go_wp2_with fail
  obtain ⟨L0, hL0⟩ : ∃ L, jnL xs0 fs0 s1 l1 s2 l2 = L := ⟨_, rfl⟩
  have hlen0 := hid ((Nat.le_trans jnL_len (by decide) : (jnL xs0 fs0 s1 l1 s2 l2).length ≤ 1048576))
  rw [hL0] at hlen0
  apply share
  · intro rest
    have C0 : ∀ w', Cls W3 w' → w'.cell? ⟨w.heap.size, 0, none⟩ = some (.slice A0 n0 c0) := fun _ h => h.cell (hS.cell 2 0 rfl rfl)
    have C1 : ∀ w', Cls W3 w' → w'.cell? ⟨w.heap.size, 1, none⟩ = some (.slice E0 m0 d0) := fun _ h => h.cell (hS.cell 2 1 rfl rfl)
    have C2 : ∀ w', Cls W3 w' → w'.cell? ⟨w.heap.size + 1, 0, none⟩ = some (.int .i64 s1) := fun _ h => h.cell (hS.cell 1 0 rfl rfl)
    have C3 : ∀ w', Cls W3 w' → w'.cell? ⟨w.heap.size + 1, 1, none⟩ = some (.slice A1 l1.length c1) := fun _ h => h.cell (hS.cell 1 1 rfl rfl)
    have C4 : ∀ w', Cls W3 w' → w'.cell? ⟨w.heap.size + 1 + 1, 0, none⟩ = some (.int .i64 s2) := fun _ h => h.cell (hS.cell 0 0 rfl rfl)
    have C5 : ∀ w', Cls W3 w' → w'.cell? ⟨w.heap.size + 1 + 1, 1, none⟩ = some (.slice A2 l2.length c2) := fun _ h => h.cell (hS.cell 0 1 rfl rfl)
    have HL := hid (fun w' (h : Cls W3 w') => hS.step h)
    go_region_held3 (fun w' => Cls W3 w') (first | exact Cls.refl _ | exact Cls.drew _ | assumption | exact Cls.next (by assumption) (by assumption) | exact bl_alloc (by assumption) _ | exact bl_alloc (Cls.drew _) _ | exact (bl_alloc (Cls.refl _) _).drew | exact bl_set (bl_set (by assumption) _ (by first | exact Nat.le_refl _ | exact Below.size hclw0 | exact Below.size hclw1 | exact Below.size hclw2)) _ (by first | exact Nat.le_refl _ | exact Below.size hclw0 | exact Below.size hclw1 | exact Below.size hclw2))
      (first
        | (go_at_call 18; first
            | (have hA := hid (((HL.out W3 (Cls.refl _)).blk_ W3.heap.size rfl 37 #[.int .i64 0, .slice none 0 0]).step (Cls.drew _)); have hcc := (toNetwork_own (c := c0) (d := d0) ((W3.alloc (.cells #[.int .i64 0, .slice none 0 0] 37)).drew) (h0I.out.grow hA.out.bl).strs (h0I.out.grow hA.out.bl).fibs (Nat.le_refl _) h0n h0m); with_reducible refine hcc.mono ?_; clear hcc; rintro e ww0 ⟨Awt0, cwt0, Ewt0, dwt0, rfl, ho_w0, hb_w0⟩; have hLw0 := hA.out.net hb_w0 ho_w0; have hclw0 : Cls W3 _ := Cls.next hb_w0 (by assumption); clear hA)
            | (have hA := hid (HL.out W3.drew (Cls.drew _)); have hcc := (toNetwork_own (c := c0) (d := d0) (W3.drew) (h0I.out.grow hA.out.bl).strs (h0I.out.grow hA.out.bl).fibs (Nat.le_refl _) h0n h0m); with_reducible refine hcc.mono ?_; clear hcc; rintro e ww0 ⟨Awt0, cwt0, Ewt0, dwt0, rfl, ho_w0, hb_w0⟩; have hLw0 := hA.out.net hb_w0 ho_w0; have hclw0 : Cls W3 _ := Cls.next hb_w0 (by assumption); clear hA))
        | (go_at_call_of 19 (Value.slice A1 l1.length c1); first
            | (have hA := hid (hLw0.blk_ ww0.heap.size rfl 37 #[.int .i64 0, .slice none 0 0]); have hcc := (toRoute_any (er := c1) s1 (ww0.alloc (.cells #[.int .i64 0, .slice none 0 0] 37)) (h1I.out.grow hA.out.bl).2 (Nat.le_refl _) h1n); with_reducible refine hcc.mono ?_; clear hcc; rintro e ww1 ⟨Awt1, cwt1, rfl, -, ho_w1, hb_w1⟩; have hLw1 := hA.out.owns hb_w1 ho_w1; have hclw1 : Cls W3 _ := Cls.next hb_w1 (by assumption); clear hA)
            | (have hA := hid (hLw0); have hcc := (toRoute_any (er := c1) s1 ww0 (h1I.out.grow hA.out.bl).2 (Nat.le_refl _) h1n); with_reducible refine hcc.mono ?_; clear hcc; rintro e ww1 ⟨Awt1, cwt1, rfl, -, ho_w1, hb_w1⟩; have hLw1 := hA.out.owns hb_w1 ho_w1; have hclw1 : Cls W3 _ := Cls.next hb_w1 (by assumption); clear hA))
        | (go_at_call_of 19 (Value.slice A2 l2.length c2); first
            | (have hA := hid (hLw1.blk_ ww1.heap.size rfl 37 #[.int .i64 0, .slice none 0 0]); have hcc := (toRoute_any (er := c2) s2 (ww1.alloc (.cells #[.int .i64 0, .slice none 0 0] 37)) (h2I.out.grow hA.out.bl).2 (Nat.le_refl _) h2n); with_reducible refine hcc.mono ?_; clear hcc; rintro e ww2 ⟨Awt2, cwt2, rfl, -, ho_w2, hb_w2⟩; have hLw2 := hA.out.owns hb_w2 ho_w2; have hclw2 : Cls W3 _ := Cls.next hb_w2 (by assumption); clear hA)
            | (have hA := hid (hLw1); have hcc := (toRoute_any (er := c2) s2 ww1 (h2I.out.grow hA.out.bl).2 (Nat.le_refl _) h2n); with_reducible refine hcc.mono ?_; clear hcc; rintro e ww2 ⟨Awt2, cwt2, rfl, -, ho_w2, hb_w2⟩; have hLw2 := hA.out.owns hb_w2 ho_w2; have hclw2 : Cls W3 _ := Cls.next hb_w2 (by assumption); clear hA))
        | (go_at_call 28; first
            | (have hA := hid (hLw2.blk_ ww2.heap.size rfl 37 #[.int .i64 0, .slice none 0 0]); have hcc := specJoin _ (hA.out.netIs 3 rfl h0n h0m h0x) (hA.out.rt 2 rfl h1n) (hA.out.rt 1 rfl h2n) s1 s2; with_reducible refine hcc.mono ?_; clear hcc; rintro e wwr ⟨Aw0, cw0, rfl, ho0, hb⟩; have hR := hA.out.owns hb ho0; have hclwr : Cls W3 _ := Cls.next hb (by assumption); have q0 : wwr.cell? _ = some (.int .i64 0) := hR.cell 1 0 rfl rfl; have z0 := hR.frozen 1 0 rfl; have q1 : wwr.cell? _ = some (.slice none 0 0) := hR.cell 1 1 rfl rfl; have z1 := hR.frozen 1 1 rfl; clear hA)
            | (have hA := hid (hLw2); have hcc := specJoin _ (hA.out.netIs 3 rfl h0n h0m h0x) (hA.out.rt 2 rfl h1n) (hA.out.rt 0 rfl h2n) s1 s2; with_reducible refine hcc.mono ?_; clear hcc; rintro e wwr ⟨Aw0, cw0, rfl, ho0, hb⟩; have hR := hA.out.owns hb ho0; have hclwr : Cls W3 _ := Cls.next hb (by assumption); have q0 : wwr.cell? _ = some (.int .i64 0) := hR.cell 2 0 rfl rfl; have z0 := hR.frozen 2 0 rfl; have q1 : wwr.cell? _ = some (.slice none 0 0) := hR.cell 2 1 rfl rfl; have z1 := hR.frozen 2 1 rfl; clear hA)
            | (have hA := hid (hLw2); have hcc := specJoin _ (hA.out.netIs 3 rfl h0n h0m h0x) (hA.out.rt 1 rfl h1n) (hA.out.rt 0 rfl h2n) s1 s2; with_reducible refine hcc.mono ?_; clear hcc; rintro e wwr ⟨Aw0, cw0, rfl, ho0, hb⟩; have hR := hA.out.owns hb ho0; have hclwr : Cls W3 _ := Cls.next hb (by assumption); have q0 : wwr.cell? _ = some (.int .i64 0) := hR.cell 3 0 rfl rfl; have z0 := hR.frozen 3 0 rfl; have q1 : wwr.cell? _ = some (.slice none 0 0) := hR.cell 3 1 rfl rfl; have z1 := hR.frozen 3 1 rfl; clear hA)
            | (have hA := hid (hLw2); have hcc := specJoin _ (hA.out.netIs 2 rfl h0n h0m h0x) (hA.out.rt 1 rfl h1n) (hA.out.rt 0 rfl h2n) s1 s2; with_reducible refine hcc.mono ?_; clear hcc; rintro e wwr ⟨Aw0, cw0, rfl, ho0, hb⟩; have hR := hA.out.owns hb ho0; have hclwr : Cls W3 _ := Cls.next hb (by assumption); have q0 : wwr.cell? _ = some (.int .i64 0) := hR.cell 4 0 rfl rfl; have z0 := hR.frozen 4 0 rfl; have q1 : wwr.cell? _ = some (.slice none 0 0) := hR.cell 4 1 rfl rfl; have z1 := hR.frozen 4 1 rfl; clear hA)
            | (have hA := hid (hLw2); have hcc := specJoin _ (hA.out.netIs 2 rfl h0n h0m h0x) (hA.out.rt 1 rfl h1n) (hA.out.rt 0 rfl h2n) s1 s2; with_reducible refine hcc.mono ?_; clear hcc; rintro e wwr ⟨Aw0, cw0, rfl, ho0, hb⟩; have hR := hA.out.owns hb ho0; have hclwr : Cls W3 _ := Cls.next hb (by assumption); clear hA)))
    rw [hL0] at hR
    have hS8 := hR.blk_ wwr.heap.size rfl 37 #[.int .i64 (jnS xs0 fs0 s1 l1 s2 l2), .slice Aw0 L0.length cw0]
    have hS9 := hS8.pick [0, 1, 2, 3, 4, 5, 6, 7] (by decide) rfl
    simp only [List.filterMap_cons, List.filterMap_nil, List.getElem?_cons_zero, List.getElem?_cons_succ] at hS9
    clear hS8 hR HL C0 C1 C2 C3 C4 C5 hb hclwr ho0 hLw0 hb_w0 hclw0 ho_w0 hLw1 hb_w1 hclw1 ho_w1 hLw2 hb_w2 hclw2 ho_w2
    obtain ⟨W4, hWn⟩ : ∃ W, W = wwr.alloc (.cells #[.int .i64 (jnS xs0 fs0 s1 l1 s2 l2), .slice Aw0 L0.length cw0] 37) := ⟨_, rfl⟩
    rw [← hWn] at hS9 ⊢
    clear hWn
    obtain ⟨gZw, hgn⟩ : ∃ g : Nat, g = wwr.heap.size := ⟨_, rfl⟩
    rw [← hgn] at hS9 ⊢
    clear hgn
    generalize (W3.drew).heap.size = bsw0 at hS9
    generalize ww0.heap.size = bsw1 at hS9
    generalize ww1.heap.size = bsw2 at hS9
    generalize ww2.heap.size = bsw3 at hS9
    repeat (rename_i hh; clear hh)
    revert hS9
    revert W4
    revert gZw
    revert bsw0
    revert bsw1
    revert bsw2
    revert bsw3
    revert Awt0
    revert cwt0
    revert Ewt0
    revert dwt0
    revert Awt1
    revert cwt1
    revert Awt2
    revert cwt2
    revert Aw0
    revert cw0
    exact rest.out
    rw [hL0] at hR
    have hS8 := ((hR.set 1 rfl 0 (.int .i64 (jnS xs0 fs0 s1 l1 s2 l2))).set 1 rfl 1 (.slice Aw0 L0.length cw0))
    have hS9 := hS8.pick [1, 0, 2, 3, 4, 5, 6, 7] (by decide) rfl
    simp only [List.filterMap_cons, List.filterMap_nil, List.getElem?_cons_zero, List.getElem?_cons_succ, List.set_cons_zero, List.set_cons_succ] at hS9
    clear hS8 hR HL C0 C1 C2 C3 C4 C5 hb hclwr ho0 hLw0 hb_w0 hclw0 ho_w0 hLw1 hb_w1 hclw1 ho_w1 hLw2 hb_w2 hclw2 ho_w2 q0 z0 q1 z1
    obtain ⟨W4, hWn⟩ : ∃ W, W = ((wwr.setCell ⟨ww2.heap.size, 0, none⟩ (.int .i64 (jnS xs0 fs0 s1 l1 s2 l2))).setCell ⟨ww2.heap.size, 1, none⟩ (.slice Aw0 L0.length cw0)) := ⟨_, rfl⟩
    rw [← hWn] at hS9 ⊢
    clear hWn
    obtain ⟨gZw, hgn⟩ : ∃ g : Nat, g = ww2.heap.size := ⟨_, rfl⟩
    rw [← hgn] at hS9 ⊢
    clear hgn
    generalize (W3.drew).heap.size = bsw0 at hS9
    generalize ww0.heap.size = bsw1 at hS9
    generalize ww1.heap.size = bsw2 at hS9
    generalize (ww2.alloc (.cells #[.int .i64 0, .slice none 0 0] 37)).heap.size = bsw3 at hS9
    repeat (rename_i hh; clear hh)
    revert hS9
    revert W4
    revert gZw
    revert bsw0
    revert bsw1
    revert bsw2
    revert bsw3
    revert Awt0
    revert cwt0
    revert Ewt0
    revert dwt0
    revert Awt1
    revert cwt1
    revert Awt2
    revert cwt2
    revert Aw0
    revert cw0
    exact rest.out
    rw [hL0] at hR
    have hS8 := ((hR.set 2 rfl 0 (.int .i64 (jnS xs0 fs0 s1 l1 s2 l2))).set 2 rfl 1 (.slice Aw0 L0.length cw0))
    have hS9 := hS8.pick [2, 0, 1, 3, 4, 5, 6, 7] (by decide) rfl
    simp only [List.filterMap_cons, List.filterMap_nil, List.getElem?_cons_zero, List.getElem?_cons_succ, List.set_cons_zero, List.set_cons_succ] at hS9
    clear hS8 hR HL C0 C1 C2 C3 C4 C5 hb hclwr ho0 hLw0 hb_w0 hclw0 ho_w0 hLw1 hb_w1 hclw1 ho_w1 hLw2 hb_w2 hclw2 ho_w2 q0 z0 q1 z1
    obtain ⟨W4, hWn⟩ : ∃ W, W = ((wwr.setCell ⟨ww1.heap.size, 0, none⟩ (.int .i64 (jnS xs0 fs0 s1 l1 s2 l2))).setCell ⟨ww1.heap.size, 1, none⟩ (.slice Aw0 L0.length cw0)) := ⟨_, rfl⟩
    rw [← hWn] at hS9 ⊢
    clear hWn
    obtain ⟨gZw, hgn⟩ : ∃ g : Nat, g = ww1.heap.size := ⟨_, rfl⟩
    rw [← hgn] at hS9 ⊢
    clear hgn
    generalize (W3.drew).heap.size = bsw0 at hS9
    generalize ww0.heap.size = bsw1 at hS9
    generalize (ww1.alloc (.cells #[.int .i64 0, .slice none 0 0] 37)).heap.size = bsw2 at hS9
    generalize ww2.heap.size = bsw3 at hS9
    repeat (rename_i hh; clear hh)
    revert hS9
    revert W4
    revert gZw
    revert bsw0
    revert bsw1
    revert bsw2
    revert bsw3
    revert Awt0
    revert cwt0
    revert Ewt0
    revert dwt0
    revert Awt1
    revert cwt1
    revert Awt2
    revert cwt2
    revert Aw0
    revert cw0
    exact rest.out
    rw [hL0] at hR
    have hS8 := ((hR.set 3 rfl 0 (.int .i64 (jnS xs0 fs0 s1 l1 s2 l2))).set 3 rfl 1 (.slice Aw0 L0.length cw0))
    have hS9 := hS8.pick [3, 0, 1, 2, 4, 5, 6, 7] (by decide) rfl
    simp only [List.filterMap_cons, List.filterMap_nil, List.getElem?_cons_zero, List.getElem?_cons_succ, List.set_cons_zero, List.set_cons_succ] at hS9
    clear hS8 hR HL C0 C1 C2 C3 C4 C5 hb hclwr ho0 hLw0 hb_w0 hclw0 ho_w0 hLw1 hb_w1 hclw1 ho_w1 hLw2 hb_w2 hclw2 ho_w2 q0 z0 q1 z1
    obtain ⟨W4, hWn⟩ : ∃ W, W = ((wwr.setCell ⟨ww0.heap.size, 0, none⟩ (.int .i64 (jnS xs0 fs0 s1 l1 s2 l2))).setCell ⟨ww0.heap.size, 1, none⟩ (.slice Aw0 L0.length cw0)) := ⟨_, rfl⟩
    rw [← hWn] at hS9 ⊢
    clear hWn
    obtain ⟨gZw, hgn⟩ : ∃ g : Nat, g = ww0.heap.size := ⟨_, rfl⟩
    rw [← hgn] at hS9 ⊢
    clear hgn
    generalize (W3.drew).heap.size = bsw0 at hS9
    generalize (ww0.alloc (.cells #[.int .i64 0, .slice none 0 0] 37)).heap.size = bsw1 at hS9
    generalize ww1.heap.size = bsw2 at hS9
    generalize ww2.heap.size = bsw3 at hS9
    repeat (rename_i hh; clear hh)
    revert hS9
    revert W4
    revert gZw
    revert bsw0
    revert bsw1
    revert bsw2
    revert bsw3
    revert Awt0
    revert cwt0
    revert Ewt0
    revert dwt0
    revert Awt1
    revert cwt1
    revert Awt2
    revert cwt2
    revert Aw0
    revert cw0
    exact rest.out
    rw [hL0] at hR
    have hS8 := ((hR.set 4 rfl 0 (.int .i64 (jnS xs0 fs0 s1 l1 s2 l2))).set 4 rfl 1 (.slice Aw0 L0.length cw0))
    have hS9 := hS8.pick [4, 0, 1, 2, 3, 5, 6, 7] (by decide) rfl
    simp only [List.filterMap_cons, List.filterMap_nil, List.getElem?_cons_zero, List.getElem?_cons_succ, List.set_cons_zero, List.set_cons_succ] at hS9
    clear hS8 hR HL C0 C1 C2 C3 C4 C5 hb hclwr ho0 hLw0 hb_w0 hclw0 ho_w0 hLw1 hb_w1 hclw1 ho_w1 hLw2 hb_w2 hclw2 ho_w2 q0 z0 q1 z1
    obtain ⟨W4, hWn⟩ : ∃ W, W = ((wwr.setCell ⟨W3.heap.size, 0, none⟩ (.int .i64 (jnS xs0 fs0 s1 l1 s2 l2))).setCell ⟨W3.heap.size, 1, none⟩ (.slice Aw0 L0.length cw0)) := ⟨_, rfl⟩
    rw [← hWn] at hS9 ⊢
    clear hWn
    obtain ⟨gZw, hgn⟩ : ∃ g : Nat, g = W3.heap.size := ⟨_, rfl⟩
    rw [← hgn] at hS9 ⊢
    clear hgn
    generalize ((W3.alloc (.cells #[.int .i64 0, .slice none 0 0] 37)).drew).heap.size = bsw0 at hS9
    generalize ww0.heap.size = bsw1 at hS9
    generalize ww1.heap.size = bsw2 at hS9
    generalize ww2.heap.size = bsw3 at hS9
    repeat (rename_i hh; clear hh)
    revert hS9
    revert W4
    revert gZw
    revert bsw0
    revert bsw1
    revert bsw2
    revert bsw3
    revert Awt0
    revert cwt0
    revert Ewt0
    revert dwt0
    revert Awt1
    revert cwt1
    revert Awt2
    revert cwt2
    revert Aw0
    revert cw0
    exact rest.out
  clear hS
  intro cw0 Aw0 cwt2 Awt2 cwt1 Awt1 dwt0 Ewt0 cwt0 Awt0 bsw3 bsw2 bsw1 bsw0 gZw W4 hS
  -- the program on copies that are kept
  have q0 := hS.cell 7 0 rfl rfl
  have q1 := hS.cell 7 1 rfl rfl
  go_wp2_with fail
  refine (toNetwork_own _ (h0I.out.grow hS.bl).strs (h0I.out.grow hS.bl).fibs (Nat.le_refl _) h0n h0m).mono ?_
  rintro e W5 ⟨Ax0, cx0, Ex0, dx0, rfl, ho, hb⟩
  replace hS := hS.net hb ho
  clear hb ho
  clear q0 q1
  replace hS := hS.blk_ (W5.heap.size) (by simp) 35 #[.slice Ax0 n0 cx0, .slice Ex0 m0 dx0]
  have q0 := hS.cell 8 0 rfl rfl
  have q1 := hS.cell 8 1 rfl rfl
  go_wp2_with fail
  refine (toRoute_any s1 _ (h1I.out.grow hS.bl).2 (Nat.le_refl _) h1n).mono ?_
  rintro e W6 ⟨Ax1, cx1, rfl, _, ho, hb⟩
  replace hS := hS.owns hb ho
  clear hb ho
  clear q0 q1
  replace hS := hS.blk_ (W6.heap.size) (by simp) 37 #[.int .i64 s1, .slice Ax1 l1.length cx1]
  have q0 := hS.cell 9 0 rfl rfl
  have q1 := hS.cell 9 1 rfl rfl
  go_wp2_with fail
  refine (toRoute_any s2 _ (h2I.out.grow hS.bl).2 (Nat.le_refl _) h2n).mono ?_
  rintro e W7 ⟨Ax2, cx2, rfl, _, ho, hb⟩
  replace hS := hS.owns hb ho
  clear hb ho
  clear q0 q1
  replace hS := hS.blk_ (W7.heap.size) (by simp) 37 #[.int .i64 s2, .slice Ax2 l2.length cx2]
  have q0 := hS.cell 4 0 rfl rfl
  have q1 := hS.cell 4 1 rfl rfl
  have q2 := hS.cell 2 0 rfl rfl
  have q3 := hS.cell 2 1 rfl rfl
  go_wp2_with fail
  refine (implJoin _ (hS.netIs 5 rfl h0n h0m h0x) (hS.rt 3 rfl h1n) (hS.rt 1 rfl h2n) s1 s2).mono ?_
  rintro e W8 ⟨Ag0, cg0, rfl, ho0, hb⟩
  rw [hL0] at ho0
  replace hS := hS.owns hb ho0
  clear hb ho0
  clear q0 q1 q2 q3
  replace hS := hS.blk_ (W8.heap.size) (by simp) 37 #[.int .i64 (jnS xs0 fs0 s1 l1 s2 l2), .slice Ag0 L0.length cg0]
  -- the results are equal
  have q0 := hS.cell 8 0 rfl rfl
  have q1 := hS.cell 8 1 rfl rfl
  go_wp2_with fail
  refine (eqR_led hS 1 9 rfl rfl (jnS xs0 fs0 s1 l1 s2 l2) hlen0.out).mono ?_
  rintro e W9 ⟨rfl, hS1⟩; replace hS := hS1; clear hS1
  clear q0 q1
  -- the arguments are as they were
  have C0 : ∀ w', Cls W9 w' → w'.cell? ⟨w.heap.size, 0, none⟩ = some (.slice A0 n0 c0) := fun _ h => h.cell (hS.cell 15 0 rfl rfl)
  have C1 : ∀ w', Cls W9 w' → w'.cell? ⟨w.heap.size, 1, none⟩ = some (.slice E0 m0 d0) := fun _ h => h.cell (hS.cell 15 1 rfl rfl)
  have C2 : ∀ w', Cls W9 w' → w'.cell? ⟨W5.heap.size, 0, none⟩ = some (.slice Ax0 n0 cx0) := fun _ h => h.cell (hS.cell 6 0 rfl rfl)
  have C3 : ∀ w', Cls W9 w' → w'.cell? ⟨W5.heap.size, 1, none⟩ = some (.slice Ex0 m0 dx0) := fun _ h => h.cell (hS.cell 6 1 rfl rfl)
  have HL := hid (fun w' (h : Cls W9 w') => hS.step h)
  go_wp2_with fail
  go_region_held3 (fun w' => Cls W9 w') (first | exact Cls.drew _ | exact Cls.next (by assumption) (by assumption))
    (first
      | (go_at_call 18; refine (toNetwork_own _ (h0I.out.grow (HL.out _ (by assumption)).bl).strs (h0I.out.grow (HL.out _ (by assumption)).bl).fibs (Nat.le_refl _) h0n h0m).mono ?_; rintro e w' ⟨Ay0, cy0, Ey0, dy0, rfl, ho1, hb1⟩; have hL1 := (HL.out _ (by assumption)).net hb1 ho1)
      | (go_at_call 21; refine (eqN_led2 hL1 8 0 rfl rfl h0n h0m).mono ?_; rintro e w' ⟨rfl, hS2, hb2⟩))
  clear HL hL1 ho1 hb1 hb2 C0 C1 C2 C3
  replace hS := hS2.drop 1
  clear hS2
  dsimp only [List.drop] at hS
  generalize w' = W10 at *
  have C0 : ∀ w', Cls W10 w' → w'.cell? ⟨w.heap.size + 1, 0, none⟩ = some (.int .i64 s1) := fun _ h => h.cell (hS.cell 14 0 rfl rfl)
  have C1 : ∀ w', Cls W10 w' → w'.cell? ⟨w.heap.size + 1, 1, none⟩ = some (.slice A1 l1.length c1) := fun _ h => h.cell (hS.cell 14 1 rfl rfl)
  have C2 : ∀ w', Cls W10 w' → w'.cell? ⟨W6.heap.size, 0, none⟩ = some (.int .i64 s1) := fun _ h => h.cell (hS.cell 4 0 rfl rfl)
  have C3 : ∀ w', Cls W10 w' → w'.cell? ⟨W6.heap.size, 1, none⟩ = some (.slice Ax1 l1.length cx1) := fun _ h => h.cell (hS.cell 4 1 rfl rfl)
  have HL := hid (fun w' (h : Cls W10 w') => hS.step h)
  go_wp2_with fail
  go_region_held3 (fun w' => Cls W10 w') (first | exact Cls.drew _ | exact Cls.next (by assumption) (by assumption))
    (first
      | (go_at_call 19; refine (toRoute_any s1 _ (h1I.out.grow (HL.out _ (by assumption)).bl).2 (Nat.le_refl _) h1n).mono ?_; rintro e w' ⟨Ay1, cy1, rfl, _, ho1, hb1⟩; have hL1 := (HL.out _ (by assumption)).owns hb1 ho1)
      | (go_at_call 22; refine (eqR_led2 hL1 6 0 rfl rfl s1 h1n).mono ?_; rintro e w' ⟨rfl, hS2, hb2⟩))
  clear HL hL1 ho1 hb1 hb2 C0 C1 C2 C3
  replace hS := hS2.drop 1
  clear hS2
  dsimp only [List.drop] at hS
  generalize w' = W11 at *
  have C0 : ∀ w', Cls W11 w' → w'.cell? ⟨w.heap.size + 1 + 1, 0, none⟩ = some (.int .i64 s2) := fun _ h => h.cell (hS.cell 13 0 rfl rfl)
  have C1 : ∀ w', Cls W11 w' → w'.cell? ⟨w.heap.size + 1 + 1, 1, none⟩ = some (.slice A2 l2.length c2) := fun _ h => h.cell (hS.cell 13 1 rfl rfl)
  have C2 : ∀ w', Cls W11 w' → w'.cell? ⟨W7.heap.size, 0, none⟩ = some (.int .i64 s2) := fun _ h => h.cell (hS.cell 2 0 rfl rfl)
  have C3 : ∀ w', Cls W11 w' → w'.cell? ⟨W7.heap.size, 1, none⟩ = some (.slice Ax2 l2.length cx2) := fun _ h => h.cell (hS.cell 2 1 rfl rfl)
  have HL := hid (fun w' (h : Cls W11 w') => hS.step h)
  go_wp2_with fail
  go_region_held3 (fun w' => Cls W11 w') (first | exact Cls.drew _ | exact Cls.next (by assumption) (by assumption))
    (first
      | (go_at_call 19; refine (toRoute_any s2 _ (h2I.out.grow (HL.out _ (by assumption)).bl).2 (Nat.le_refl _) h2n).mono ?_; rintro e w' ⟨Ay2, cy2, rfl, _, ho1, hb1⟩; have hL1 := (HL.out _ (by assumption)).owns hb1 ho1)
      | (go_at_call 22; refine (eqR_led2 hL1 4 0 rfl rfl s2 h2n).mono ?_; rintro e w' ⟨rfl, hS2, hb2⟩))
  clear HL hL1 ho1 hb1 hb2 C0 C1 C2 C3
  replace hS := hS2.drop 1
  clear hS2
  dsimp only [List.drop] at hS
  generalize w' = W12 at *
  -- marks
  have q0 := hS.cell 6 0 rfl rfl
  have q1 := hS.cell 6 1 rfl rfl
  go_wp2_with fail
  refine (markN_led hS 7 rfl _ h0n h0m (by omega) (by omega)).mono ?_
  rintro e W13 ⟨rfl, hS1⟩; replace hS := hS1; clear hS1; dsimp only [List.set] at hS
  clear q0 q1
  have q0 := hS.cell 4 0 rfl rfl
  have q1 := hS.cell 4 1 rfl rfl
  go_wp2_with fail
  refine (markR_led hS 5 rfl s1 _ h1n (by omega) (by omega)).mono ?_
  rintro e W14 ⟨rfl, hS1⟩; replace hS := hS1; clear hS1; dsimp only [List.set] at hS
  clear q0 q1
  have q0 := hS.cell 2 0 rfl rfl
  have q1 := hS.cell 2 1 rfl rfl
  go_wp2_with fail
  refine (markR_led hS 3 rfl s2 _ h2n (by omega) (by omega)).mono ?_
  rintro e W15 ⟨rfl, hS1⟩; replace hS := hS1; clear hS1; dsimp only [List.set] at hS
  clear q0 q1
  have q0 := hS.cell 0 0 rfl rfl
  have q1 := hS.cell 0 1 rfl rfl
  have q2 := hS.cell 8 0 rfl rfl
  have q3 := hS.cell 8 1 rfl rfl
  go_wp2_with fail
  refine (eqR_led hS 1 9 rfl rfl (jnS xs0 fs0 s1 l1 s2 l2) hlen0.out).mono ?_
  rintro e W16 ⟨rfl, hS1⟩; replace hS := hS1; clear hS1
  clear q0 q1 q2 q3
  have q0 := hS.cell 0 0 rfl rfl
  have q1 := hS.cell 0 1 rfl rfl
  go_wp2_with fail
  refine (markR_led hS 1 rfl (jnS xs0 fs0 s1 l1 s2 l2) _ hlen0.out (by have := hlen0.out; omega) (by have := hlen0.out; omega)).mono ?_
  rintro e W17 ⟨rfl, hS1⟩; replace hS := hS1; clear hS1; dsimp only [List.set] at hS
  clear q0 q1
  have q0 := hS.cell 0 0 rfl rfl
  have q1 := hS.cell 0 1 rfl rfl
  go_wp2_with fail
  refine (heldR_led hS 1 (jnS xs0 fs0 s1 l1 s2 l2) _ rfl hlen0.out (by have := hlen0.out; omega) (by have := hlen0.out; omega)).mono ?_
  rintro e W18 ⟨rfl, hS1⟩; replace hS := hS1; clear hS1
  clear q0 q1
  -- once more
  go_wp2_with fail
  apply share
  · intro rest
    have C0 : ∀ w', Cls W18 w' → w'.cell? ⟨w.heap.size, 0, none⟩ = some (.slice A0 n0 c0) := fun _ h => h.cell (hS.cell 15 0 rfl rfl)
    have C1 : ∀ w', Cls W18 w' → w'.cell? ⟨w.heap.size, 1, none⟩ = some (.slice E0 m0 d0) := fun _ h => h.cell (hS.cell 15 1 rfl rfl)
    have C2 : ∀ w', Cls W18 w' → w'.cell? ⟨w.heap.size + 1, 0, none⟩ = some (.int .i64 s1) := fun _ h => h.cell (hS.cell 14 0 rfl rfl)
    have C3 : ∀ w', Cls W18 w' → w'.cell? ⟨w.heap.size + 1, 1, none⟩ = some (.slice A1 l1.length c1) := fun _ h => h.cell (hS.cell 14 1 rfl rfl)
    have C4 : ∀ w', Cls W18 w' → w'.cell? ⟨w.heap.size + 1 + 1, 0, none⟩ = some (.int .i64 s2) := fun _ h => h.cell (hS.cell 13 0 rfl rfl)
    have C5 : ∀ w', Cls W18 w' → w'.cell? ⟨w.heap.size + 1 + 1, 1, none⟩ = some (.slice A2 l2.length c2) := fun _ h => h.cell (hS.cell 13 1 rfl rfl)
    have HL := hid (fun w' (h : Cls W18 w') => hS.step h)
    go_region_held3 (fun w' => Cls W18 w') (first | exact Cls.refl _ | exact Cls.drew _ | assumption | exact Cls.next (by assumption) (by assumption) | exact bl_alloc (by assumption) _ | exact bl_alloc (Cls.drew _) _ | exact (bl_alloc (Cls.refl _) _).drew | exact bl_set (bl_set (by assumption) _ (by first | exact Nat.le_refl _ | exact Below.size hclh0 | exact Below.size hclh1 | exact Below.size hclh2)) _ (by first | exact Nat.le_refl _ | exact Below.size hclh0 | exact Below.size hclh1 | exact Below.size hclh2))
      (first
        | (go_at_call 18; first
            | (have hA := hid (((HL.out W18 (Cls.refl _)).blk_ W18.heap.size rfl 37 #[.int .i64 0, .slice none 0 0]).step (Cls.drew _)); have hcc := (toNetwork_own (c := c0) (d := d0) ((W18.alloc (.cells #[.int .i64 0, .slice none 0 0] 37)).drew) (h0I.out.grow hA.out.bl).strs (h0I.out.grow hA.out.bl).fibs (Nat.le_refl _) h0n h0m); with_reducible refine hcc.mono ?_; clear hcc; rintro e wh0 ⟨Aht0, cht0, Eht0, dht0, rfl, ho_h0, hb_h0⟩; have hLh0 := hA.out.net hb_h0 ho_h0; have hclh0 : Cls W18 _ := Cls.next hb_h0 (by assumption); clear hA)
            | (have hA := hid (HL.out W18.drew (Cls.drew _)); have hcc := (toNetwork_own (c := c0) (d := d0) (W18.drew) (h0I.out.grow hA.out.bl).strs (h0I.out.grow hA.out.bl).fibs (Nat.le_refl _) h0n h0m); with_reducible refine hcc.mono ?_; clear hcc; rintro e wh0 ⟨Aht0, cht0, Eht0, dht0, rfl, ho_h0, hb_h0⟩; have hLh0 := hA.out.net hb_h0 ho_h0; have hclh0 : Cls W18 _ := Cls.next hb_h0 (by assumption); clear hA))
        | (go_at_call_of 19 (Value.slice A1 l1.length c1); first
            | (have hA := hid (hLh0.blk_ wh0.heap.size rfl 37 #[.int .i64 0, .slice none 0 0]); have hcc := (toRoute_any (er := c1) s1 (wh0.alloc (.cells #[.int .i64 0, .slice none 0 0] 37)) (h1I.out.grow hA.out.bl).2 (Nat.le_refl _) h1n); with_reducible refine hcc.mono ?_; clear hcc; rintro e wh1 ⟨Aht1, cht1, rfl, -, ho_h1, hb_h1⟩; have hLh1 := hA.out.owns hb_h1 ho_h1; have hclh1 : Cls W18 _ := Cls.next hb_h1 (by assumption); clear hA)
            | (have hA := hid (hLh0); have hcc := (toRoute_any (er := c1) s1 wh0 (h1I.out.grow hA.out.bl).2 (Nat.le_refl _) h1n); with_reducible refine hcc.mono ?_; clear hcc; rintro e wh1 ⟨Aht1, cht1, rfl, -, ho_h1, hb_h1⟩; have hLh1 := hA.out.owns hb_h1 ho_h1; have hclh1 : Cls W18 _ := Cls.next hb_h1 (by assumption); clear hA))
        | (go_at_call_of 19 (Value.slice A2 l2.length c2); first
            | (have hA := hid (hLh1.blk_ wh1.heap.size rfl 37 #[.int .i64 0, .slice none 0 0]); have hcc := (toRoute_any (er := c2) s2 (wh1.alloc (.cells #[.int .i64 0, .slice none 0 0] 37)) (h2I.out.grow hA.out.bl).2 (Nat.le_refl _) h2n); with_reducible refine hcc.mono ?_; clear hcc; rintro e wh2 ⟨Aht2, cht2, rfl, -, ho_h2, hb_h2⟩; have hLh2 := hA.out.owns hb_h2 ho_h2; have hclh2 : Cls W18 _ := Cls.next hb_h2 (by assumption); clear hA)
            | (have hA := hid (hLh1); have hcc := (toRoute_any (er := c2) s2 wh1 (h2I.out.grow hA.out.bl).2 (Nat.le_refl _) h2n); with_reducible refine hcc.mono ?_; clear hcc; rintro e wh2 ⟨Aht2, cht2, rfl, -, ho_h2, hb_h2⟩; have hLh2 := hA.out.owns hb_h2 ho_h2; have hclh2 : Cls W18 _ := Cls.next hb_h2 (by assumption); clear hA))
        | (go_at_call 29; first
            | (have hA := hid (hLh2.blk_ wh2.heap.size rfl 37 #[.int .i64 0, .slice none 0 0]); have hcc := implJoin _ (hA.out.netIs 3 rfl h0n h0m h0x) (hA.out.rt 2 rfl h1n) (hA.out.rt 1 rfl h2n) s1 s2; with_reducible refine hcc.mono ?_; clear hcc; rintro e whr ⟨Ah0, ch0, rfl, ho0, hb⟩; have hR := hA.out.owns hb ho0; have hclhr : Cls W18 _ := Cls.next hb (by assumption); have q0 : whr.cell? _ = some (.int .i64 0) := hR.cell 1 0 rfl rfl; have z0 := hR.frozen 1 0 rfl; have q1 : whr.cell? _ = some (.slice none 0 0) := hR.cell 1 1 rfl rfl; have z1 := hR.frozen 1 1 rfl; clear hA)
            | (have hA := hid (hLh2); have hcc := implJoin _ (hA.out.netIs 3 rfl h0n h0m h0x) (hA.out.rt 2 rfl h1n) (hA.out.rt 0 rfl h2n) s1 s2; with_reducible refine hcc.mono ?_; clear hcc; rintro e whr ⟨Ah0, ch0, rfl, ho0, hb⟩; have hR := hA.out.owns hb ho0; have hclhr : Cls W18 _ := Cls.next hb (by assumption); have q0 : whr.cell? _ = some (.int .i64 0) := hR.cell 2 0 rfl rfl; have z0 := hR.frozen 2 0 rfl; have q1 : whr.cell? _ = some (.slice none 0 0) := hR.cell 2 1 rfl rfl; have z1 := hR.frozen 2 1 rfl; clear hA)
            | (have hA := hid (hLh2); have hcc := implJoin _ (hA.out.netIs 3 rfl h0n h0m h0x) (hA.out.rt 1 rfl h1n) (hA.out.rt 0 rfl h2n) s1 s2; with_reducible refine hcc.mono ?_; clear hcc; rintro e whr ⟨Ah0, ch0, rfl, ho0, hb⟩; have hR := hA.out.owns hb ho0; have hclhr : Cls W18 _ := Cls.next hb (by assumption); have q0 : whr.cell? _ = some (.int .i64 0) := hR.cell 3 0 rfl rfl; have z0 := hR.frozen 3 0 rfl; have q1 : whr.cell? _ = some (.slice none 0 0) := hR.cell 3 1 rfl rfl; have z1 := hR.frozen 3 1 rfl; clear hA)
            | (have hA := hid (hLh2); have hcc := implJoin _ (hA.out.netIs 2 rfl h0n h0m h0x) (hA.out.rt 1 rfl h1n) (hA.out.rt 0 rfl h2n) s1 s2; with_reducible refine hcc.mono ?_; clear hcc; rintro e whr ⟨Ah0, ch0, rfl, ho0, hb⟩; have hR := hA.out.owns hb ho0; have hclhr : Cls W18 _ := Cls.next hb (by assumption); have q0 : whr.cell? _ = some (.int .i64 0) := hR.cell 4 0 rfl rfl; have z0 := hR.frozen 4 0 rfl; have q1 : whr.cell? _ = some (.slice none 0 0) := hR.cell 4 1 rfl rfl; have z1 := hR.frozen 4 1 rfl; clear hA)
            | (have hA := hid (hLh2); have hcc := implJoin _ (hA.out.netIs 2 rfl h0n h0m h0x) (hA.out.rt 1 rfl h1n) (hA.out.rt 0 rfl h2n) s1 s2; with_reducible refine hcc.mono ?_; clear hcc; rintro e whr ⟨Ah0, ch0, rfl, ho0, hb⟩; have hR := hA.out.owns hb ho0; have hclhr : Cls W18 _ := Cls.next hb (by assumption); clear hA)))
    rw [hL0] at hR
    have hS8 := hR.blk_ whr.heap.size rfl 37 #[.int .i64 (jnS xs0 fs0 s1 l1 s2 l2), .slice Ah0 L0.length ch0]
    have hS9 := hS8.pick [0, 1, 2, 3, 4, 5, 6, 7, 8, 9, 10, 11, 12, 13, 14, 15, 16, 17, 18, 19, 20] (by decide) rfl
    simp only [List.filterMap_cons, List.filterMap_nil, List.getElem?_cons_zero, List.getElem?_cons_succ] at hS9
    clear hS8 hR HL C0 C1 C2 C3 C4 C5 hb hclhr ho0 hLh0 hb_h0 hclh0 ho_h0 hLh1 hb_h1 hclh1 ho_h1 hLh2 hb_h2 hclh2 ho_h2
    obtain ⟨W19, hWn⟩ : ∃ W, W = whr.alloc (.cells #[.int .i64 (jnS xs0 fs0 s1 l1 s2 l2), .slice Ah0 L0.length ch0] 37) := ⟨_, rfl⟩
    rw [← hWn] at hS9 ⊢
    clear hWn
    obtain ⟨gZh, hgn⟩ : ∃ g : Nat, g = whr.heap.size := ⟨_, rfl⟩
    rw [← hgn] at hS9 ⊢
    clear hgn
    generalize (W18.drew).heap.size = bsh0 at hS9
    generalize wh0.heap.size = bsh1 at hS9
    generalize wh1.heap.size = bsh2 at hS9
    generalize wh2.heap.size = bsh3 at hS9
    repeat (rename_i hh; clear hh)
    revert hS9
    revert W19
    revert gZh
    revert bsh0
    revert bsh1
    revert bsh2
    revert bsh3
    revert Aht0
    revert cht0
    revert Eht0
    revert dht0
    revert Aht1
    revert cht1
    revert Aht2
    revert cht2
    revert Ah0
    revert ch0
    exact rest.out
    rw [hL0] at hR
    have hS8 := ((hR.set 1 rfl 0 (.int .i64 (jnS xs0 fs0 s1 l1 s2 l2))).set 1 rfl 1 (.slice Ah0 L0.length ch0))
    have hS9 := hS8.pick [1, 0, 2, 3, 4, 5, 6, 7, 8, 9, 10, 11, 12, 13, 14, 15, 16, 17, 18, 19, 20] (by decide) rfl
    simp only [List.filterMap_cons, List.filterMap_nil, List.getElem?_cons_zero, List.getElem?_cons_succ, List.set_cons_zero, List.set_cons_succ] at hS9
    clear hS8 hR HL C0 C1 C2 C3 C4 C5 hb hclhr ho0 hLh0 hb_h0 hclh0 ho_h0 hLh1 hb_h1 hclh1 ho_h1 hLh2 hb_h2 hclh2 ho_h2 q0 z0 q1 z1
    obtain ⟨W19, hWn⟩ : ∃ W, W = ((whr.setCell ⟨wh2.heap.size, 0, none⟩ (.int .i64 (jnS xs0 fs0 s1 l1 s2 l2))).setCell ⟨wh2.heap.size, 1, none⟩ (.slice Ah0 L0.length ch0)) := ⟨_, rfl⟩
    rw [← hWn] at hS9 ⊢
    clear hWn
    obtain ⟨gZh, hgn⟩ : ∃ g : Nat, g = wh2.heap.size := ⟨_, rfl⟩
    rw [← hgn] at hS9 ⊢
    clear hgn
    generalize (W18.drew).heap.size = bsh0 at hS9
    generalize wh0.heap.size = bsh1 at hS9
    generalize wh1.heap.size = bsh2 at hS9
    generalize (wh2.alloc (.cells #[.int .i64 0, .slice none 0 0] 37)).heap.size = bsh3 at hS9
    repeat (rename_i hh; clear hh)
    revert hS9
    revert W19
    revert gZh
    revert bsh0
    revert bsh1
    revert bsh2
    revert bsh3
    revert Aht0
    revert cht0
    revert Eht0
    revert dht0
    revert Aht1
    revert cht1
    revert Aht2
    revert cht2
    revert Ah0
    revert ch0
    exact rest.out
    rw [hL0] at hR
    have hS8 := ((hR.set 2 rfl 0 (.int .i64 (jnS xs0 fs0 s1 l1 s2 l2))).set 2 rfl 1 (.slice Ah0 L0.length ch0))
    have hS9 := hS8.pick [2, 0, 1, 3, 4, 5, 6, 7, 8, 9, 10, 11, 12, 13, 14, 15, 16, 17, 18, 19, 20] (by decide) rfl
    simp only [List.filterMap_cons, List.filterMap_nil, List.getElem?_cons_zero, List.getElem?_cons_succ, List.set_cons_zero, List.set_cons_succ] at hS9
    clear hS8 hR HL C0 C1 C2 C3 C4 C5 hb hclhr ho0 hLh0 hb_h0 hclh0 ho_h0 hLh1 hb_h1 hclh1 ho_h1 hLh2 hb_h2 hclh2 ho_h2 q0 z0 q1 z1
    obtain ⟨W19, hWn⟩ : ∃ W, W = ((whr.setCell ⟨wh1.heap.size, 0, none⟩ (.int .i64 (jnS xs0 fs0 s1 l1 s2 l2))).setCell ⟨wh1.heap.size, 1, none⟩ (.slice Ah0 L0.length ch0)) := ⟨_, rfl⟩
    rw [← hWn] at hS9 ⊢
    clear hWn
    obtain ⟨gZh, hgn⟩ : ∃ g : Nat, g = wh1.heap.size := ⟨_, rfl⟩
    rw [← hgn] at hS9 ⊢
    clear hgn
    generalize (W18.drew).heap.size = bsh0 at hS9
    generalize wh0.heap.size = bsh1 at hS9
    generalize (wh1.alloc (.cells #[.int .i64 0, .slice none 0 0] 37)).heap.size = bsh2 at hS9
    generalize wh2.heap.size = bsh3 at hS9
    repeat (rename_i hh; clear hh)
    revert hS9
    revert W19
    revert gZh
    revert bsh0
    revert bsh1
    revert bsh2
    revert bsh3
    revert Aht0
    revert cht0
    revert Eht0
    revert dht0
    revert Aht1
    revert cht1
    revert Aht2
    revert cht2
    revert Ah0
    revert ch0
    exact rest.out
    rw [hL0] at hR
    have hS8 := ((hR.set 3 rfl 0 (.int .i64 (jnS xs0 fs0 s1 l1 s2 l2))).set 3 rfl 1 (.slice Ah0 L0.length ch0))
    have hS9 := hS8.pick [3, 0, 1, 2, 4, 5, 6, 7, 8, 9, 10, 11, 12, 13, 14, 15, 16, 17, 18, 19, 20] (by decide) rfl
    simp only [List.filterMap_cons, List.filterMap_nil, List.getElem?_cons_zero, List.getElem?_cons_succ, List.set_cons_zero, List.set_cons_succ] at hS9
    clear hS8 hR HL C0 C1 C2 C3 C4 C5 hb hclhr ho0 hLh0 hb_h0 hclh0 ho_h0 hLh1 hb_h1 hclh1 ho_h1 hLh2 hb_h2 hclh2 ho_h2 q0 z0 q1 z1
    obtain ⟨W19, hWn⟩ : ∃ W, W = ((whr.setCell ⟨wh0.heap.size, 0, none⟩ (.int .i64 (jnS xs0 fs0 s1 l1 s2 l2))).setCell ⟨wh0.heap.size, 1, none⟩ (.slice Ah0 L0.length ch0)) := ⟨_, rfl⟩
    rw [← hWn] at hS9 ⊢
    clear hWn
    obtain ⟨gZh, hgn⟩ : ∃ g : Nat, g = wh0.heap.size := ⟨_, rfl⟩
    rw [← hgn] at hS9 ⊢
    clear hgn
    generalize (W18.drew).heap.size = bsh0 at hS9
    generalize (wh0.alloc (.cells #[.int .i64 0, .slice none 0 0] 37)).heap.size = bsh1 at hS9
    generalize wh1.heap.size = bsh2 at hS9
    generalize wh2.heap.size = bsh3 at hS9
    repeat (rename_i hh; clear hh)
    revert hS9
    revert W19
    revert gZh
    revert bsh0
    revert bsh1
    revert bsh2
    revert bsh3
    revert Aht0
    revert cht0
    revert Eht0
    revert dht0
    revert Aht1
    revert cht1
    revert Aht2
    revert cht2
    revert Ah0
    revert ch0
    exact rest.out
    rw [hL0] at hR
    have hS8 := ((hR.set 4 rfl 0 (.int .i64 (jnS xs0 fs0 s1 l1 s2 l2))).set 4 rfl 1 (.slice Ah0 L0.length ch0))
    have hS9 := hS8.pick [4, 0, 1, 2, 3, 5, 6, 7, 8, 9, 10, 11, 12, 13, 14, 15, 16, 17, 18, 19, 20] (by decide) rfl
    simp only [List.filterMap_cons, List.filterMap_nil, List.getElem?_cons_zero, List.getElem?_cons_succ, List.set_cons_zero, List.set_cons_succ] at hS9
    clear hS8 hR HL C0 C1 C2 C3 C4 C5 hb hclhr ho0 hLh0 hb_h0 hclh0 ho_h0 hLh1 hb_h1 hclh1 ho_h1 hLh2 hb_h2 hclh2 ho_h2 q0 z0 q1 z1
    obtain ⟨W19, hWn⟩ : ∃ W, W = ((whr.setCell ⟨W18.heap.size, 0, none⟩ (.int .i64 (jnS xs0 fs0 s1 l1 s2 l2))).setCell ⟨W18.heap.size, 1, none⟩ (.slice Ah0 L0.length ch0)) := ⟨_, rfl⟩
    rw [← hWn] at hS9 ⊢
    clear hWn
    obtain ⟨gZh, hgn⟩ : ∃ g : Nat, g = W18.heap.size := ⟨_, rfl⟩
    rw [← hgn] at hS9 ⊢
    clear hgn
    generalize ((W18.alloc (.cells #[.int .i64 0, .slice none 0 0] 37)).drew).heap.size = bsh0 at hS9
    generalize wh0.heap.size = bsh1 at hS9
    generalize wh1.heap.size = bsh2 at hS9
    generalize wh2.heap.size = bsh3 at hS9
    repeat (rename_i hh; clear hh)
    revert hS9
    revert W19
    revert gZh
    revert bsh0
    revert bsh1
    revert bsh2
    revert bsh3
    revert Aht0
    revert cht0
    revert Eht0
    revert dht0
    revert Aht1
    revert cht1
    revert Aht2
    revert cht2
    revert Ah0
    revert ch0
    exact rest.out
  clear hS
  intro ch0 Ah0 cht2 Aht2 cht1 Aht1 dht0 Eht0 cht0 Aht0 bsh3 bsh2 bsh1 bsh0 gZh W19 hS
  have q0 := hS.cell 0 0 rfl rfl
  have q1 := hS.cell 0 1 rfl rfl
  have q2 := hS.cell 13 0 rfl rfl
  have q3 := hS.cell 13 1 rfl rfl
  go_wp2_with fail
  refine (eqR_led hS 1 14 rfl rfl (jnS xs0 fs0 s1 l1 s2 l2) hlen0.out).mono ?_
  rintro e W20 ⟨rfl, hS1⟩; replace hS := hS1; clear hS1
  clear q0 q1 q2 q3
  have q0 := hS.cell 5 0 rfl rfl
  have q1 := hS.cell 5 1 rfl rfl
  go_wp2_with fail
  refine (heldR_led hS 6 (jnS xs0 fs0 s1 l1 s2 l2) _ rfl hlen0.out (by have := hlen0.out; omega) (by have := hlen0.out; omega)).mono ?_
  rintro e W21 ⟨rfl, hS1⟩; replace hS := hS1; clear hS1
  clear q0 q1
  go_wp2_with fail
  go_ret
  exact ⟨rfl, hS.bl⟩
end Go.Proofs.Ytjklphlgmlomjaa.fnExactJoinRoutes
