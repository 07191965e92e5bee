/- Lemmas and walks that the claim rests on, laid together. Conditions: none. -/
import Derived.Test.YtjklphlgmlomjaaZ04dfe68be63f
import Derived.Test.YtjklphlgmlomjaaZ10535c256513
import Derived.Deep.RegionHeld3
/- A route that came in. Conditions: none. -/
namespace Go.Proofs.Ytjklphlgmlomjaa
open Go.ChangeShapes Go.WideShapes Go.ChangeAt Go.RowKit Go.Deep Go.Joins
section
variable {H : Type} {enc : TypeId × Value → H} {W : World} {spare : Nat → Bool} {held : Bool}
theorem cellsR : Try.prog.cellsOf 28 = 2 := by kernel_rfl
/-- A route that came in. -/
def RouteArg (W : World) (s : Int) (A : Option Addr) (n c : Nat) (xs : List Int) : Prop := (-9223372036854775808 ≤ s ∧ s ≤ 9223372036854775807) ∧ IntsArg W A n c xs
set_option maxRecDepth 100000 in
theorem open_route {base : Nat} {v : Value} {d : DataW H} {p : List MemPlace} (hv : Value.okWide Try.prog W .any base 28 v) (h : DataW.Trod enc Try.prog W 0 spare held 28 v d p) :
    ∃ s A n c xs, v = .agg #[.int .i64 s, .slice A n c] ∧ RouteArg W s A n c xs := by
  obtain ⟨v0, v1, y0, y1, k, rfl, _, _, h0, h1⟩ := open_agg2 Try.underlying28 (by kernel_rfl) cellsR hv h
  obtain ⟨s, e0, hs⟩ := el_int Try.underlying3 _ _ _ h0
  obtain ⟨A, n, c, xs, e1, b1, b2, b3, b4⟩ := open_sl elInt _ Try.underlying26 cellsI (el_int Try.underlying3) h1
  simp [elInt] at e0 e1
  exact ⟨s, A, n, c, xs, by rw [e0, e1], hs, ⟨b1, b2, b3, b4⟩⟩
end
end Go.Proofs.Ytjklphlgmlomjaa
/- FnExactReverseRoute, walked. Conditions: none. -/
namespace Go.Proofs.Ytjklphlgmlomjaa.fnExactReverseRoute
open Go.RowKit
set_option maxHeartbeats 2000000 in
set_option maxRecDepth 100000 in
theorem walk (w : World) {A0 E0 : Option Addr} {n0 c0 m0 d0 : Nat} {xs0 : List ByteArray} {fs0 : List Fib} (h0 : NetArg w A0 n0 c0 E0 m0 d0 xs0 fs0) {s1 : Int} {A1 : Option Addr} {k1 c1 : Nat} {l1 : List Int} (h1 : RouteArg w s1 A1 k1 c1 l1) :
    Calls Try.prog 4 #[.agg #[.slice A0 n0 c0, .slice E0 m0 d0], .agg #[.int .i64 s1, .slice A1 k1 c1]] w fun e w' => e = .returned (.bool true) ∧ Below w.heap.size w w' := by
  obtain ⟨⟨h0nc, h0cm, h0A, h0x⟩, ⟨h0md, h0dm, h0F, _⟩⟩ := h0
  obtain ⟨_, h1nc, h1cm, h1A, _⟩ := h1
  obtain rfl := h1A.len
  have hS := Led.nil w
  replace hS := hS.blk_ (w.heap.size) (by simp) 25 #[.slice A0 n0 c0, .slice E0 m0 d0]
  replace hS := hS.blk_ (w.heap.size + 1) (by simp) 28 #[.int .i64 s1, .slice A1 l1.length c1]
  obtain ⟨r0, hr0⟩ : ∃ r, r = lessI 1048576 (netTot xs0 fs0) := ⟨_, rfl⟩
  have hlb0 := lessI_bd (left := 1048576) (t := (netTot xs0 fs0))
  rw [← hr0] at hlb0
  have HR0 := hid hr0
  clear hr0
  rcases hlb0 with ⟨hz0, _⟩ | ⟨hz0, hy0, hx0⟩
  case inl =>
    subst hz0
    go_enter Try.func4, Try.ntmps4
    go_wp2_with fail
    refine (szNetwork_any 1048576 _ (h0A.below hS.bl) (h0F.below hS.bl) hS.bl.size (by omega) (by omega) h0x (by omega) (by omega)).mono ?_
    rintro e W1 ⟨rfl, hb⟩; replace hS := hS.step hb; clear hb
    rw [← HR0.out]
    go_wp2_with fail
    go_ret
    exact ⟨rfl, hS.bl⟩
  have h0n : n0 ≤ 1048576 := by have := h0A.len; unfold netTot strTot at hx0; omega
  have h0m : m0 ≤ 1048576 := by have := h0F.len; unfold netTot strTot at hx0; omega
  have h0I := hid (show NetIs w A0 n0 c0 E0 m0 d0 xs0 fs0 from ⟨⟨h0nc, h0n⟩, ⟨h0md, h0m⟩, h0A, h0F, h0x⟩)
  clear hx0
  obtain ⟨r1, hr1⟩ : ∃ r, r = lessI r0 l1.length := ⟨_, rfl⟩
  have hlb1 := lessI_bd (left := r0) (t := l1.length)
  rw [← hr1] at hlb1
  have HR1 := hid hr1
  clear hr1
  rcases hlb1 with ⟨hz1, _⟩ | ⟨hz1, hy1, hx1⟩
  case inl =>
    subst hz1
    go_enter Try.func4, Try.ntmps4
    go_wp2_with fail
    refine (szNetwork_any 1048576 _ (h0A.below hS.bl) (h0F.below hS.bl) hS.bl.size (by omega) (by omega) h0x (by omega) (by omega)).mono ?_
    rintro e W1 ⟨rfl, hb⟩; replace hS := hS.step hb; clear hb
    rw [← HR0.out]
    have q0 := hS.cell 0 0 rfl rfl
    have q1 := hS.cell 0 1 rfl rfl
    go_wp2_with fail
    refine (szRoute_any s1 r0 _ (by omega) (by omega) (by omega)).mono ?_
    rintro e W2 ⟨rfl, hb⟩; replace hS := hS.step hb; clear hb
    rw [← HR1.out]
    clear q0 q1
    go_wp2_with fail
    go_ret
    exact ⟨rfl, hS.bl⟩
  have h1n : l1.length ≤ 1048576 := by omega
  have h1I := hid (show RtIs w A1 l1.length c1 l1 from ⟨⟨h1nc, h1n⟩, h1A⟩)
  clear hx1
  go_enter Try.func4, Try.ntmps4
  go_wp2_with fail
  refine (szNetwork_any 1048576 _ (h0A.below hS.bl) (h0F.below hS.bl) hS.bl.size (by omega) (by omega) h0x (by omega) (by omega)).mono ?_
  rintro e W1 ⟨rfl, hb⟩; replace hS := hS.step hb; clear hb
  rw [← HR0.out]
  have q0 := hS.cell 0 0 rfl rfl
  have q1 := hS.cell 0 1 rfl rfl
  go_wp2_with fail
  refine (szRoute_any s1 r0 _ (by omega) (by omega) (by omega)).mono ?_
  rintro e W2 ⟨rfl, hb⟩; replace hS := hS.step hb; clear hb
  rw [← HR1.out]
  clear q0 q1
  -- the reference
  go_wp2_with fail
  obtain ⟨L0, hL0⟩ : ∃ L, rvL xs0 fs0 s1 l1 = L := ⟨_, rfl⟩
  have hlen0 := hid ((Nat.le_trans rvL_len (by omega) : (rvL xs0 fs0 s1 l1).length ≤ 1048576))
  rw [hL0] at hlen0
  apply share
  · intro rest
    have C0 : ∀ w', Cls W2 w' → w'.cell? ⟨w.heap.size, 0, none⟩ = some (.slice A0 n0 c0) := fun _ h => h.cell (hS.cell 1 0 rfl rfl)
    have C1 : ∀ w', Cls W2 w' → w'.cell? ⟨w.heap.size, 1, none⟩ = some (.slice E0 m0 d0) := fun _ h => h.cell (hS.cell 1 1 rfl rfl)
    have C2 : ∀ w', Cls W2 w' → w'.cell? ⟨w.heap.size + 1, 0, none⟩ = some (.int .i64 s1) := fun _ h => h.cell (hS.cell 0 0 rfl rfl)
    have C3 : ∀ w', Cls W2 w' → w'.cell? ⟨w.heap.size + 1, 1, none⟩ = some (.slice A1 l1.length c1) := fun _ h => h.cell (hS.cell 0 1 rfl rfl)
    have HL := hid (fun w' (h : Cls W2 w') => hS.step h)
    go_region_held3 (fun w' => Cls W2 w') (first | exact Cls.refl _ | exact Cls.drew _ | assumption | exact Cls.next (by assumption) (by assumption) | exact bl_alloc (by assumption) _ | exact bl_alloc (Cls.drew _) _ | exact (bl_alloc (Cls.refl _) _).drew | exact bl_set (bl_set (by assumption) _ (by first | exact Nat.le_refl _ | exact Below.size hclw0 | exact Below.size hclw1)) _ (by first | exact Nat.le_refl _ | exact Below.size hclw0 | exact Below.size hclw1))
      (first
        | (go_at_call 18; first
            | (have hA := hid (((HL.out W2 (Cls.refl _)).blk_ W2.heap.size rfl 37 #[.int .i64 0, .slice none 0 0]).step (Cls.drew _)); have hcc := (toNetwork_own (c := c0) (d := d0) ((W2.alloc (.cells #[.int .i64 0, .slice none 0 0] 37)).drew) (h0I.out.grow hA.out.bl).strs (h0I.out.grow hA.out.bl).fibs (Nat.le_refl _) h0n h0m); with_reducible refine hcc.mono ?_; clear hcc; rintro e ww0 ⟨Awt0, cwt0, Ewt0, dwt0, rfl, ho_w0, hb_w0⟩; have hLw0 := hA.out.net hb_w0 ho_w0; have hclw0 : Cls W2 _ := Cls.next hb_w0 (by assumption); clear hA)
            | (have hA := hid (HL.out W2.drew (Cls.drew _)); have hcc := (toNetwork_own (c := c0) (d := d0) (W2.drew) (h0I.out.grow hA.out.bl).strs (h0I.out.grow hA.out.bl).fibs (Nat.le_refl _) h0n h0m); with_reducible refine hcc.mono ?_; clear hcc; rintro e ww0 ⟨Awt0, cwt0, Ewt0, dwt0, rfl, ho_w0, hb_w0⟩; have hLw0 := hA.out.net hb_w0 ho_w0; have hclw0 : Cls W2 _ := Cls.next hb_w0 (by assumption); clear hA))
        | (go_at_call 19; first
            | (have hA := hid (hLw0.blk_ ww0.heap.size rfl 37 #[.int .i64 0, .slice none 0 0]); have hcc := (toRoute_any (er := c1) s1 (ww0.alloc (.cells #[.int .i64 0, .slice none 0 0] 37)) (h1I.out.grow hA.out.bl).2 (Nat.le_refl _) h1n); with_reducible refine hcc.mono ?_; clear hcc; rintro e ww1 ⟨Awt1, cwt1, rfl, -, ho_w1, hb_w1⟩; have hLw1 := hA.out.owns hb_w1 ho_w1; have hclw1 : Cls W2 _ := Cls.next hb_w1 (by assumption); clear hA)
            | (have hA := hid (hLw0); have hcc := (toRoute_any (er := c1) s1 ww0 (h1I.out.grow hA.out.bl).2 (Nat.le_refl _) h1n); with_reducible refine hcc.mono ?_; clear hcc; rintro e ww1 ⟨Awt1, cwt1, rfl, -, ho_w1, hb_w1⟩; have hLw1 := hA.out.owns hb_w1 ho_w1; have hclw1 : Cls W2 _ := Cls.next hb_w1 (by assumption); clear hA))
        | (go_at_call 23; first
            | (have hA := hid (hLw1.blk_ ww1.heap.size rfl 37 #[.int .i64 0, .slice none 0 0]); have hcc := specReverse _ (hA.out.netIs 2 rfl h0n h0m h0x) (hA.out.rt 1 rfl h1n) s1; with_reducible refine hcc.mono ?_; clear hcc; rintro e wwr ⟨Aw0, cw0, rfl, ho0, hb⟩; have hR := hA.out.owns hb ho0; have hclwr : Cls W2 _ := Cls.next hb (by assumption); have q0 : wwr.cell? _ = some (.int .i64 0) := hR.cell 1 0 rfl rfl; have z0 := hR.frozen 1 0 rfl; have q1 : wwr.cell? _ = some (.slice none 0 0) := hR.cell 1 1 rfl rfl; have z1 := hR.frozen 1 1 rfl; clear hA)
            | (have hA := hid (hLw1); have hcc := specReverse _ (hA.out.netIs 2 rfl h0n h0m h0x) (hA.out.rt 0 rfl h1n) s1; with_reducible refine hcc.mono ?_; clear hcc; rintro e wwr ⟨Aw0, cw0, rfl, ho0, hb⟩; have hR := hA.out.owns hb ho0; have hclwr : Cls W2 _ := Cls.next hb (by assumption); have q0 : wwr.cell? _ = some (.int .i64 0) := hR.cell 2 0 rfl rfl; have z0 := hR.frozen 2 0 rfl; have q1 : wwr.cell? _ = some (.slice none 0 0) := hR.cell 2 1 rfl rfl; have z1 := hR.frozen 2 1 rfl; clear hA)
            | (have hA := hid (hLw1); have hcc := specReverse _ (hA.out.netIs 1 rfl h0n h0m h0x) (hA.out.rt 0 rfl h1n) s1; with_reducible refine hcc.mono ?_; clear hcc; rintro e wwr ⟨Aw0, cw0, rfl, ho0, hb⟩; have hR := hA.out.owns hb ho0; have hclwr : Cls W2 _ := Cls.next hb (by assumption); have q0 : wwr.cell? _ = some (.int .i64 0) := hR.cell 3 0 rfl rfl; have z0 := hR.frozen 3 0 rfl; have q1 : wwr.cell? _ = some (.slice none 0 0) := hR.cell 3 1 rfl rfl; have z1 := hR.frozen 3 1 rfl; clear hA)
            | (have hA := hid (hLw1); have hcc := specReverse _ (hA.out.netIs 1 rfl h0n h0m h0x) (hA.out.rt 0 rfl h1n) s1; with_reducible refine hcc.mono ?_; clear hcc; rintro e wwr ⟨Aw0, cw0, rfl, ho0, hb⟩; have hR := hA.out.owns hb ho0; have hclwr : Cls W2 _ := Cls.next hb (by assumption); clear hA)))
    rw [hL0] at hR
    have hS8 := hR.blk_ wwr.heap.size rfl 37 #[.int .i64 (rvS xs0 fs0 s1 l1), .slice Aw0 L0.length cw0]
    have hS9 := hS8.pick [0, 1, 2, 3, 4, 5] (by decide) rfl
    simp only [List.filterMap_cons, List.filterMap_nil, List.getElem?_cons_zero, List.getElem?_cons_succ] at hS9
    clear hS8 hR HL C0 C1 C2 C3 hb hclwr ho0 hLw0 hb_w0 hclw0 ho_w0 hLw1 hb_w1 hclw1 ho_w1
    obtain ⟨W3, hWn⟩ : ∃ W, W = wwr.alloc (.cells #[.int .i64 (rvS xs0 fs0 s1 l1), .slice Aw0 L0.length cw0] 37) := ⟨_, rfl⟩
    rw [← hWn] at hS9 ⊢
    clear hWn
    obtain ⟨gZw, hgn⟩ : ∃ g : Nat, g = wwr.heap.size := ⟨_, rfl⟩
    rw [← hgn] at hS9 ⊢
    clear hgn
    generalize (W2.drew).heap.size = bsw0 at hS9
    generalize ww0.heap.size = bsw1 at hS9
    generalize ww1.heap.size = bsw2 at hS9
    repeat (rename_i hh; clear hh)
    revert hS9
    revert W3
    revert gZw
    revert bsw0
    revert bsw1
    revert bsw2
    revert Awt0
    revert cwt0
    revert Ewt0
    revert dwt0
    revert Awt1
    revert cwt1
    revert Aw0
    revert cw0
    exact rest.out
    rw [hL0] at hR
    have hS8 := ((hR.set 1 rfl 0 (.int .i64 (rvS xs0 fs0 s1 l1))).set 1 rfl 1 (.slice Aw0 L0.length cw0))
    have hS9 := hS8.pick [1, 0, 2, 3, 4, 5] (by decide) rfl
    simp only [List.filterMap_cons, List.filterMap_nil, List.getElem?_cons_zero, List.getElem?_cons_succ, List.set_cons_zero, List.set_cons_succ] at hS9
    clear hS8 hR HL C0 C1 C2 C3 hb hclwr ho0 hLw0 hb_w0 hclw0 ho_w0 hLw1 hb_w1 hclw1 ho_w1 q0 z0 q1 z1
    obtain ⟨W3, hWn⟩ : ∃ W, W = ((wwr.setCell ⟨ww1.heap.size, 0, none⟩ (.int .i64 (rvS xs0 fs0 s1 l1))).setCell ⟨ww1.heap.size, 1, none⟩ (.slice Aw0 L0.length cw0)) := ⟨_, rfl⟩
    rw [← hWn] at hS9 ⊢
    clear hWn
    obtain ⟨gZw, hgn⟩ : ∃ g : Nat, g = ww1.heap.size := ⟨_, rfl⟩
    rw [← hgn] at hS9 ⊢
    clear hgn
    generalize (W2.drew).heap.size = bsw0 at hS9
    generalize ww0.heap.size = bsw1 at hS9
    generalize (ww1.alloc (.cells #[.int .i64 0, .slice none 0 0] 37)).heap.size = bsw2 at hS9
    repeat (rename_i hh; clear hh)
    revert hS9
    revert W3
    revert gZw
    revert bsw0
    revert bsw1
    revert bsw2
    revert Awt0
    revert cwt0
    revert Ewt0
    revert dwt0
    revert Awt1
    revert cwt1
    revert Aw0
    revert cw0
    exact rest.out
    rw [hL0] at hR
    have hS8 := ((hR.set 2 rfl 0 (.int .i64 (rvS xs0 fs0 s1 l1))).set 2 rfl 1 (.slice Aw0 L0.length cw0))
    have hS9 := hS8.pick [2, 0, 1, 3, 4, 5] (by decide) rfl
    simp only [List.filterMap_cons, List.filterMap_nil, List.getElem?_cons_zero, List.getElem?_cons_succ, List.set_cons_zero, List.set_cons_succ] at hS9
    clear hS8 hR HL C0 C1 C2 C3 hb hclwr ho0 hLw0 hb_w0 hclw0 ho_w0 hLw1 hb_w1 hclw1 ho_w1 q0 z0 q1 z1
    obtain ⟨W3, hWn⟩ : ∃ W, W = ((wwr.setCell ⟨ww0.heap.size, 0, none⟩ (.int .i64 (rvS xs0 fs0 s1 l1))).setCell ⟨ww0.heap.size, 1, none⟩ (.slice Aw0 L0.length cw0)) := ⟨_, rfl⟩
    rw [← hWn] at hS9 ⊢
    clear hWn
    obtain ⟨gZw, hgn⟩ : ∃ g : Nat, g = ww0.heap.size := ⟨_, rfl⟩
    rw [← hgn] at hS9 ⊢
    clear hgn
    generalize (W2.drew).heap.size = bsw0 at hS9
    generalize (ww0.alloc (.cells #[.int .i64 0, .slice none 0 0] 37)).heap.size = bsw1 at hS9
    generalize ww1.heap.size = bsw2 at hS9
    repeat (rename_i hh; clear hh)
    revert hS9
    revert W3
    revert gZw
    revert bsw0
    revert bsw1
    revert bsw2
    revert Awt0
    revert cwt0
    revert Ewt0
    revert dwt0
    revert Awt1
    revert cwt1
    revert Aw0
    revert cw0
    exact rest.out
    rw [hL0] at hR
    have hS8 := ((hR.set 3 rfl 0 (.int .i64 (rvS xs0 fs0 s1 l1))).set 3 rfl 1 (.slice Aw0 L0.length cw0))
    have hS9 := hS8.pick [3, 0, 1, 2, 4, 5] (by decide) rfl
    simp only [List.filterMap_cons, List.filterMap_nil, List.getElem?_cons_zero, List.getElem?_cons_succ, List.set_cons_zero, List.set_cons_succ] at hS9
    clear hS8 hR HL C0 C1 C2 C3 hb hclwr ho0 hLw0 hb_w0 hclw0 ho_w0 hLw1 hb_w1 hclw1 ho_w1 q0 z0 q1 z1
    obtain ⟨W3, hWn⟩ : ∃ W, W = ((wwr.setCell ⟨W2.heap.size, 0, none⟩ (.int .i64 (rvS xs0 fs0 s1 l1))).setCell ⟨W2.heap.size, 1, none⟩ (.slice Aw0 L0.length cw0)) := ⟨_, rfl⟩
    rw [← hWn] at hS9 ⊢
    clear hWn
    obtain ⟨gZw, hgn⟩ : ∃ g : Nat, g = W2.heap.size := ⟨_, rfl⟩
    rw [← hgn] at hS9 ⊢
    clear hgn
    generalize ((W2.alloc (.cells #[.int .i64 0, .slice none 0 0] 37)).drew).heap.size = bsw0 at hS9
    generalize ww0.heap.size = bsw1 at hS9
    generalize ww1.heap.size = bsw2 at hS9
    repeat (rename_i hh; clear hh)
    revert hS9
    revert W3
    revert gZw
    revert bsw0
    revert bsw1
    revert bsw2
    revert Awt0
    revert cwt0
    revert Ewt0
    revert dwt0
    revert Awt1
    revert cwt1
    revert Aw0
    revert cw0
    exact rest.out
  clear hS
  intro cw0 Aw0 cwt1 Awt1 dwt0 Ewt0 cwt0 Awt0 bsw2 bsw1 bsw0 gZw W3 hS
  -- the program on copies that are kept
  have q0 := hS.cell 5 0 rfl rfl
  have q1 := hS.cell 5 1 rfl rfl
  go_wp2_with fail
  refine (toNetwork_own _ (h0I.out.grow hS.bl).strs (h0I.out.grow hS.bl).fibs (Nat.le_refl _) h0n h0m).mono ?_
  rintro e W4 ⟨Ax0, cx0, Ex0, dx0, rfl, ho, hb⟩
  replace hS := hS.net hb ho
  clear hb ho
  clear q0 q1
  replace hS := hS.blk_ (W4.heap.size) (by simp) 35 #[.slice Ax0 n0 cx0, .slice Ex0 m0 dx0]
  have q0 := hS.cell 6 0 rfl rfl
  have q1 := hS.cell 6 1 rfl rfl
  go_wp2_with fail
  refine (toRoute_any s1 _ (h1I.out.grow hS.bl).2 (Nat.le_refl _) h1n).mono ?_
  rintro e W5 ⟨Ax1, cx1, rfl, _, ho, hb⟩
  replace hS := hS.owns hb ho
  clear hb ho
  clear q0 q1
  replace hS := hS.blk_ (W5.heap.size) (by simp) 37 #[.int .i64 s1, .slice Ax1 l1.length cx1]
  have q0 := hS.cell 2 0 rfl rfl
  have q1 := hS.cell 2 1 rfl rfl
  go_wp2_with fail
  refine (implReverse _ (hS.netIs 3 rfl h0n h0m h0x) (hS.rt 1 rfl h1n) s1).mono ?_
  rintro e W6 ⟨Ag0, cg0, rfl, ho0, hb⟩
  rw [hL0] at ho0
  replace hS := hS.owns hb ho0
  clear hb ho0
  clear q0 q1
  replace hS := hS.blk_ (W6.heap.size) (by simp) 37 #[.int .i64 (rvS xs0 fs0 s1 l1), .slice Ag0 L0.length cg0]
  -- the results are equal
  have q0 := hS.cell 6 0 rfl rfl
  have q1 := hS.cell 6 1 rfl rfl
  go_wp2_with fail
  refine (eqR_led hS 1 7 rfl rfl (rvS xs0 fs0 s1 l1) hlen0.out).mono ?_
  rintro e W7 ⟨rfl, hS1⟩; replace hS := hS1; clear hS1
  clear q0 q1
  -- the arguments are as they were
  have C0 : ∀ w', Cls W7 w' → w'.cell? ⟨w.heap.size, 0, none⟩ = some (.slice A0 n0 c0) := fun _ h => h.cell (hS.cell 11 0 rfl rfl)
  have C1 : ∀ w', Cls W7 w' → w'.cell? ⟨w.heap.size, 1, none⟩ = some (.slice E0 m0 d0) := fun _ h => h.cell (hS.cell 11 1 rfl rfl)
  have C2 : ∀ w', Cls W7 w' → w'.cell? ⟨W4.heap.size, 0, none⟩ = some (.slice Ax0 n0 cx0) := fun _ h => h.cell (hS.cell 4 0 rfl rfl)
  have C3 : ∀ w', Cls W7 w' → w'.cell? ⟨W4.heap.size, 1, none⟩ = some (.slice Ex0 m0 dx0) := fun _ h => h.cell (hS.cell 4 1 rfl rfl)
  have HL := hid (fun w' (h : Cls W7 w') => hS.step h)
  go_wp2_with fail
  go_region_held3 (fun w' => Cls W7 w') (first | exact Cls.drew _ | exact Cls.next (by assumption) (by assumption))
    (first
      | (go_at_call 18; refine (toNetwork_own _ (h0I.out.grow (HL.out _ (by assumption)).bl).strs (h0I.out.grow (HL.out _ (by assumption)).bl).fibs (Nat.le_refl _) h0n h0m).mono ?_; rintro e w' ⟨Ay0, cy0, Ey0, dy0, rfl, ho1, hb1⟩; have hL1 := (HL.out _ (by assumption)).net hb1 ho1)
      | (go_at_call 21; refine (eqN_led2 hL1 6 0 rfl rfl h0n h0m).mono ?_; rintro e w' ⟨rfl, hS2, hb2⟩))
  clear HL hL1 ho1 hb1 hb2 C0 C1 C2 C3
  replace hS := hS2.drop 1
  clear hS2
  dsimp only [List.drop] at hS
  generalize w' = W8 at *
  have C0 : ∀ w', Cls W8 w' → w'.cell? ⟨w.heap.size + 1, 0, none⟩ = some (.int .i64 s1) := fun _ h => h.cell (hS.cell 10 0 rfl rfl)
  have C1 : ∀ w', Cls W8 w' → w'.cell? ⟨w.heap.size + 1, 1, none⟩ = some (.slice A1 l1.length c1) := fun _ h => h.cell (hS.cell 10 1 rfl rfl)
  have C2 : ∀ w', Cls W8 w' → w'.cell? ⟨W5.heap.size, 0, none⟩ = some (.int .i64 s1) := fun _ h => h.cell (hS.cell 2 0 rfl rfl)
  have C3 : ∀ w', Cls W8 w' → w'.cell? ⟨W5.heap.size, 1, none⟩ = some (.slice Ax1 l1.length cx1) := fun _ h => h.cell (hS.cell 2 1 rfl rfl)
  have HL := hid (fun w' (h : Cls W8 w') => hS.step h)
  go_wp2_with fail
  go_region_held3 (fun w' => Cls W8 w') (first | exact Cls.drew _ | exact Cls.next (by assumption) (by assumption))
    (first
      | (go_at_call 19; refine (toRoute_any s1 _ (h1I.out.grow (HL.out _ (by assumption)).bl).2 (Nat.le_refl _) h1n).mono ?_; rintro e w' ⟨Ay1, cy1, rfl, _, ho1, hb1⟩; have hL1 := (HL.out _ (by assumption)).owns hb1 ho1)
      | (go_at_call 22; refine (eqR_led2 hL1 4 0 rfl rfl s1 h1n).mono ?_; rintro e w' ⟨rfl, hS2, hb2⟩))
  clear HL hL1 ho1 hb1 hb2 C0 C1 C2 C3
  replace hS := hS2.drop 1
  clear hS2
  dsimp only [List.drop] at hS
  generalize w' = W9 at *
  -- marks
  have q0 := hS.cell 4 0 rfl rfl
  have q1 := hS.cell 4 1 rfl rfl
  go_wp2_with fail
  refine (markN_led hS 5 rfl _ h0n h0m (by omega) (by omega)).mono ?_
  rintro e W10 ⟨rfl, hS1⟩; replace hS := hS1; clear hS1; dsimp only [List.set] at hS
  clear q0 q1
  have q0 := hS.cell 2 0 rfl rfl
  have q1 := hS.cell 2 1 rfl rfl
  go_wp2_with fail
  refine (markR_led hS 3 rfl s1 _ h1n (by omega) (by omega)).mono ?_
  rintro e W11 ⟨rfl, hS1⟩; replace hS := hS1; clear hS1; dsimp only [List.set] at hS
  clear q0 q1
  have q0 := hS.cell 0 0 rfl rfl
  have q1 := hS.cell 0 1 rfl rfl
  have q2 := hS.cell 6 0 rfl rfl
  have q3 := hS.cell 6 1 rfl rfl
  go_wp2_with fail
  refine (eqR_led hS 1 7 rfl rfl (rvS xs0 fs0 s1 l1) hlen0.out).mono ?_
  rintro e W12 ⟨rfl, hS1⟩; replace hS := hS1; clear hS1
  clear q0 q1 q2 q3
  have q0 := hS.cell 0 0 rfl rfl
  have q1 := hS.cell 0 1 rfl rfl
  go_wp2_with fail
  refine (markR_led hS 1 rfl (rvS xs0 fs0 s1 l1) _ hlen0.out (by have := hlen0.out; omega) (by have := hlen0.out; omega)).mono ?_
  rintro e W13 ⟨rfl, hS1⟩; replace hS := hS1; clear hS1; dsimp only [List.set] at hS
  clear q0 q1
  have q0 := hS.cell 0 0 rfl rfl
  have q1 := hS.cell 0 1 rfl rfl
  go_wp2_with fail
  refine (heldR_led hS 1 (rvS xs0 fs0 s1 l1) _ rfl hlen0.out (by have := hlen0.out; omega) (by have := hlen0.out; omega)).mono ?_
  rintro e W14 ⟨rfl, hS1⟩; replace hS := hS1; clear hS1
  clear q0 q1
  -- once more
  go_wp2_with fail
  apply share
  · intro rest
    have C0 : ∀ w', Cls W14 w' → w'.cell? ⟨w.heap.size, 0, none⟩ = some (.slice A0 n0 c0) := fun _ h => h.cell (hS.cell 11 0 rfl rfl)
    have C1 : ∀ w', Cls W14 w' → w'.cell? ⟨w.heap.size, 1, none⟩ = some (.slice E0 m0 d0) := fun _ h => h.cell (hS.cell 11 1 rfl rfl)
    have C2 : ∀ w', Cls W14 w' → w'.cell? ⟨w.heap.size + 1, 0, none⟩ = some (.int .i64 s1) := fun _ h => h.cell (hS.cell 10 0 rfl rfl)
    have C3 : ∀ w', Cls W14 w' → w'.cell? ⟨w.heap.size + 1, 1, none⟩ = some (.slice A1 l1.length c1) := fun _ h => h.cell (hS.cell 10 1 rfl rfl)
    have HL := hid (fun w' (h : Cls W14 w') => hS.step h)
    go_region_held3 (fun w' => Cls W14 w') (first | exact Cls.refl _ | exact Cls.drew _ | assumption | exact Cls.next (by assumption) (by assumption) | exact bl_alloc (by assumption) _ | exact bl_alloc (Cls.drew _) _ | exact (bl_alloc (Cls.refl _) _).drew | exact bl_set (bl_set (by assumption) _ (by first | exact Nat.le_refl _ | exact Below.size hclh0 | exact Below.size hclh1)) _ (by first | exact Nat.le_refl _ | exact Below.size hclh0 | exact Below.size hclh1))
      (first
        | (go_at_call 18; first
            | (have hA := hid (((HL.out W14 (Cls.refl _)).blk_ W14.heap.size rfl 37 #[.int .i64 0, .slice none 0 0]).step (Cls.drew _)); have hcc := (toNetwork_own (c := c0) (d := d0) ((W14.alloc (.cells #[.int .i64 0, .slice none 0 0] 37)).drew) (h0I.out.grow hA.out.bl).strs (h0I.out.grow hA.out.bl).fibs (Nat.le_refl _) h0n h0m); with_reducible refine hcc.mono ?_; clear hcc; rintro e wh0 ⟨Aht0, cht0, Eht0, dht0, rfl, ho_h0, hb_h0⟩; have hLh0 := hA.out.net hb_h0 ho_h0; have hclh0 : Cls W14 _ := Cls.next hb_h0 (by assumption); clear hA)
            | (have hA := hid (HL.out W14.drew (Cls.drew _)); have hcc := (toNetwork_own (c := c0) (d := d0) (W14.drew) (h0I.out.grow hA.out.bl).strs (h0I.out.grow hA.out.bl).fibs (Nat.le_refl _) h0n h0m); with_reducible refine hcc.mono ?_; clear hcc; rintro e wh0 ⟨Aht0, cht0, Eht0, dht0, rfl, ho_h0, hb_h0⟩; have hLh0 := hA.out.net hb_h0 ho_h0; have hclh0 : Cls W14 _ := Cls.next hb_h0 (by assumption); clear hA))
        | (go_at_call 19; first
            | (have hA := hid (hLh0.blk_ wh0.heap.size rfl 37 #[.int .i64 0, .slice none 0 0]); have hcc := (toRoute_any (er := c1) s1 (wh0.alloc (.cells #[.int .i64 0, .slice none 0 0] 37)) (h1I.out.grow hA.out.bl).2 (Nat.le_refl _) h1n); with_reducible refine hcc.mono ?_; clear hcc; rintro e wh1 ⟨Aht1, cht1, rfl, -, ho_h1, hb_h1⟩; have hLh1 := hA.out.owns hb_h1 ho_h1; have hclh1 : Cls W14 _ := Cls.next hb_h1 (by assumption); clear hA)
            | (have hA := hid (hLh0); have hcc := (toRoute_any (er := c1) s1 wh0 (h1I.out.grow hA.out.bl).2 (Nat.le_refl _) h1n); with_reducible refine hcc.mono ?_; clear hcc; rintro e wh1 ⟨Aht1, cht1, rfl, -, ho_h1, hb_h1⟩; have hLh1 := hA.out.owns hb_h1 ho_h1; have hclh1 : Cls W14 _ := Cls.next hb_h1 (by assumption); clear hA))
        | (go_at_call 24; first
            | (have hA := hid (hLh1.blk_ wh1.heap.size rfl 37 #[.int .i64 0, .slice none 0 0]); have hcc := implReverse _ (hA.out.netIs 2 rfl h0n h0m h0x) (hA.out.rt 1 rfl h1n) s1; with_reducible refine hcc.mono ?_; clear hcc; rintro e whr ⟨Ah0, ch0, rfl, ho0, hb⟩; have hR := hA.out.owns hb ho0; have hclhr : Cls W14 _ := Cls.next hb (by assumption); have q0 : whr.cell? _ = some (.int .i64 0) := hR.cell 1 0 rfl rfl; have z0 := hR.frozen 1 0 rfl; have q1 : whr.cell? _ = some (.slice none 0 0) := hR.cell 1 1 rfl rfl; have z1 := hR.frozen 1 1 rfl; clear hA)
            | (have hA := hid (hLh1); have hcc := implReverse _ (hA.out.netIs 2 rfl h0n h0m h0x) (hA.out.rt 0 rfl h1n) s1; with_reducible refine hcc.mono ?_; clear hcc; rintro e whr ⟨Ah0, ch0, rfl, ho0, hb⟩; have hR := hA.out.owns hb ho0; have hclhr : Cls W14 _ := Cls.next hb (by assumption); have q0 : whr.cell? _ = some (.int .i64 0) := hR.cell 2 0 rfl rfl; have z0 := hR.frozen 2 0 rfl; have q1 : whr.cell? _ = some (.slice none 0 0) := hR.cell 2 1 rfl rfl; have z1 := hR.frozen 2 1 rfl; clear hA)
            | (have hA := hid (hLh1); have hcc := implReverse _ (hA.out.netIs 1 rfl h0n h0m h0x) (hA.out.rt 0 rfl h1n) s1; with_reducible refine hcc.mono ?_; clear hcc; rintro e whr ⟨Ah0, ch0, rfl, ho0, hb⟩; have hR := hA.out.owns hb ho0; have hclhr : Cls W14 _ := Cls.next hb (by assumption); have q0 : whr.cell? _ = some (.int .i64 0) := hR.cell 3 0 rfl rfl; have z0 := hR.frozen 3 0 rfl; have q1 : whr.cell? _ = some (.slice none 0 0) := hR.cell 3 1 rfl rfl; have z1 := hR.frozen 3 1 rfl; clear hA)
            | (have hA := hid (hLh1); have hcc := implReverse _ (hA.out.netIs 1 rfl h0n h0m h0x) (hA.out.rt 0 rfl h1n) s1; with_reducible refine hcc.mono ?_; clear hcc; rintro e whr ⟨Ah0, ch0, rfl, ho0, hb⟩; have hR := hA.out.owns hb ho0; have hclhr : Cls W14 _ := Cls.next hb (by assumption); clear hA)))
    rw [hL0] at hR
    have hS8 := hR.blk_ whr.heap.size rfl 37 #[.int .i64 (rvS xs0 fs0 s1 l1), .slice Ah0 L0.length ch0]
    have hS9 := hS8.pick [0, 1, 2, 3, 4, 5, 6, 7, 8, 9, 10, 11, 12, 13, 14, 15] (by decide) rfl
    simp only [List.filterMap_cons, List.filterMap_nil, List.getElem?_cons_zero, List.getElem?_cons_succ] at hS9
    clear hS8 hR HL C0 C1 C2 C3 hb hclhr ho0 hLh0 hb_h0 hclh0 ho_h0 hLh1 hb_h1 hclh1 ho_h1
    obtain ⟨W15, hWn⟩ : ∃ W, W = whr.alloc (.cells #[.int .i64 (rvS xs0 fs0 s1 l1), .slice Ah0 L0.length ch0] 37) := ⟨_, rfl⟩
    rw [← hWn] at hS9 ⊢
    clear hWn
    obtain ⟨gZh, hgn⟩ : ∃ g : Nat, g = whr.heap.size := ⟨_, rfl⟩
    rw [← hgn] at hS9 ⊢
    clear hgn
    generalize (W14.drew).heap.size = bsh0 at hS9
    generalize wh0.heap.size = bsh1 at hS9
    generalize wh1.heap.size = bsh2 at hS9
    repeat (rename_i hh; clear hh)
    revert hS9
    revert W15
    revert gZh
    revert bsh0
    revert bsh1
    revert bsh2
    revert Aht0
    revert cht0
    revert Eht0
    revert dht0
    revert Aht1
    revert cht1
    revert Ah0
    revert ch0
    exact rest.out
    rw [hL0] at hR
    have hS8 := ((hR.set 1 rfl 0 (.int .i64 (rvS xs0 fs0 s1 l1))).set 1 rfl 1 (.slice Ah0 L0.length ch0))
    have hS9 := hS8.pick [1, 0, 2, 3, 4, 5, 6, 7, 8, 9, 10, 11, 12, 13, 14, 15] (by decide) rfl
    simp only [List.filterMap_cons, List.filterMap_nil, List.getElem?_cons_zero, List.getElem?_cons_succ, List.set_cons_zero, List.set_cons_succ] at hS9
    clear hS8 hR HL C0 C1 C2 C3 hb hclhr ho0 hLh0 hb_h0 hclh0 ho_h0 hLh1 hb_h1 hclh1 ho_h1 q0 z0 q1 z1
    obtain ⟨W15, hWn⟩ : ∃ W, W = ((whr.setCell ⟨wh1.heap.size, 0, none⟩ (.int .i64 (rvS xs0 fs0 s1 l1))).setCell ⟨wh1.heap.size, 1, none⟩ (.slice Ah0 L0.length ch0)) := ⟨_, rfl⟩
    rw [← hWn] at hS9 ⊢
    clear hWn
    obtain ⟨gZh, hgn⟩ : ∃ g : Nat, g = wh1.heap.size := ⟨_, rfl⟩
    rw [← hgn] at hS9 ⊢
    clear hgn
    generalize (W14.drew).heap.size = bsh0 at hS9
    generalize wh0.heap.size = bsh1 at hS9
    generalize (wh1.alloc (.cells #[.int .i64 0, .slice none 0 0] 37)).heap.size = bsh2 at hS9
    repeat (rename_i hh; clear hh)
    revert hS9
    revert W15
    revert gZh
    revert bsh0
    revert bsh1
    revert bsh2
    revert Aht0
    revert cht0
    revert Eht0
    revert dht0
    revert Aht1
    revert cht1
    revert Ah0
    revert ch0
    exact rest.out
    rw [hL0] at hR
    have hS8 := ((hR.set 2 rfl 0 (.int .i64 (rvS xs0 fs0 s1 l1))).set 2 rfl 1 (.slice Ah0 L0.length ch0))
    have hS9 := hS8.pick [2, 0, 1, 3, 4, 5, 6, 7, 8, 9, 10, 11, 12, 13, 14, 15] (by decide) rfl
    simp only [List.filterMap_cons, List.filterMap_nil, List.getElem?_cons_zero, List.getElem?_cons_succ, List.set_cons_zero, List.set_cons_succ] at hS9
    clear hS8 hR HL C0 C1 C2 C3 hb hclhr ho0 hLh0 hb_h0 hclh0 ho_h0 hLh1 hb_h1 hclh1 ho_h1 q0 z0 q1 z1
    obtain ⟨W15, hWn⟩ : ∃ W, W = ((whr.setCell ⟨wh0.heap.size, 0, none⟩ (.int .i64 (rvS xs0 fs0 s1 l1))).setCell ⟨wh0.heap.size, 1, none⟩ (.slice Ah0 L0.length ch0)) := ⟨_, rfl⟩
    rw [← hWn] at hS9 ⊢
    clear hWn
    obtain ⟨gZh, hgn⟩ : ∃ g : Nat, g = wh0.heap.size := ⟨_, rfl⟩
    rw [← hgn] at hS9 ⊢
    clear hgn
    generalize (W14.drew).heap.size = bsh0 at hS9
    generalize (wh0.alloc (.cells #[.int .i64 0, .slice none 0 0] 37)).heap.size = bsh1 at hS9
    generalize wh1.heap.size = bsh2 at hS9
    repeat (rename_i hh; clear hh)
    revert hS9
    revert W15
    revert gZh
    revert bsh0
    revert bsh1
    revert bsh2
    revert Aht0
    revert cht0
    revert Eht0
    revert dht0
    revert Aht1
    revert cht1
    revert Ah0
    revert ch0
    exact rest.out
    rw [hL0] at hR
    have hS8 := ((hR.set 3 rfl 0 (.int .i64 (rvS xs0 fs0 s1 l1))).set 3 rfl 1 (.slice Ah0 L0.length ch0))
    have hS9 := hS8.pick [3, 0, 1, 2, 4, 5, 6, 7, 8, 9, 10, 11, 12, 13, 14, 15] (by decide) rfl
    simp only [List.filterMap_cons, List.filterMap_nil, List.getElem?_cons_zero, List.getElem?_cons_succ, List.set_cons_zero, List.set_cons_succ] at hS9
    clear hS8 hR HL C0 C1 C2 C3 hb hclhr ho0 hLh0 hb_h0 hclh0 ho_h0 hLh1 hb_h1 hclh1 ho_h1 q0 z0 q1 z1
    obtain ⟨W15, hWn⟩ : ∃ W, W = ((whr.setCell ⟨W14.heap.size, 0, none⟩ (.int .i64 (rvS xs0 fs0 s1 l1))).setCell ⟨W14.heap.size, 1, none⟩ (.slice Ah0 L0.length ch0)) := ⟨_, rfl⟩
    rw [← hWn] at hS9 ⊢
    clear hWn
    obtain ⟨gZh, hgn⟩ : ∃ g : Nat, g = W14.heap.size := ⟨_, rfl⟩
    rw [← hgn] at hS9 ⊢
    clear hgn
    generalize ((W14.alloc (.cells #[.int .i64 0, .slice none 0 0] 37)).drew).heap.size = bsh0 at hS9
    generalize wh0.heap.size = bsh1 at hS9
    generalize wh1.heap.size = bsh2 at hS9
    repeat (rename_i hh; clear hh)
    revert hS9
    revert W15
    revert gZh
    revert bsh0
    revert bsh1
    revert bsh2
    revert Aht0
    revert cht0
    revert Eht0
    revert dht0
    revert Aht1
    revert cht1
    revert Ah0
    revert ch0
    exact rest.out
  clear hS
  intro ch0 Ah0 cht1 Aht1 dht0 Eht0 cht0 Aht0 bsh2 bsh1 bsh0 gZh W15 hS
  have q0 := hS.cell 0 0 rfl rfl
  have q1 := hS.cell 0 1 rfl rfl
  have q2 := hS.cell 10 0 rfl rfl
  have q3 := hS.cell 10 1 rfl rfl
  go_wp2_with fail
  refine (eqR_led hS 1 11 rfl rfl (rvS xs0 fs0 s1 l1) hlen0.out).mono ?_
  rintro e W16 ⟨rfl, hS1⟩; replace hS := hS1; clear hS1
  clear q0 q1 q2 q3
  have q0 := hS.cell 4 0 rfl rfl
  have q1 := hS.cell 4 1 rfl rfl
  go_wp2_with fail
  refine (heldR_led hS 5 (rvS xs0 fs0 s1 l1) _ rfl hlen0.out (by have := hlen0.out; omega) (by have := hlen0.out; omega)).mono ?_
  rintro e W17 ⟨rfl, hS1⟩; replace hS := hS1; clear hS1
  clear q0 q1
  go_wp2_with fail
  go_ret
  exact ⟨rfl, hS.bl⟩
end Go.Proofs.Ytjklphlgmlomjaa.fnExactReverseRoute
