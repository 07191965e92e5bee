/- FailingWith of both sides, walked. Conditions: none. -/
import Derived.Test.YtldheoomlagapaaGrpOf
import Derived.Test.YtldheoomlagapaaOtherEnd
import Derived.Deep.RegionHeld3
namespace Go.Proofs.Ytldheoomlagapaa
open Go.RowKit
variable {n c m d : Nat} {A A' : Option Addr} {xs : List ByteArray} {fs : List Fib}
theorem OwnsSS.at_ {w : World} {base n c k : Nat} {A : Option Addr} {ss : List Sl} {rows : List (List Int)} {r : List Int} (h : OwnsSS w base (.slice A n c) ss rows) (hk : rows[k]? = some r) :
    ∃ g s, A = some ⟨g, 0, none⟩ ∧ n = rows.length ∧ ss[k]? = some s ∧ w.cell? ⟨g, k, none⟩ = some (.slice s.A s.n s.c) ∧ Owns elInt w base 3 (.slice s.A s.n s.c) r := by
  have hl := h.2.1
  obtain ⟨s, hs⟩ := get_of (l := ss) (k := k) hl (List.getElem?_eq_some_iff.1 hk).1
  rcases h.1.cases with ⟨_, e⟩ | ⟨g, cap, cur, hv, _, hb, _, _, _, hf⟩
  · rw [e] at hs; simp at hs
  · injection hv with e1 e2 e3
    refine ⟨g, s, e1, by rw [e2, hl], hs, ?_, h.2.2.1 k s r hs hk⟩
    have := hf k s (List.getElem?_eq_some_iff.1 hs).1 hs 0 _ rfl
    rw [hb.cell]
    simpa [elSl, slV] using this
theorem fwL_small (i : Int) : (fwL xs fs i).length ≤ 15 := by
  unfold fwL
  cases g : fwB xs fs i
  · simp
  · unfold fwB at g
    rw [Bool.and_eq_true] at g
    have hi := inB_idx g.2
    have := groups_row (groupL_in g.1 (i := i.toNat) (by omega))
    have := (goodB_bd g.1).2.2
    simp; omega
set_option maxHeartbeats 1000000 in
set_option maxRecDepth 100000 in
theorem implFailing (i : Int) (w : World) (h : NetIs w A n c A' m d xs fs) :
    Calls Try.prog 38 #[.agg #[.slice A n c, .slice A' m d], .int .i64 i] w fun e w' => ∃ v, e = .returned (.tuple #[v, .bool (fwB xs fs i)]) ∧ Owns elInt w' w.heap.size 3 v (fwL xs fs i) ∧ Below w.heap.size w w' := by
  have hb0 := bl_alloc (Below.refl w.heap.size w) (.cells #[.slice A n c, .slice A' m d] 30)
  have hx0 : Blk (w.alloc (.cells #[.slice A n c, .slice A' m d] 30)) w.heap.size 30 #[.slice A n c, .slice A' m d] := Blk.new _ _ _
  have h0 := h.grow hb0
  have hfl := h.flen
  cases g : goodB xs fs && inB 0 ((m : Int) - 1) i
  · have H : Hid (fwB xs fs i = false) := by unfold Hid fwB; rw [hfl, g]
    go_enter Try.func38, Try.ntmps38
    go_wp2_with fail
    refine (isFiber_any i _ h0).mono ?_
    rintro e w2 ⟨rfl, hb2⟩
    rw [g]
    go_wp2_with fail
    go_ret2
    exact ⟨_, by rw [H.out]; rfl, by unfold fwL; rw [H.out]; exact World.ownsRow_nil _ _ _ _, bl_then hb0 hb2⟩
  · have H : Hid (fwB xs fs i = true) := by unfold Hid fwB; rw [hfl, g]
    have g' := g
    rw [Bool.and_eq_true] at g'
    have hi := inB_idx g'.2
    obtain ⟨j, rfl⟩ : ∃ j : Nat, i = (j : Int) := ⟨i.toNat, by omega⟩
    obtain ⟨k, hk1, hk2⟩ := grp_at g'.1 (i := j) (by rw [hfl]; omega)
    have hm := (goodB_bd g'.1).2.2
    rw [hfl] at hm
    have HK := hid hk2
    have HI := hid hk1
    have iz : (k : Int) < ((groupsL fs).length : Int) := by have := (List.getElem?_eq_some_iff.1 hk2).1; omega
    have H2 : Hid (fwL xs fs j = groupL fs j) := by unfold Hid fwL; rw [H.out]; simp
    clear g' hk1 hk2 hfl
    go_enter Try.func38, Try.ntmps38
    go_wp2_with fail
    refine (isFiber_any j _ h0).mono ?_
    rintro e w2 ⟨rfl, hb2⟩
    rw [g]
    have hx2 := hx0.below hb2 hx0.lt
    have hbw := bl_then hb0 hb2
    have z2 := hbw.size
    have C0 : ∀ w', Cls w2 w' → w'.cell? ⟨w.heap.size, 0, none⟩ = some (.slice A n c) := fun _ h => h.cell (by rw [hx2.cell]; rfl)
    have C1 : ∀ w', Cls w2 w' → w'.cell? ⟨w.heap.size, 1, none⟩ = some (.slice A' m d) := fun _ h => h.cell (by rw [hx2.cell]; rfl)
    have HN : Hid (∀ w', Cls w2 w' → NetIs w' A n c A' m d xs fs) := fun w' hw' => (h.grow hbw).grow hw'
    clear hx0 hx2
    go_wp2_with fail
    have p0 := C0 w2 (Cls.refl _)
    have p1 := C1 w2 (Cls.refl _)
    go_region_with (first
        | (go_at_call 80; refine (groups_any _ (HN.out _ (Cls.drew _))).mono ?_; rintro e w' ⟨⟨A2, n2, c2⟩, ss, rfl, hs, hb3⟩; dsimp only [slV] at hs ⊢; obtain ⟨ga, s, rfl, rfl, hsk, hq, hor⟩ := hs.at_ HK.out; have hcl := Cls.next hb3 (Cls.drew w2); have p2 := C0 _ hcl; have p3 := C1 _ hcl)
        | (go_at_call 82; refine (groupOf_any _ _ (HN.out _ hcl) (by omega)).mono ?_; rintro e w' ⟨rfl, hb4⟩; rw [HI.out]; have hq4 := bl_cell hb4 hq))
    all_goals
      have hbz := bl_then hbw (Cls.next hb4 hcl)
      have HOz := hid ((hor.below hb4).base (base' := w.heap.size) z2)
      clear hor hb4 hcl hs hb3
      go_wp2
      go_ret2
      exact ⟨_, by rw [H.out]; rfl, by rw [H2.out]; exact HOz.out, hbz⟩
set_option maxHeartbeats 1000000 in
set_option maxRecDepth 100000 in
theorem specFailing (i : Int) (w : World) (h : NetIs w A n c A' m d xs fs) :
    Calls Try.prog 37 #[.agg #[.slice A n c, .slice A' m d], .int .i64 i] w fun e w' => ∃ v, e = .returned (.tuple #[v, .bool (fwB xs fs i)]) ∧ Owns elInt w' w.heap.size 3 v (fwL xs fs i) ∧ Below w.heap.size w w' := by
  have hb0 := bl_alloc (Below.refl w.heap.size w) (.cells #[.slice A n c, .slice A' m d] 30)
  have hx0 : Blk (w.alloc (.cells #[.slice A n c, .slice A' m d] 30)) w.heap.size 30 #[.slice A n c, .slice A' m d] := Blk.new _ _ _
  have h0 := h.grow hb0
  have hfl := h.flen
  have hm := h.mle
  cases g : goodB xs fs
  · have H : Hid (fwB xs fs i = false) := by unfold Hid fwB; rw [g]; rfl
    go_enter Try.func37, Try.ntmps37
    go_wp2_with fail
    refine (goodN _ h0).mono ?_
    rintro e w2 ⟨rfl, hb2⟩
    rw [g]
    go_wp2_with fail
    go_ret2
    have hbw := bl_then hb0 hb2
    exact ⟨_, by rw [H.out]; rfl, by unfold fwL; rw [H.out]; exact Owns.of_blk (n := 0) (cap := 0) (cur := #[]) (Blk.new w2 3 #[]) hbw.size rfl (Nat.le_refl _) rfl (by decide) (Filled.zero _ _ _), bl_alloc hbw _⟩
  · cases g2 : inB 0 ((m : Int) - 1) i
    · have H : Hid (fwB xs fs i = false) := by unfold Hid fwB; rw [hfl, g, g2]; rfl
      go_enter Try.func37, Try.ntmps37
      go_wp2_with fail
      refine (goodN _ h0).mono ?_
      rintro e w2 ⟨rfl, hb2⟩
      rw [g]
      have q1 := (hx0.below hb2 hx0.lt).cell 1
      simp at q1
      go_wp2_with fail
      refine (l1In_any _ _ _ _).mono ?_
      rintro e w3 ⟨rfl, rfl⟩
      rw [g2]
      go_wp2_with fail
      go_ret2
      have hbw := bl_then hb0 hb2
      exact ⟨_, by rw [H.out]; rfl, by unfold fwL; rw [H.out]; exact Owns.of_blk (n := 0) (cap := 0) (cur := #[]) (Blk.new w2 3 #[]) hbw.size rfl (Nat.le_refl _) rfl (by decide) (Filled.zero _ _ _), bl_alloc hbw _⟩
    · have H : Hid (fwB xs fs i = true) := by unfold Hid fwB; rw [hfl, g, g2]; rfl
      have hi := inB_idx g2
      obtain ⟨j, rfl⟩ : ∃ j : Nat, i = (j : Int) := ⟨i.toNat, by omega⟩
      have H2 : Hid (fwL xs fs j = groupL fs j) := by unfold Hid fwL; rw [H.out]; simp
      go_enter Try.func37, Try.ntmps37
      go_wp2_with fail
      refine (goodN _ h0).mono ?_
      rintro e w2 ⟨rfl, hb2⟩
      rw [g]
      have q0 := (hx0.below hb2 hx0.lt).cell 0
      have q1 := (hx0.below hb2 hx0.lt).cell 1
      simp at q0 q1
      have hbw := bl_then hb0 hb2
      go_wp2_with fail
      refine (l1In_any _ _ _ _).mono ?_
      rintro e w3 ⟨rfl, rfl⟩
      rw [g2]
      go_wp2_with fail
      refine (l2Group_any j _ (h.grow hbw) (by omega)).mono ?_
      rintro e w4 ⟨s, rfl, ho, hb4⟩
      go_wp2_with fail
      go_ret2
      exact ⟨_, by rw [H.out]; rfl, by rw [H2.out]; exact ho.base hbw.size, bl_then hbw hb4⟩
end Go.Proofs.Ytldheoomlagapaa
