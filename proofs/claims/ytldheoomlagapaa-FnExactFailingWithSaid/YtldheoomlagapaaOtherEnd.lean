/- OtherEnd of the program and of the reference, walked. Conditions: none. -/
import Derived.Test.YtldheoomlagapaaOther
namespace Go.Proofs.Ytldheoomlagapaa
open Go.RowKit
instance : Inhabited ByteArray := ⟨ByteArray.empty⟩
def oeF (fs : List Fib) (i v : Int) : Int := otherF (fs.getD i.toNat default) v
def oeB (xs : List ByteArray) (fs : List Fib) (i v : Int) : Bool := goodB xs fs && inB 0 ((fs.length : Int) - 1) i && !decide (oeF fs i v < 0)
def oeI (xs : List ByteArray) (fs : List Fib) (i v : Int) : Int := if oeB xs fs i v then oeF fs i v else 0
section
variable {n c m d : Nat} {A A' : Option Addr} {xs : List ByteArray} {fs : List Fib}
set_option maxRecDepth 100000 in
theorem isFiber_any (i : Int) (w : World) (h : NetIs w A n c A' m d xs fs) :
    Calls Try.prog 73 #[.agg #[.slice A n c, .slice A' m d], .int .i64 i] w fun e w' => e = .returned (.bool (goodB xs fs && inB 0 ((m : Int) - 1) i)) ∧ Below w.heap.size w w' := by
  have hb0 := bl_alloc (Below.refl w.heap.size w) (.cells #[.slice A n c, .slice A' m d] 30)
  have hx0 : Blk (w.alloc (.cells #[.slice A n c, .slice A' m d] 30)) w.heap.size 30 #[.slice A n c, .slice A' m d] := Blk.new _ _ _
  have h0 := h.grow hb0
  have hm := h.mle
  cases g : goodB xs fs
  · go_enter Try.func73, Try.ntmps73
    go_wp2_with fail
    refine (validN _ h0).mono ?_
    rintro e w2 ⟨rfl, hb2⟩
    rw [g]
    go_wp2_with fail
    go_ret
    exact ⟨rfl, bl_then hb0 hb2⟩
  · go_enter Try.func73, Try.ntmps73
    go_wp2_with fail
    refine (validN _ h0).mono ?_
    rintro e w2 ⟨rfl, hb2⟩
    rw [g]
    have q1 := (hx0.below hb2 hx0.lt).cell 1
    simp at q1
    go_wp2_with fail
    refine (within_any _ _ _ _).mono ?_
    rintro e w3 ⟨rfl, rfl⟩
    go_wp2_with fail
    go_ret
    exact ⟨rfl, bl_then hb0 hb2⟩
theorem inB_idx {i : Int} {m : Nat} (h : inB 0 ((m : Int) - 1) i = true) : 0 ≤ i ∧ i < m := by unfold inB at h; simp at h; omega
set_option maxRecDepth 100000 in
theorem implOther (i v : Int) (w : World) (h : NetIs w A n c A' m d xs fs) :
    Calls Try.prog 25 #[.agg #[.slice A n c, .slice A' m d], .int .i64 i, .int .i64 v] w fun e w' => e = .returned (.tuple #[.int .i64 (oeI xs fs i v), .bool (oeB xs fs i v)]) ∧ Below w.heap.size w w' := by
  have hb0 := bl_alloc (Below.refl w.heap.size w) (.cells #[.slice A n c, .slice A' m d] 30)
  have hx0 : Blk (w.alloc (.cells #[.slice A n c, .slice A' m d] 30)) w.heap.size 30 #[.slice A n c, .slice A' m d] := Blk.new _ _ _
  have h0 := h.grow hb0
  have hm := h.mle
  have hfl := h.flen
  cases g : (goodB xs fs && inB 0 ((m : Int) - 1) i)
  · have H : Hid (oeI xs fs i v = 0 ∧ oeB xs fs i v = false) := by unfold Hid oeI oeB; rw [hfl, g]; simp
    clear hfl
    go_enter Try.func25, Try.ntmps25
    go_wp2_with fail
    refine (isFiber_any i _ h0).mono ?_
    rintro e w2 ⟨rfl, hb2⟩
    rw [g]
    go_wp2_with fail
    go_ret2
    exact ⟨by rw [H.out.1, H.out.2]; rfl, bl_then hb0 hb2⟩
  · obtain ⟨g1, g2⟩ := (Bool.and_eq_true _ _).mp g
    obtain ⟨i0, i1⟩ := inB_idx g2
    obtain ⟨f, hf⟩ := get_of (k := i.toNat) hfl (by omega)
    have hgf : oeF fs i v = otherF f v := by unfold oeF; rw [getD_of hf]
    have H : Hid (oeB xs fs i v = !decide (otherF f v < 0)) := by unfold Hid oeB; rw [hfl, g, hgf]; rfl
    have HG := hid hgf
    have hf' := hid hf
    clear hfl g1 g2 hf hgf
    cases g4 : decide (otherF f v < 0)
    · have HI : Hid (oeI xs fs i v = otherF f v ∧ oeB xs fs i v = true) := by unfold Hid; have := H.out; rw [g4] at this; exact ⟨by unfold oeI; rw [this, HG.out]; rfl, this⟩
      go_enter Try.func25, Try.ntmps25
      go_wp2_with fail
      refine (isFiber_any i _ h0).mono ?_
      rintro e w2 ⟨rfl, hb2⟩
      rw [g]
      have q1 := (hx0.below hb2 hx0.lt).cell 1
      simp at q1
      obtain ⟨b, o, rfl, _, hc⟩ := (h0.grow hb2).fibs.at_ (k := i.toNat) (by omega)
      have f0 := hc _ f hf'.out 0 _ rfl
      have f1 := hc _ f hf'.out 1 _ rfl
      have f2 := hc _ f hf'.out 2 _ rfl
      have f3 := hc _ f hf'.out 3 _ rfl
      simp only [elFib, Nat.add_zero] at f0 f1 f2 f3
      go_wp2_with fail
      refine (otherEnd_any f v _).mono ?_
      rintro e w3 ⟨rfl, hb3⟩
      replace q1 := bl_cell hb3 q1
      replace f0 := bl_cell hb3 f0
      replace f1 := bl_cell hb3 f1
      replace f2 := bl_cell hb3 f2
      replace f3 := bl_cell hb3 f3
      clear hc
      go_wp2_with fail
      refine (otherEnd_any f v _).mono ?_
      rintro e w4 ⟨rfl, hb4⟩
      go_wp2_with fail
      go_ret2
      exact ⟨by rw [HI.out.1, HI.out.2]; rfl, bl_then (bl_then (bl_then hb0 hb2) hb3) hb4⟩
    · have HI : Hid (oeI xs fs i v = 0 ∧ oeB xs fs i v = false) := by unfold Hid; have := H.out; rw [g4] at this; exact ⟨by unfold oeI; rw [this]; rfl, this⟩
      go_enter Try.func25, Try.ntmps25
      go_wp2_with fail
      refine (isFiber_any i _ h0).mono ?_
      rintro e w2 ⟨rfl, hb2⟩
      rw [g]
      have q1 := (hx0.below hb2 hx0.lt).cell 1
      simp at q1
      obtain ⟨b, o, rfl, _, hc⟩ := (h0.grow hb2).fibs.at_ (k := i.toNat) (by omega)
      have f0 := hc _ f hf'.out 0 _ rfl
      have f1 := hc _ f hf'.out 1 _ rfl
      have f2 := hc _ f hf'.out 2 _ rfl
      have f3 := hc _ f hf'.out 3 _ rfl
      simp only [elFib, Nat.add_zero] at f0 f1 f2 f3
      clear hc
      go_wp2_with fail
      refine (otherEnd_any f v _).mono ?_
      rintro e w3 ⟨rfl, hb3⟩
      go_wp2_with fail
      go_ret2
      exact ⟨by rw [HI.out.1, HI.out.2]; rfl, bl_then (bl_then hb0 hb2) hb3⟩
set_option maxRecDepth 100000 in
theorem specOther (i v : Int) (w : World) (h : NetIs w A n c A' m d xs fs) :
    Calls Try.prog 24 #[.agg #[.slice A n c, .slice A' m d], .int .i64 i, .int .i64 v] w fun e w' => e = .returned (.tuple #[.int .i64 (oeI xs fs i v), .bool (oeB xs fs i v)]) ∧ Below w.heap.size w w' := by
  have hb0 := bl_alloc (Below.refl w.heap.size w) (.cells #[.slice A n c, .slice A' m d] 30)
  have hx0 : Blk (w.alloc (.cells #[.slice A n c, .slice A' m d] 30)) w.heap.size 30 #[.slice A n c, .slice A' m d] := Blk.new _ _ _
  have h0 := h.grow hb0
  have hm := h.mle
  have hn := h.nle
  have hfl := h.flen
  cases g : goodB xs fs
  · have H : Hid (oeI xs fs i v = 0 ∧ oeB xs fs i v = false) := by unfold Hid oeI oeB; rw [g]; simp
    clear hfl
    go_enter Try.func24, Try.ntmps24
    go_wp2_with fail
    refine (goodN _ h0).mono ?_
    rintro e w2 ⟨rfl, hb2⟩
    rw [g]
    go_wp2_with fail
    go_ret2
    exact ⟨by rw [H.out.1, H.out.2]; rfl, bl_then hb0 hb2⟩
  · cases g2 : inB 0 ((m : Int) - 1) i
    · have H : Hid (oeI xs fs i v = 0 ∧ oeB xs fs i v = false) := by unfold Hid oeI oeB; rw [g, hfl, g2]; simp
      clear hfl
      go_enter Try.func24, Try.ntmps24
      go_wp2_with fail
      refine (goodN _ h0).mono ?_
      rintro e w2 ⟨rfl, hb2⟩
      rw [g]
      have q1 := (hx0.below hb2 hx0.lt).cell 1
      simp at q1
      go_wp2_with fail
      refine (l1In_any _ _ _ _).mono ?_
      rintro e w3 ⟨rfl, rfl⟩
      rw [g2]
      go_wp2_with fail
      go_ret2
      exact ⟨by rw [H.out.1, H.out.2]; rfl, bl_then hb0 hb2⟩
    · obtain ⟨i0, i1⟩ := inB_idx g2
      obtain ⟨f, hf⟩ := get_of (k := i.toNat) hfl (by omega)
      have hgf : oeF fs i v = otherF f v := by unfold oeF; rw [getD_of hf]
      have H : Hid (oeB xs fs i v = !decide (otherF f v < 0)) := by unfold Hid oeB; rw [hfl, g, g2, hgf]; rfl
      have hout : inB 0 ((n : Int) - 1) v = false → otherF f v = -1 := fun hv => otherF_out (by have := goodB_fibB g (List.mem_of_getElem? hf); rwa [h.xlen] at this) hv
      have HG := hid hgf
      have hf' := hid hf
      clear hfl hf hgf
      cases g3 : inB 0 ((n : Int) - 1) v
      · have HI : Hid (oeI xs fs i v = 0 ∧ oeB xs fs i v = false) := by
          have e1 := hout g3
          have : oeB xs fs i v = false := by rw [H.out, e1]; rfl
          exact ⟨by unfold oeI; rw [this]; rfl, this⟩
        clear hout
        go_enter Try.func24, Try.ntmps24
        go_wp2_with fail
        refine (goodN _ h0).mono ?_
        rintro e w2 ⟨rfl, hb2⟩
        rw [g]
        have q0 := (hx0.below hb2 hx0.lt).cell 0
        have q1 := (hx0.below hb2 hx0.lt).cell 1
        simp at q0 q1
        go_wp2_with fail
        refine (l1In_any _ _ _ _).mono ?_
        rintro e w3 ⟨rfl, rfl⟩
        rw [g2]
        go_wp2_with fail
        refine (l1In_any _ _ _ _).mono ?_
        rintro e w3 ⟨rfl, rfl⟩
        rw [g3]
        go_wp2_with fail
        go_ret2
        exact ⟨by rw [HI.out.1, HI.out.2]; rfl, bl_then hb0 hb2⟩
      · clear hout
        cases g4 : decide (otherF f v < 0)
        · have HI : Hid (oeI xs fs i v = otherF f v ∧ oeB xs fs i v = true) := by unfold Hid; have := H.out; rw [g4] at this; exact ⟨by unfold oeI; rw [this, HG.out]; rfl, this⟩
          go_enter Try.func24, Try.ntmps24
          go_wp2_with fail
          refine (goodN _ h0).mono ?_
          rintro e w2 ⟨rfl, hb2⟩
          rw [g]
          have q0 := (hx0.below hb2 hx0.lt).cell 0
          have q1 := (hx0.below hb2 hx0.lt).cell 1
          simp at q0 q1
          go_wp2_with fail
          refine (l1In_any _ _ _ _).mono ?_
          rintro e w3 ⟨rfl, rfl⟩
          rw [g2]
          go_wp2_with fail
          refine (l1In_any _ _ _ _).mono ?_
          rintro e w3 ⟨rfl, rfl⟩
          rw [g3]
          go_wp2_with fail
          refine (l2Other_any i v _ (h0.grow hb2) i0 i1 hf'.out).mono ?_
          rintro e w3 ⟨rfl, hb3⟩
          replace q0 := bl_cell hb3 q0
          replace q1 := bl_cell hb3 q1
          go_wp2_with fail
          refine (l2Other_any i v _ ((h0.grow hb2).grow hb3) i0 i1 hf'.out).mono ?_
          rintro e w4 ⟨rfl, hb4⟩
          go_wp2_with fail
          go_ret2
          exact ⟨by rw [HI.out.1, HI.out.2]; rfl, bl_then (bl_then (bl_then hb0 hb2) hb3) hb4⟩
        · have HI : Hid (oeI xs fs i v = 0 ∧ oeB xs fs i v = false) := by unfold Hid; have := H.out; rw [g4] at this; exact ⟨by unfold oeI; rw [this]; rfl, this⟩
          go_enter Try.func24, Try.ntmps24
          go_wp2_with fail
          refine (goodN _ h0).mono ?_
          rintro e w2 ⟨rfl, hb2⟩
          rw [g]
          have q0 := (hx0.below hb2 hx0.lt).cell 0
          have q1 := (hx0.below hb2 hx0.lt).cell 1
          simp at q0 q1
          go_wp2_with fail
          refine (l1In_any _ _ _ _).mono ?_
          rintro e w3 ⟨rfl, rfl⟩
          rw [g2]
          go_wp2_with fail
          refine (l1In_any _ _ _ _).mono ?_
          rintro e w3 ⟨rfl, rfl⟩
          rw [g3]
          go_wp2_with fail
          refine (l2Other_any i v _ (h0.grow hb2) i0 i1 hf'.out).mono ?_
          rintro e w3 ⟨rfl, hb3⟩
          go_wp2_with fail
          go_ret2
          exact ⟨by rw [HI.out.1, HI.out.2]; rfl, bl_then (bl_then hb0 hb2) hb3⟩
end
end Go.Proofs.Ytldheoomlagapaa
