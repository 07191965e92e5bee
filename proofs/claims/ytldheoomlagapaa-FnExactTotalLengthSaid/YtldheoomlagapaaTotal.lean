/- TotalLength of the program and of the reference, walked. Conditions: none. -/
import Derived.Test.YtldheoomlagapaaNetIs
namespace Go.Proofs.Ytldheoomlagapaa
open Go.RowKit
/-- The sum of the first k lengths. -/
def lenTo (fs : List Fib) (k : Nat) : Int := ((fs.take k).map Fib.len).sum
theorem lenTo_succ {fs : List Fib} {k : Nat} {f : Fib} (h : fs[k]? = some f) : lenTo fs (k + 1) = lenTo fs k + f.len := by
  unfold lenTo
  obtain ⟨hk, hx⟩ := List.getElem?_eq_some_iff.1 h
  rw [List.take_succ_eq_append_getElem hk, hx, List.map_append, List.sum_append]; simp
def tlI (xs : List ByteArray) (fs : List Fib) : Int := if goodB xs fs then lenTo fs fs.length else 0
section
variable {n c m d : Nat} {A A' : Option Addr} {xs : List ByteArray} {fs : List Fib}
set_option maxRecDepth 100000 in
theorem implTotal (w : World) (h : NetIs w A n c A' m d xs fs) :
    Calls Try.prog 23 #[.agg #[.slice A n c, .slice A' m d]] w fun e w' => e = .returned (.tuple #[.int .i64 (tlI xs fs), .bool (goodB xs fs)]) ∧ Below w.heap.size w w' := by
  have hb0 := bl_alloc (Below.refl w.heap.size w) (.cells #[.slice A n c, .slice A' m d] 30)
  have hx0 : Blk (w.alloc (.cells #[.slice A n c, .slice A' m d] 30)) w.heap.size 30 #[.slice A n c, .slice A' m d] := Blk.new _ _ _
  have h0 := h.grow hb0
  cases g : goodB xs fs
  · have H : Hid (tlI xs fs = 0) := by unfold Hid tlI; simp [g]
    go_enter Try.func23, Try.ntmps23
    go_wp2_with fail
    refine (validN _ h0).mono ?_
    rintro e w2 ⟨rfl, hb2⟩
    rw [g]
    go_wp2_with fail
    go_ret2
    exact ⟨by rw [H.out]; rfl, bl_then hb0 hb2⟩
  · have hgd := goodB_bd g
    have H : Hid (tlI xs fs = lenTo fs m) := by unfold Hid tlI; simp [g, h.flen]
    have hfl := hid h.flen
    have hfb : Hid (∀ f ∈ fs, 0 ≤ f.len ∧ f.len ≤ 5000) := fun f hf => by have := goodB_fibB g hf; unfold fibB at this; simp at this; omega
    have hm : m ≤ 14 := by have := h.flen; omega
    go_enter Try.func23, Try.ntmps23
    go_wp2_with fail
    refine (validN _ h0).mono ?_
    rintro e w2 ⟨rfl, hb2⟩
    rw [g]
    have hbw2 := bl_then hb0 hb2
    have q1 := (hx0.below hb2 hx0.lt).cell 1
    simp at q1
    have h2 := hid (h0.grow hb2).fibs
    clear g hgd h0 hb0 hx0 h
    go_wp2_with fail
    clear q1 hb2
    go_loopw [4, 13] (fun t i wr => ∃ (k : Nat) (r : Int), k ≤ m ∧ i = .int .i64 k ∧ t = .int .i64 r ∧ 0 ≤ r ∧ r ≤ 5000 * k ∧ Hid (r = lenTo fs k) ∧ Below w2.heap.size w2 wr) (fun _ i _ => m - (intOf i).toNat)
    case atStart => exact ⟨0, 0, Nat.zero_le _, rfl, rfl, by omega, by omega, rfl, Below.refl _ _⟩
    case round =>
      obtain ⟨k, r, hk, rfl, rfl, hr0, hr1, hr, hb⟩ := hrel
      by_cases hlt : k < m
      · obtain ⟨b, o, rfl, _, hc⟩ := h2.out.at_ hlt
        obtain ⟨f, hfk⟩ := get_of hfl.out hlt
        have f0 := bl_cell hb (hc k f hfk 0 _ rfl)
        have f1 := bl_cell hb (hc k f hfk 1 _ rfl)
        have f2 := bl_cell hb (hc k f hfk 2 _ rfl)
        have f3 := bl_cell hb (hc k f hfk 3 _ rfl)
        simp only [elFib, Nat.add_zero] at f0 f1 f2 f3
        obtain ⟨l0, l1⟩ := hfb.out f (List.mem_of_getElem? hfk)
        have HR : Hid (r + f.len = lenTo fs (k + 1)) := by have := hr.out; rw [lenTo_succ hfk, ← this]; rfl
        clear hc hfk hr
        go_wp2
        go_roundw
        case rel => exact ⟨k + 1, _, by omega, by go_num, rfl, by omega, by omega, HR, bl_alloc hb _⟩
        case measure => simp [intOf]; omega
      · have HE : Hid (tlI xs fs = r) := by obtain rfl : k = m := (by omega); rw [H.out]; exact hr.out.symm
        clear hr
        go_wp2
        go_ret2
        exact ⟨by rw [HE.out]; rfl, bl_then hbw2 hb⟩
set_option maxRecDepth 100000 in
theorem specTotal (w : World) (h : NetIs w A n c A' m d xs fs) :
    Calls Try.prog 22 #[.agg #[.slice A n c, .slice A' m d]] w fun e w' => e = .returned (.tuple #[.int .i64 (tlI xs fs), .bool (goodB xs fs)]) ∧ Below w.heap.size w w' := by
  have hb0 := bl_alloc (Below.refl w.heap.size w) (.cells #[.slice A n c, .slice A' m d] 30)
  have hx0 : Blk (w.alloc (.cells #[.slice A n c, .slice A' m d] 30)) w.heap.size 30 #[.slice A n c, .slice A' m d] := Blk.new _ _ _
  have h0 := h.grow hb0
  cases g : goodB xs fs
  · have H : Hid (tlI xs fs = 0) := by unfold Hid tlI; simp [g]
    go_enter Try.func22, Try.ntmps22
    go_wp2_with fail
    refine (goodN _ h0).mono ?_
    rintro e w2 ⟨rfl, hb2⟩
    rw [g]
    go_wp2_with fail
    go_ret2
    exact ⟨by rw [H.out]; rfl, bl_then hb0 hb2⟩
  · have hgd := goodB_bd g
    have H : Hid (tlI xs fs = lenTo fs m) := by unfold Hid tlI; simp [g, h.flen]
    have hfl := hid h.flen
    have hfb : Hid (∀ f ∈ fs, 0 ≤ f.len ∧ f.len ≤ 5000) := fun f hf => by have := goodB_fibB g hf; unfold fibB at this; simp at this; omega
    have hm : m ≤ 14 := by have := h.flen; omega
    go_enter Try.func22, Try.ntmps22
    go_wp2_with fail
    refine (goodN _ h0).mono ?_
    rintro e w2 ⟨rfl, hb2⟩
    rw [g]
    have hbw2 := bl_then hb0 hb2
    have q1 := (hx0.below hb2 hx0.lt).cell 1
    simp at q1
    have h2 := hid (h0.grow hb2).fibs
    clear g hgd h0 hb0 hx0 h
    go_wp2_with fail
    clear hb2
    go_loopw [4, 5] (fun t i wr => ∃ (k : Nat) (r : Int), k ≤ m ∧ i = .int .i64 k ∧ t = .int .i64 r ∧ 0 ≤ r ∧ r ≤ 5000 * k ∧ Hid (r = lenTo fs k) ∧ wr = w2) (fun _ i _ => m - (intOf i).toNat)
    case atStart => exact ⟨0, 0, Nat.zero_le _, rfl, rfl, by omega, by omega, rfl, rfl⟩
    case round =>
      obtain ⟨k, r, hk, rfl, rfl, hr0, hr1, hr, rfl⟩ := hrel
      by_cases hlt : k < m
      · obtain ⟨b, o, rfl, _, hc⟩ := h2.out.at_ hlt
        obtain ⟨f, hfk⟩ := get_of hfl.out hlt
        have f2 := (hc k f hfk 2 _ rfl)
        simp only [elFib] at f2
        obtain ⟨l0, l1⟩ := hfb.out f (List.mem_of_getElem? hfk)
        have HR : Hid (r + f.len = lenTo fs (k + 1)) := by have := hr.out; rw [lenTo_succ hfk, ← this]; rfl
        clear hc hfk hr
        go_wp2
        go_roundw
        case rel => exact ⟨k + 1, _, by omega, by go_num, rfl, by omega, by omega, HR, trivial⟩
        case measure => simp [intOf]; omega
      · have HE : Hid (tlI xs fs = r) := by obtain rfl : k = m := (by omega); rw [H.out]; exact hr.out.symm
        clear hr
        go_wp2
        go_ret2
        exact ⟨by rw [HE.out]; rfl, hbw2⟩
end
end Go.Proofs.Ytldheoomlagapaa
