/- Rows of rows of numbers. Conditions: none. -/
import Derived.Test.YtdnmkcalpfkfhaaRows
import Derived.Test.YtdnmkcalpfkfhaaApp
import Derived.Test.YtdnmkcalpfkfhaaMarkI
namespace Go.Proofs.Ytdnmkcalpfkfhaa
open Go.RowKit
/-- A slice, as a value. -/
structure Sl where
  A : Option Addr
  n : Nat
  c : Nat
def slV (s : Sl) : Value := .slice s.A s.n s.c
def elSl : El Sl := ⟨1, fun s => [slV s], fun _ => rfl, by decide, fun _ u h => by simp at h; subst h; rfl⟩
/-- The row v of slices is the call's own, and so is each of its slices; they hold rows; no two share memory. -/
def OwnsSS (w : World) (base : Nat) (v : Value) (ss : List Sl) (rows : List (List Int)) : Prop :=
  Owns elSl w base 26 v ss ∧ ss.length = rows.length ∧ (∀ (i : Nat) s r, ss[i]? = some s → rows[i]? = some r → Owns elInt w base 3 (slV s) r) ∧
    ∀ (i j : Nat) s t g, i < j → ss[i]? = some s → ss[j]? = some t → (slV s).ownBlock = some g → ¬ ((slV t).ownBlock = some g)
section
variable {w w' : World} {base : Nat} {v : Value} {ss : List Sl} {rows : List (List Int)}
theorem OwnsSS.below (h : OwnsSS w base v ss rows) (hb : Below w.heap.size w w') : OwnsSS w' base v ss rows :=
  ⟨h.1.below hb, h.2.1, fun i s r h1 h2 => (h.2.2.1 i s r h1 h2).below hb, h.2.2.2⟩
theorem OwnsSS.base_ {base' : Nat} (h : OwnsSS w base v ss rows) (hb : base' ≤ base) : OwnsSS w base' v ss rows :=
  ⟨h.1.base hb, h.2.1, fun i s r h1 h2 => (h.2.2.1 i s r h1 h2).base hb, h.2.2.2⟩
theorem OwnsSS.nil (w : World) (base : Nat) : OwnsSS w base (.slice none 0 0) [] [] :=
  ⟨World.ownsRow_nil _ _ _ _, rfl, fun i s r h1 => by simp at h1, fun i j s t g _ h1 => by simp at h1⟩
/-- One row more, made behind the others; the row of slices may have moved. -/
theorem OwnsSS.push {w2 w3 : World} {r0 : List Int} {s0 : Sl} {v' : Value} (h : OwnsSS w base v ss rows) (hb : Below w.heap.size w w2) (hbase : base ≤ w.heap.size) (hr : Owns elInt w2 w.heap.size 3 (slV s0) r0)
    (hown : Owns elSl w3 base 26 v' (ss ++ [s0])) (hg : w2.grownBy w3 v.ownBlock) : OwnsSS w3 base v' (ss ++ [s0]) (rows ++ [r0]) := by
  have h2 := h.below hb
  have ht : Touch (fun b => v.ownBlock = some b) w2 w3 := ⟨hg.os, hg.tape, hg.output, hg.size, fun k hk hn => hg.block k hk (fun e => hn e.symm)⟩
  refine ⟨hown, by simp [h.2.1], fun i s r h3 h4 => ?_, fun i j s t g hij h3 h4 h5 h6 => ?_⟩
  · rcases Nat.lt_or_ge i ss.length with hi | hi
    · rw [List.getElem?_append_left hi] at h3
      rw [List.getElem?_append_left (by rw [← h.2.1]; exact hi)] at h4
      have ho := h2.2.2.1 i s r h3 h4
      exact ho.touch ht (fun g hg' => owns_ne h2.1 ho (by decide) g hg')
    · rw [List.getElem?_append_right hi] at h3
      rw [List.getElem?_append_right (by rw [← h.2.1]; exact hi)] at h4
      have e1 : i - ss.length = 0 := by have := (List.getElem?_eq_some_iff.1 h3).1; simp at this; omega
      have e2 : i - rows.length = 0 := by rw [← h.2.1]; exact e1
      rw [e1] at h3; rw [e2] at h4
      simp at h3 h4; subst h3; subst h4
      exact (hr.touch ht (fun g hg' => owns_ne h2.1 hr (by decide) g hg')).base hbase
  · rcases Nat.lt_or_ge j ss.length with hj | hj
    · rw [List.getElem?_append_left hj] at h4
      rw [List.getElem?_append_left (by omega)] at h3
      exact h.2.2.2 i j s t g hij h3 h4 h5 h6
    · rw [List.getElem?_append_right hj] at h4
      have e1 : j - ss.length = 0 := by have := (List.getElem?_eq_some_iff.1 h4).1; simp at this; omega
      rw [e1] at h4; simp at h4; subst h4
      rw [List.getElem?_append_left (by omega)] at h3
      obtain ⟨r, hrr⟩ : ∃ r, rows[i]? = some r := ⟨rows[i]'(by rw [← h.2.1]; omega), List.getElem?_eq_getElem _⟩
      have a1 := ((h.2.2.1 i s r h3 hrr).lies g h5).2
      have a2 := (hr.lies g h6).1
      omega
end
theorem sl_info : (Try.prog.info? 26).map (fun i => (i.zero, i.size, i.bytes)) = some (some (.slice none 0 0), 1, 24) := by kernel_rfl
end Go.Proofs.Ytdnmkcalpfkfhaa
