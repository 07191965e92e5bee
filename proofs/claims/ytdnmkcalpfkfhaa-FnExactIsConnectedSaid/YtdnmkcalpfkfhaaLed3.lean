/- Stores into a row of numbers of the ledger. Conditions: none. -/
import Derived.Test.YtdnmkcalpfkfhaaLed2
import Derived.Test.YtdnmkcalpfkfhaaCompLaw
namespace Go.Proofs.Ytdnmkcalpfkfhaa
open Go.RowKit
section
variable {w0 w w' : World} {L : List Thing}
/-- A row of one element at least lies at a block's head. -/
theorem Led.row {α : Type} {E : El α} (h : Led w0 w L) (i : Nat) {base : Nat} {e : TypeId} {v : Value} {xs : List α} (hi : L[i]? = some (tOwns E base e v xs)) (hne : 0 < xs.length) : ∃ g c, v = .slice (some ⟨g, 0, none⟩) xs.length c := by
  rcases Owns.cases (h.own i hi) with ⟨_, h0⟩ | ⟨g, c, cur, hv, _⟩
  · rw [h0] at hne; simp at hne
  · exact ⟨g, c, hv⟩
theorem Led.row_ {α : Type} {E : El α} (h : Led w0 w L) (i : Nat) {base n : Nat} {e : TypeId} {v : Value} {xs : List α} (hi : L[i]? = some (tOwns E base e v xs)) (hn : xs.length = n) (hne : 0 < n) : ∃ g c, v = .slice (some ⟨g, 0, none⟩) n c := by
  subst hn; exact h.row i hi hne
theorem Led.int_at (h : Led w0 w L) (i : Nat) {base g c n : Nat} {xs : List Int} (hi : L[i]? = some (tOwns elInt base 3 (.slice (some ⟨g, 0, none⟩) n c) xs)) {j : Nat} (hj : j < xs.length) : w.cell? ⟨g, j, none⟩ = some (.int .i64 (valL xs j)) := by
  rcases Owns.cases (h.own i hi) with ⟨h0, _⟩ | ⟨g1, c1, cur, hv, _, hb, _, _, _, hf⟩
  · cases h0
  · injection hv with h1 h2 h3
    injection h1 with h1
    injection h1 with h1
    subst h1
    have := hf j _ hj (valL_get hj) 0 _ rfl
    rw [hb.cell]
    simpa [elInt] using this
theorem Led.int_free (h : Led w0 w L) (i : Nat) {base g c n : Nat} {xs : List Int} (hi : L[i]? = some (tOwns elInt base 3 (.slice (some ⟨g, 0, none⟩) n c) xs)) (j : Nat) : w.frozen? ⟨g, j, none⟩ = false := by
  rcases Owns.cases (h.own i hi) with ⟨h0, _⟩ | ⟨g1, c1, cur, hv, _, hb, _, _, _, hf⟩
  · cases h0
  · injection hv with h1 h2 h3
    injection h1 with h1
    injection h1 with h1
    subst h1
    exact hb.frozen j
/-- One number is stored. -/
theorem Led.int_set (h : Led w0 w L) (i : Nat) {base g c n : Nat} {xs : List Int} (hi : L[i]? = some (tOwns elInt base 3 (.slice (some ⟨g, 0, none⟩) n c) xs)) {j : Nat} (hj : j < xs.length) (x : Int) :
    Led w0 (w.setCell ⟨g, j, none⟩ (.int .i64 x)) (L.set i (tOwns elInt base 3 (.slice (some ⟨g, 0, none⟩) n c) (xs.set j x))) := by
  have ho := h.own i hi
  rcases Owns.cases ho with ⟨h0, _⟩ | ⟨g1, c1, cur, hv, hbase, hb, hnc, hcm, hs, hf⟩
  · cases h0
  · injection hv with h1 h2 h3
    injection h1 with h1
    injection h1 with h1
    subst h1
    subst h3
    refine h.touch i hi rfl (Touch.set (S := fun b => (Value.slice (some ⟨g, 0, none⟩) n c).ownBlock = some b) w (p := ⟨g, j, none⟩) rfl _) ?_
    show Owns elInt _ base 3 (.slice (some ⟨g, 0, none⟩) n c) (xs.set j x)
    rw [h2]
    refine Owns.of_blk (hb.set j _) hbase (by simp) hnc (by simp [hs]) hcm (fun k y hk hy i u hu => ?_)
    have hu' : [Value.int .i64 y][i]? = some u := hu
    match i, hu' with
    | 0, hu' =>
      simp at hu'; subst hu'
      have e : k * elInt.sz + 0 = k := by show k * 1 + 0 = k; omega
      rw [e]
      rw [List.getElem?_set] at hy
      by_cases hjk : j = k
      · subst hjk
        rw [if_pos rfl, if_pos hj] at hy
        injection hy with hy; subst hy
        have hlt : j < cur.size := by rw [hs]; show j < c * 1; omega
        rw [Array.getElem?_setIfInBounds_self_of_lt hlt]
      · rw [if_neg hjk] at hy
        rw [Array.getElem?_setIfInBounds_ne hjk]
        have := hf k y hk hy 0 _ rfl
        rw [e] at this
        exact this
    | i + 1, hu' => simp at hu'
end
theorem marks_succ (k : Int) (n : Nat) : marks k (n + 1) = marks k n ++ [k + (n : Int)] := by simp [marks, List.range_succ]
end Go.Proofs.Ytdnmkcalpfkfhaa
