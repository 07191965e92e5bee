/- What an append leaves, in the words of Owns and Below. Conditions: none. -/
import Derived.Test.YtdnmkcalpfkfhaaRows
import Derived.Test.YtdnmkcalpfkfhaaMem
namespace Go.Proofs.Ytdnmkcalpfkfhaa
open Go.RowKit
theorem Owns.appended {α : Type} {E : El α} {w : World} {base : Nat} {e : TypeId} {v : Value} {xs : List α} {x : α} (h : w.ownsRow base e E.sz v (xs.length + 1) (xs.flatMap E.cells ++ E.cells x)) : Owns E w base e v (xs ++ [x]) := by
  unfold Owns; simpa using h
theorem Owns.sees {α : Type} {E : El α} {w : World} {base n c : Nat} {A : Option Addr} {e : TypeId} {xs : List α} (h : Owns E w base e (.slice A n c) xs) : Sees E w w.heap.size A xs.length xs := by
  obtain ⟨A', c', hv, _, _, hs⟩ := h.form
  injection hv with h1 h2 h3
  rw [h1]; exact hs
theorem bl_grown {w0 w w' : World} {v : Value} (hb : Below w0.heap.size w0 w) (hg : w.grownBy w' v.ownBlock) (hv : ∀ g, v.ownBlock = some g → w0.heap.size ≤ g) : Below w0.heap.size w0 w' :=
  hb.trans ⟨hg.os, hg.tape, hg.output, hg.size, fun k hk => hg.block k (Nat.lt_of_lt_of_le hk hb.size) (fun e => by have := hv k e.symm; omega)⟩
/-- Those of the first k numbers that pass p. -/
def idsTo (p : Nat → Bool) (k : Nat) : List Int := ((List.range k).filter p).map fun (j : Nat) => (j : Int)
theorem idsTo_zero (p : Nat → Bool) : idsTo p 0 = [] := rfl
theorem idsTo_yes {p : Nat → Bool} {k : Nat} (h : p k = true) : idsTo p (k + 1) = idsTo p k ++ [(k : Int)] := by simp [idsTo, List.range_succ, List.filter_append, h]
theorem idsTo_no {p : Nat → Bool} {k : Nat} (h : p k = false) : idsTo p (k + 1) = idsTo p k := by simp [idsTo, List.range_succ, List.filter_append, h]
theorem idsTo_len (p : Nat → Bool) (k : Nat) : (idsTo p k).length ≤ k := by
  unfold idsTo
  rw [List.length_map]
  exact Nat.le_trans (List.length_filter_le _ _) (by simp)
theorem idsTo_congr {p q : Nat → Bool} {k : Nat} (h : ∀ j, j < k → p j = q j) : idsTo p k = idsTo q k := by
  induction k with
  | zero => rfl
  | succ k ih =>
    have h1 := ih (fun j hj => h j (by omega))
    cases g : q k
    · rw [idsTo_no g, idsTo_no ((h k (by omega)).trans g), h1]
    · rw [idsTo_yes g, idsTo_yes ((h k (by omega)).trans g), h1]
theorem one_new (w : World) (x : Value) (t : TypeId) {b : Nat} (hb : b = w.heap.size) : ∀ j u, [x][j]? = some u → (w.alloc (.cells #[x] t)).cell? ((⟨b, 0, none⟩ : Addr).add j) = some u := by
  subst hb
  intro j u hj
  match j, hj with
  | 0, hj => simp at hj; subst hj; simp [Addr.add]
theorem int_info : (Try.prog.info? 3).map (fun i => (i.zero, i.size, i.bytes)) = some (some (.int .i64 0), 1, 8) := by kernel_rfl
end Go.Proofs.Ytdnmkcalpfkfhaa
