/- What a call may have turned: blocks of a set alone; rows that are marked. Conditions: none. -/
import Derived.Test.YtdnmkcalpfkfhaaKit
namespace Go.Proofs.Ytdnmkcalpfkfhaa
open Go.RowKit
/-- Of the old blocks only those of S may have turned. -/
structure Touch (S : Nat → Prop) (w w' : World) : Prop where
  os : w'.os = w.os
  tape : w'.tape = w.tape
  output : w'.output = w.output
  size : w.heap.size ≤ w'.heap.size
  block : ∀ k, k < w.heap.size → ¬ S k → w'.heap[k]? = w.heap[k]?
section
variable {S S' : Nat → Prop} {w w' w2 : World}
theorem Touch.refl (S : Nat → Prop) (w : World) : Touch S w w := ⟨rfl, rfl, rfl, Nat.le_refl _, fun _ _ _ => rfl⟩
theorem Touch.of_below (h : Below w.heap.size w w') : Touch S w w' := ⟨h.os, h.tape, h.output, h.size, fun k hk _ => h.block k hk⟩
theorem Touch.trans (h : Touch S w w') (k : Touch S w' w2) : Touch S w w2 :=
  ⟨k.os.trans h.os, k.tape.trans h.tape, k.output.trans h.output, Nat.le_trans h.size k.size, fun i hi hn => (k.block i (Nat.lt_of_lt_of_le hi h.size) hn).trans (h.block i hi hn)⟩
theorem Touch.mono (h : Touch S w w') (hS : ∀ k, S k → S' k) : Touch S' w w' := ⟨h.os, h.tape, h.output, h.size, fun k hk hn => h.block k hk (fun hs => hn (hS k hs))⟩
theorem Touch.set (w : World) {p : Addr} (hp : S p.block) (u : Value) : Touch S w (w.setCell p u) :=
  ⟨rfl, rfl, rfl, by simp [World.setCell], fun k _ hn => Below.heap_setCell _ _ _ _ (fun e => hn (e ▸ hp))⟩
theorem Touch.then_ (h : Touch S w w') (k : Below w'.heap.size w' w2) : Touch S w w2 := h.trans (.of_below k)
theorem Touch.below {B : Nat} (h : Touch S w w') (hS : ∀ k, S k → B ≤ k) (hB : B ≤ w.heap.size) : Below B w w' :=
  ⟨h.os, h.tape, h.output, h.size, fun k hk => h.block k (by omega) (fun hs => by have := hS k hs; omega)⟩
theorem Blk.touch {g : Nat} {e : TypeId} {cur : Array Value} (h : Blk w g e cur) (t : Touch S w w') (hn : ¬ S g) : Blk w' g e cur := (t.block g h.lt hn).trans h
theorem Owns.touch {α : Type} {E : El α} {base : Nat} {e : TypeId} {v : Value} {xs : List α} (h : Owns E w base e v xs) (t : Touch S w w') (hn : ∀ g, v.ownBlock = some g → ¬ S g) : Owns E w' base e v xs := by
  refine ⟨h.1, ?_⟩
  rcases h.2 with h0 | ⟨g, cap, cur, hv, hg, hh, r⟩
  · exact .inl h0
  · exact .inr ⟨g, cap, cur, hv, hg, (t.block g (Array.getElem?_eq_some_iff.1 hh).1 (hn g (by rw [hv]; rfl))).trans hh, r⟩
theorem Sees.touch {α : Type} {E : El α} {B n : Nat} {A : Option Addr} {xs : List α} (h : Sees E w B A n xs) (t : Touch S w w') (hS : ∀ k, S k → B ≤ k) : Sees E w' B A n xs := by
  refine ⟨h.1, ?_⟩
  rcases h.2 with h0 | ⟨b, o, rfl, hb, hc⟩
  · exact .inl h0
  · refine .inr ⟨b, o, rfl, hb, fun k x hx j u hu => ?_⟩
    have h1 := hc k x hx j u hu
    exact (World.cell?_of_block (a := ⟨b, _, none⟩) (t.block b (World.block_lt_of_cell? w _ h1) (fun hs => by have := hS b hs; omega))).trans h1
end
/-- Where a row of the call's own lies. -/
theorem Owns.lies {α : Type} {E : El α} {w : World} {base : Nat} {e : TypeId} {v : Value} {xs : List α} (h : Owns E w base e v xs) : ∀ g, v.ownBlock = some g → base ≤ g ∧ g < w.heap.size := World.ownsRow.lt h
/-- Nil, or a block that is known. -/
theorem Owns.cases {α : Type} {E : El α} {w : World} {base : Nat} {e : TypeId} {v : Value} {xs : List α} (h : Owns E w base e v xs) :
    (v = .slice none 0 0 ∧ xs = []) ∨ ∃ g cap cur, v = .slice (some ⟨g, 0, none⟩) xs.length cap ∧ base ≤ g ∧ Blk w g e cur ∧ xs.length ≤ cap ∧ cap ≤ maxLen ∧ cur.size = cap * E.sz ∧ Filled E cur xs xs.length := by
  rcases h.2 with ⟨hv, hn⟩ | ⟨g, cap, cur, hv, hg, hh, h1, h2, h3, h4⟩
  · exact .inl ⟨hv, List.eq_nil_of_length_eq_zero hn⟩
  · refine .inr ⟨g, cap, cur, hv, hg, hh, h1, h2, h3, fun j x hj hx i u hu => ?_⟩
    have h5 := flat_get E xs j x hx i u hu
    rw [← h4, List.getElem?_take] at h5
    split at h5
    · simpa using h5
    · cases h5
theorem Owns.of_blk {α : Type} {E : El α} {w : World} {base g n cap : Nat} {e : TypeId} {cur : Array Value} {xs : List α} (h : Blk w g e cur) (hb : base ≤ g) (hl : xs.length = n) (hnc : n ≤ cap) (hs : cur.size = cap * E.sz) (hm : cap ≤ maxLen)
    (hf : Filled E cur xs n) : Owns E w base e (.slice (some ⟨g, 0, none⟩) n cap) xs := by
  refine ⟨flat_len E xs, .inr ⟨g, cap, cur, by rw [hl], hb, h, by omega, hm, hs, ?_⟩⟩
  rw [hl]
  have hle : n * E.sz ≤ cur.size := by rw [hs]; exact Nat.mul_le_mul_right _ hnc
  refine flat_ext E xs _ (by rw [List.length_take, Array.length_toList, hl]; omega) (fun j x hx i u hu => ?_)
  have hj : j < n := by rw [← hl]; exact (List.getElem?_eq_some_iff.1 hx).1
  have hi : i < E.sz := by rw [← E.len x]; exact (List.getElem?_eq_some_iff.1 hu).1
  have : (j + 1) * E.sz ≤ n * E.sz := Nat.mul_le_mul_right _ hj
  rw [Nat.add_mul] at this
  rw [List.getElem?_take, if_pos (by omega)]
  simpa using hf j x hj hx i u hu
/-- Rows of different element types lie apart. -/
theorem owns_ne {α β : Type} {E : El α} {E' : El β} {w : World} {b b' : Nat} {e e' : TypeId} {v v' : Value} {xs : List α} {ys : List β} (h : Owns E w b e v xs) (h' : Owns E' w b' e' v' ys) (hne : e ≠ e') : ∀ g, v'.ownBlock = some g → ¬ (v.ownBlock = some g) := by
  intro g hg hg'
  rcases h.cases with ⟨rfl, _⟩ | ⟨g1, c1, cur1, rfl, _, hb1, _⟩
  · simp [Value.ownBlock] at hg'
  · rcases h'.cases with ⟨rfl, _⟩ | ⟨g2, c2, cur2, rfl, _, hb2, _⟩
    · simp [Value.ownBlock] at hg
    · simp [Value.ownBlock] at hg hg'
      subst hg' hg
      unfold Blk at hb1 hb2
      rw [hb1] at hb2
      injection hb2 with hb2
      injection hb2 with _ ht
      exact hne ht
/-- The numbers from k on. -/
def marks (k : Int) (n : Nat) : List Int := (List.range n).map fun (j : Nat) => k + (j : Int)
theorem marks_len (k : Int) (n : Nat) : (marks k n).length = n := by simp [marks]
theorem marks_get {k : Int} {n j : Nat} (h : j < n) : (marks k n)[j]? = some (k + (j : Int)) := by simp [marks, h]
theorem filled_int {cur : Array Value} {xs : List Int} {j : Nat} {x : Int} (h : Filled elInt cur xs j) (hx : xs[j]? = some x) (hs : j < cur.size) : Filled elInt (cur.setIfInBounds j (.int .i64 x)) xs (j + 1) := by
  refine h.step hx (fun i hi => ?_) (fun i u hu => ?_)
  · rw [Array.getElem?_setIfInBounds_ne (by simp [elInt] at hi; omega)]
  · have hu' : [Value.int .i64 x][i]? = some u := hu
    match i, hu' with
    | 0, hu' =>
      have e : j * elInt.sz + 0 = j := by show j * 1 + 0 = j; omega
      rw [e, Array.getElem?_setIfInBounds_self_of_lt hs]; exact hu'
    | i + 1, hu' => simp at hu'
theorem filled_str {cur : Array Value} {xs : List ByteArray} {j : Nat} {x : ByteArray} (h : Filled elStr cur xs j) (hx : xs[j]? = some x) (hs : j < cur.size) : Filled elStr (cur.setIfInBounds j (.string x)) xs (j + 1) := by
  refine h.step hx (fun i hi => ?_) (fun i u hu => ?_)
  · rw [Array.getElem?_setIfInBounds_ne (by simp [elStr] at hi; omega)]
  · have hu' : [Value.string x][i]? = some u := hu
    match i, hu' with
    | 0, hu' =>
      have e : j * elStr.sz + 0 = j := by show j * 1 + 0 = j; omega
      rw [e, Array.getElem?_setIfInBounds_self_of_lt hs]; exact hu'
    | i + 1, hu' => simp at hu'
end Go.Proofs.Ytdnmkcalpfkfhaa
