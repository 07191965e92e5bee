/- Lemmas and walks that the claim rests on, laid together. Conditions: none. -/
import Derived.Test.YtmkgicfgcoeilaaDoorZ2b9016d1b45f
import Derived.Test.YtmkgicfgcoeilaaDoorZ53a7a774410d
import Derived.Test.YtmkgicfgcoeilaaDoorRows
import Derived.Deep.Upon
import Derived.Deep.AppendLies
/- The other end of a fiber: the program's and the reference's functions, walked. Conditions: none. -/
namespace Go.Proofs.YtmkgicfgcoeilaaDoor
open Go.RowKit
def otherF (f : Fib) (v : Int) : Int := if v = f.a then f.b else if v = f.b then f.a else -1
theorem otherF_bd {n : Nat} {f : Fib} (h : fibB n f = true) (v : Int) : -1 ≤ otherF f v ∧ otherF f v < n := by
  unfold fibB at h; simp at h; unfold otherF; split <;> (try split) <;> omega
theorem otherF_out {n : Nat} {f : Fib} {v : Int} (h : fibB n f = true) (hv : inB 0 ((n : Int) - 1) v = false) : otherF f v = -1 := by
  unfold fibB at h; simp at h; unfold inB at hv; simp at hv; unfold otherF; rw [if_neg (by omega), if_neg (by omega)]
section
variable {n c m d : Nat} {A A' : Option Addr} {xs : List ByteArray} {fs : List Fib}
end
end Go.Proofs.YtmkgicfgcoeilaaDoor
/- What a call may have turned: blocks of a set alone; rows that are marked. Conditions: none. -/
namespace Go.Proofs.YtmkgicfgcoeilaaDoor
open Go.RowKit
/-- Of the old blocks only those of S may have turned. -/
structure Touch (S : Nat → Prop) (w w' : World) : Prop where
  os : w'.os = w.os
  tape : w'.tape = w.tape
  output : w'.output = w.output
  size : w.heap.size ≤ w'.heap.size
  block : ∀ k, k < w.heap.size → ¬ S k → w'.heap[k]? = w.heap[k]?
section
variable {S S' : Nat → Prop} {w w' w2 : World}
theorem Touch.refl (S : Nat → Prop) (w : World) : Touch S w w := ⟨rfl, rfl, rfl, Nat.le_refl _, fun _ _ _ => rfl⟩
theorem Touch.of_below (h : Below w.heap.size w w') : Touch S w w' := ⟨h.os, h.tape, h.output, h.size, fun k hk _ => h.block k hk⟩
theorem Touch.trans (h : Touch S w w') (k : Touch S w' w2) : Touch S w w2 :=
  ⟨k.os.trans h.os, k.tape.trans h.tape, k.output.trans h.output, Nat.le_trans h.size k.size, fun i hi hn => (k.block i (Nat.lt_of_lt_of_le hi h.size) hn).trans (h.block i hi hn)⟩
theorem Touch.mono (h : Touch S w w') (hS : ∀ k, S k → S' k) : Touch S' w w' := ⟨h.os, h.tape, h.output, h.size, fun k hk hn => h.block k hk (fun hs => hn (hS k hs))⟩
theorem Touch.set (w : World) {p : Addr} (hp : S p.block) (u : Value) : Touch S w (w.setCell p u) :=
  ⟨rfl, rfl, rfl, by simp [World.setCell], fun k _ hn => Below.heap_setCell _ _ _ _ (fun e => hn (e ▸ hp))⟩
theorem Touch.then_ (h : Touch S w w') (k : Below w'.heap.size w' w2) : Touch S w w2 := h.trans (.of_below k)
theorem Touch.below {B : Nat} (h : Touch S w w') (hS : ∀ k, S k → B ≤ k) (hB : B ≤ w.heap.size) : Below B w w' :=
  ⟨h.os, h.tape, h.output, h.size, fun k hk => h.block k (by omega) (fun hs => by have := hS k hs; omega)⟩
theorem Blk.touch {g : Nat} {e : TypeId} {cur : Array Value} (h : Blk w g e cur) (t : Touch S w w') (hn : ¬ S g) : Blk w' g e cur := (t.block g h.lt hn).trans h
theorem Owns.touch {α : Type} {E : El α} {base : Nat} {e : TypeId} {v : Value} {xs : List α} (h : Owns E w base e v xs) (t : Touch S w w') (hn : ∀ g, v.ownBlock = some g → ¬ S g) : Owns E w' base e v xs := by
  refine ⟨h.1, ?_⟩
  rcases h.2 with h0 | ⟨g, cap, cur, hv, hg, hh, r⟩
  · exact .inl h0
  · exact .inr ⟨g, cap, cur, hv, hg, (t.block g (Array.getElem?_eq_some_iff.1 hh).1 (hn g (by rw [hv]; rfl))).trans hh, r⟩
theorem Sees.touch {α : Type} {E : El α} {B n : Nat} {A : Option Addr} {xs : List α} (h : Sees E w B A n xs) (t : Touch S w w') (hS : ∀ k, S k → B ≤ k) : Sees E w' B A n xs := by
  refine ⟨h.1, ?_⟩
  rcases h.2 with h0 | ⟨b, o, rfl, hb, hc⟩
  · exact .inl h0
  · refine .inr ⟨b, o, rfl, hb, fun k x hx j u hu => ?_⟩
    have h1 := hc k x hx j u hu
    exact (World.cell?_of_block (a := ⟨b, _, none⟩) (t.block b (World.block_lt_of_cell? w _ h1) (fun hs => by have := hS b hs; omega))).trans h1
end
/-- Where a row of the call's own lies. -/
theorem Owns.lies {α : Type} {E : El α} {w : World} {base : Nat} {e : TypeId} {v : Value} {xs : List α} (h : Owns E w base e v xs) : ∀ g, v.ownBlock = some g → base ≤ g ∧ g < w.heap.size := World.ownsRow.lt h
/-- Nil, or a block that is known. -/
theorem Owns.cases {α : Type} {E : El α} {w : World} {base : Nat} {e : TypeId} {v : Value} {xs : List α} (h : Owns E w base e v xs) :
    (v = .slice none 0 0 ∧ xs = []) ∨ ∃ g cap cur, v = .slice (some ⟨g, 0, none⟩) xs.length cap ∧ base ≤ g ∧ Blk w g e cur ∧ xs.length ≤ cap ∧ cap ≤ maxLen ∧ cur.size = cap * E.sz ∧ Filled E cur xs xs.length := by
  rcases h.2 with ⟨hv, hn⟩ | ⟨g, cap, cur, hv, hg, hh, h1, h2, h3, h4⟩
  · exact .inl ⟨hv, List.eq_nil_of_length_eq_zero hn⟩
  · refine .inr ⟨g, cap, cur, hv, hg, hh, h1, h2, h3, fun j x hj hx i u hu => ?_⟩
    have h5 := flat_get E xs j x hx i u hu
    rw [← h4, List.getElem?_take] at h5
    split at h5
    · simpa using h5
    · cases h5
theorem Owns.of_blk {α : Type} {E : El α} {w : World} {base g n cap : Nat} {e : TypeId} {cur : Array Value} {xs : List α} (h : Blk w g e cur) (hb : base ≤ g) (hl : xs.length = n) (hnc : n ≤ cap) (hs : cur.size = cap * E.sz) (hm : cap ≤ maxLen)
    (hf : Filled E cur xs n) : Owns E w base e (.slice (some ⟨g, 0, none⟩) n cap) xs := by
  refine ⟨flat_len E xs, .inr ⟨g, cap, cur, by rw [hl], hb, h, by omega, hm, hs, ?_⟩⟩
  rw [hl]
  have hle : n * E.sz ≤ cur.size := by rw [hs]; exact Nat.mul_le_mul_right _ hnc
  refine flat_ext E xs _ (by rw [List.length_take, Array.length_toList, hl]; omega) (fun j x hx i u hu => ?_)
  have hj : j < n := by rw [← hl]; exact (List.getElem?_eq_some_iff.1 hx).1
  have hi : i < E.sz := by rw [← E.len x]; exact (List.getElem?_eq_some_iff.1 hu).1
  have : (j + 1) * E.sz ≤ n * E.sz := Nat.mul_le_mul_right _ hj
  rw [Nat.add_mul] at this
  rw [List.getElem?_take, if_pos (by omega)]
  simpa using hf j x hj hx i u hu
/-- Rows of different element types lie apart. -/
theorem owns_ne {α β : Type} {E : El α} {E' : El β} {w : World} {b b' : Nat} {e e' : TypeId} {v v' : Value} {xs : List α} {ys : List β} (h : Owns E w b e v xs) (h' : Owns E' w b' e' v' ys) (hne : e ≠ e') : ∀ g, v'.ownBlock = some g → ¬ (v.ownBlock = some g) := by
  intro g hg hg'
  rcases h.cases with ⟨rfl, _⟩ | ⟨g1, c1, cur1, rfl, _, hb1, _⟩
  · simp [Value.ownBlock] at hg'
  · rcases h'.cases with ⟨rfl, _⟩ | ⟨g2, c2, cur2, rfl, _, hb2, _⟩
    · simp [Value.ownBlock] at hg
    · simp [Value.ownBlock] at hg hg'
      subst hg' hg
      unfold Blk at hb1 hb2
      rw [hb1] at hb2
      injection hb2 with hb2
      injection hb2 with _ ht
      exact hne ht
/-- The numbers from k on. -/
def marks (k : Int) (n : Nat) : List Int := (List.range n).map fun (j : Nat) => k + (j : Int)
theorem marks_len (k : Int) (n : Nat) : (marks k n).length = n := by simp [marks]
theorem marks_get {k : Int} {n j : Nat} (h : j < n) : (marks k n)[j]? = some (k + (j : Int)) := by simp [marks, h]
theorem filled_int {cur : Array Value} {xs : List Int} {j : Nat} {x : Int} (h : Filled elInt cur xs j) (hx : xs[j]? = some x) (hs : j < cur.size) : Filled elInt (cur.setIfInBounds j (.int .i64 x)) xs (j + 1) := by
  refine h.step hx (fun i hi => ?_) (fun i u hu => ?_)
  · rw [Array.getElem?_setIfInBounds_ne (by simp [elInt] at hi; omega)]
  · have hu' : [Value.int .i64 x][i]? = some u := hu
    match i, hu' with
    | 0, hu' =>
      have e : j * elInt.sz + 0 = j := by show j * 1 + 0 = j; omega
      rw [e, Array.getElem?_setIfInBounds_self_of_lt hs]; exact hu'
    | i + 1, hu' => simp at hu'
theorem filled_str {cur : Array Value} {xs : List ByteArray} {j : Nat} {x : ByteArray} (h : Filled elStr cur xs j) (hx : xs[j]? = some x) (hs : j < cur.size) : Filled elStr (cur.setIfInBounds j (.string x)) xs (j + 1) := by
  refine h.step hx (fun i hi => ?_) (fun i u hu => ?_)
  · rw [Array.getElem?_setIfInBounds_ne (by simp [elStr] at hi; omega)]
  · have hu' : [Value.string x][i]? = some u := hu
    match i, hu' with
    | 0, hu' =>
      have e : j * elStr.sz + 0 = j := by show j * 1 + 0 = j; omega
      rw [e, Array.getElem?_setIfInBounds_self_of_lt hs]; exact hu'
    | i + 1, hu' => simp at hu'
end Go.Proofs.YtmkgicfgcoeilaaDoor
/- What an append leaves, in the words of Owns and Below. Conditions: none. -/
namespace Go.Proofs.YtmkgicfgcoeilaaDoor
open Go.RowKit
theorem Owns.appended {α : Type} {E : El α} {w : World} {base : Nat} {e : TypeId} {v : Value} {xs : List α} {x : α} (h : w.ownsRow base e E.sz v (xs.length + 1) (xs.flatMap E.cells ++ E.cells x)) : Owns E w base e v (xs ++ [x]) := by
  unfold Owns; simpa using h
theorem Owns.sees {α : Type} {E : El α} {w : World} {base n c : Nat} {A : Option Addr} {e : TypeId} {xs : List α} (h : Owns E w base e (.slice A n c) xs) : Sees E w w.heap.size A xs.length xs := by
  obtain ⟨A', c', hv, _, _, hs⟩ := h.form
  injection hv with h1 h2 h3
  rw [h1]; exact hs
theorem bl_grown {w0 w w' : World} {v : Value} (hb : Below w0.heap.size w0 w) (hg : w.grownBy w' v.ownBlock) (hv : ∀ g, v.ownBlock = some g → w0.heap.size ≤ g) : Below w0.heap.size w0 w' :=
  hb.trans ⟨hg.os, hg.tape, hg.output, hg.size, fun k hk => hg.block k (Nat.lt_of_lt_of_le hk hb.size) (fun e => by have := hv k e.symm; omega)⟩
/-- Those of the first k numbers that pass p. -/
def idsTo (p : Nat → Bool) (k : Nat) : List Int := ((List.range k).filter p).map fun (j : Nat) => (j : Int)
theorem idsTo_zero (p : Nat → Bool) : idsTo p 0 = [] := rfl
theorem idsTo_yes {p : Nat → Bool} {k : Nat} (h : p k = true) : idsTo p (k + 1) = idsTo p k ++ [(k : Int)] := by simp [idsTo, List.range_succ, List.filter_append, h]
theorem idsTo_no {p : Nat → Bool} {k : Nat} (h : p k = false) : idsTo p (k + 1) = idsTo p k := by simp [idsTo, List.range_succ, List.filter_append, h]
theorem idsTo_len (p : Nat → Bool) (k : Nat) : (idsTo p k).length ≤ k := by
  unfold idsTo
  rw [List.length_map]
  exact Nat.le_trans (List.length_filter_le _ _) (by simp)
theorem idsTo_congr {p q : Nat → Bool} {k : Nat} (h : ∀ j, j < k → p j = q j) : idsTo p k = idsTo q k := by
  induction k with
  | zero => rfl
  | succ k ih =>
    have h1 := ih (fun j hj => h j (by omega))
    cases g : q k
    · rw [idsTo_no g, idsTo_no ((h k (by omega)).trans g), h1]
    · rw [idsTo_yes g, idsTo_yes ((h k (by omega)).trans g), h1]
theorem one_new (w : World) (x : Value) (t : TypeId) {b : Nat} (hb : b = w.heap.size) : ∀ j u, [x][j]? = some u → (w.alloc (.cells #[x] t)).cell? ((⟨b, 0, none⟩ : Addr).add j) = some u := by
  subst hb
  intro j u hj
  match j, hj with
  | 0, hj => simp at hj; subst hj; simp [Addr.add]
theorem int_info : (Tryd.prog.info? 3).map (fun i => (i.zero, i.size, i.bytes)) = some (some (.int .i64 0), 1, 8) := by kernel_rfl
end Go.Proofs.YtmkgicfgcoeilaaDoor
/- Routes: the nodes they come by, in plain Lean; a route in memory. Conditions: none. -/
namespace Go.Proofs.YtmkgicfgcoeilaaDoor
open Go.RowKit
/-- The node after k fibers. -/
def atW (fs : List Fib) (s : Int) (ids : List Int) : Nat → Int
  | 0 => s
  | k + 1 => otherF (fs.getD (ids.getD k 0).toNat ⟨0, 0, 0, 0⟩) (atW fs s ids k)
/-- The nodes up to there. -/
def outW (fs : List Fib) (s : Int) (ids : List Int) (k : Nat) : List Int := (List.range (k + 1)).map (atW fs s ids)
theorem outW_len (fs : List Fib) (s : Int) (ids : List Int) (k : Nat) : (outW fs s ids k).length = k + 1 := by simp [outW]
theorem outW_zero (fs : List Fib) (s : Int) (ids : List Int) : outW fs s ids 0 = [s] := rfl
theorem outW_succ (fs : List Fib) (s : Int) (ids : List Int) (k : Nat) : outW fs s ids (k + 1) = outW fs s ids k ++ [atW fs s ids (k + 1)] := by unfold outW; rw [List.range_succ (n := k + 1), List.map_append]; rfl
theorem outW_get (fs : List Fib) (s : Int) (ids : List Int) (k : Nat) : (outW fs s ids k)[k]? = some (atW fs s ids k) := by simp [outW]
theorem atW_succ {fs : List Fib} {s : Int} {ids : List Int} {k : Nat} {i : Int} {f : Fib} (hi : ids[k]? = some i) (hf : fs[i.toNat]? = some f) : atW fs s ids (k + 1) = otherF f (atW fs s ids k) := by
  show otherF _ _ = _
  rw [getD_of hi, getD_of hf]
/-- Step k is one that a route may take. -/
def okW (m : Nat) (fs : List Fib) (s : Int) (ids : List Int) (k : Nat) : Bool :=
  inB 0 ((m : Int) - 1) (ids.getD k 0) && (!decide (atW fs s ids (k + 1) < 0) && !hasB (outW fs s ids k) (atW fs s ids (k + 1)))
/-- Is it a route (of a network that is valid)? -/
def rtB (n : Nat) (fs : List Fib) (s : Int) (ids : List Int) : Bool := inB 0 ((n : Int) - 1) s && (!(ids.length == 0) && allB (okW fs.length fs s ids) ids.length)
/-- Its nodes; none of what is no route. -/
def rtL (n : Nat) (fs : List Fib) (s : Int) (ids : List Int) : List Int := if rtB n fs s ids then outW fs s ids ids.length else []
theorem rtL_yes {n : Nat} {fs : List Fib} {s : Int} {ids : List Int} (h : rtB n fs s ids = true) : rtL n fs s ids = outW fs s ids ids.length := if_pos h
theorem rtL_no {n : Nat} {fs : List Fib} {s : Int} {ids : List Int} (h : rtB n fs s ids = false) : rtL n fs s ids = [] := by unfold rtL; rw [h]; rfl
/-- .. of a network that may be invalid. -/
def routeB (xs : List ByteArray) (fs : List Fib) (s : Int) (ids : List Int) : Bool := goodB xs fs && rtB xs.length fs s ids
/-- A route lies in memory. -/
def RtIs (w : World) (R : Option Addr) (k e : Nat) (ids : List Int) : Prop := (k ≤ e ∧ k ≤ 1048576) ∧ Sees elInt w w.heap.size R k ids
section
variable {w w' : World} {R : Option Addr} {k e : Nat} {ids : List Int}
theorem RtIs.grow (h : RtIs w R k e ids) (hb : Below w.heap.size w w') : RtIs w' R k e ids := ⟨h.1, (h.2.grow hb).more hb.size⟩
theorem RtIs.len (h : RtIs w R k e ids) : ids.length = k := h.2.len
theorem RtIs.le (h : RtIs w R k e ids) : k ≤ 1048576 := h.1.2
end
end Go.Proofs.YtmkgicfgcoeilaaDoor
/- Lists of numbers: slices.Index, slices.Contains, l1Has, l1Rising, isSet, toIntS, walked. Conditions: none (toIntS: at most 1048576). -/
namespace Go.Proofs.YtmkgicfgcoeilaaDoor
open Go.RowKit
section
variable {B n c : Nat} {A : Option Addr} {xs : List Int}
/-- Number k lies within bounds and above the one before it. -/
def riseAt (lo hi : Int) (xs : List Int) (k : Nat) : Bool := inB lo hi (xs.getD k 0) && !(decide (0 < k) && decide (xs.getD k 0 ≤ xs.getD (k - 1) 0))
def risB (lo hi : Int) (xs : List Int) : Bool := allB (riseAt lo hi xs) xs.length
end
end Go.Proofs.YtmkgicfgcoeilaaDoor
/- OtherEnd of the program and of the reference, walked. Conditions: none. -/
namespace Go.Proofs.YtmkgicfgcoeilaaDoor
open Go.RowKit
instance : Inhabited ByteArray := ⟨ByteArray.empty⟩
def oeF (fs : List Fib) (i v : Int) : Int := otherF (fs.getD i.toNat default) v
def oeB (xs : List ByteArray) (fs : List Fib) (i v : Int) : Bool := goodB xs fs && inB 0 ((fs.length : Int) - 1) i && !decide (oeF fs i v < 0)
def oeI (xs : List ByteArray) (fs : List Fib) (i v : Int) : Int := if oeB xs fs i v then oeF fs i v else 0
section
variable {n c m d : Nat} {A A' : Option Addr} {xs : List ByteArray} {fs : List Fib}
theorem inB_idx {i : Int} {m : Nat} (h : inB 0 ((m : Int) - 1) i = true) : 0 ≤ i ∧ i < m := by unfold inB at h; simp at h; omega
end
end Go.Proofs.YtmkgicfgcoeilaaDoor
/- l4Walk and visited: the nodes of a route, walked. Conditions: none. -/
namespace Go.Proofs.YtmkgicfgcoeilaaDoor
open Go.RowKit
theorem filled_one (s : Int) : Filled elInt #[.int .i64 s] [s] 1 := by
  intro j x hj hx i u hu
  obtain rfl : j = 0 := by omega
  simp at hx; subst hx
  match i, hu with
  | 0, hu => simp [elInt] at hu; subst hu; rfl
variable {n c m d kr er : Nat} {A A' R : Option Addr} {xs : List ByteArray} {fs : List Fib} {ids : List Int}
end Go.Proofs.YtmkgicfgcoeilaaDoor
/- markIntS, heldIntS, eqIntS, walked. Conditions: at most 1048576 numbers, marks below 2^40. -/
namespace Go.Proofs.YtmkgicfgcoeilaaDoor
open Go.RowKit
end Go.Proofs.YtmkgicfgcoeilaaDoor
/- szStringS, walked: it takes the lengths off a number, -1 if that is too small. Conditions: the number lies in 0 .. 1048576. -/
namespace Go.Proofs.YtmkgicfgcoeilaaDoor
open Go.RowKit
def lessI (left : Int) (t : Nat) : Int := if (t : Int) ≤ left then left - t else -1
def sumTo (xs : List ByteArray) (k : Nat) : Nat := ((xs.take k).map ByteArray.size).sum
def strTot (xs : List ByteArray) : Nat := xs.length + sumTo xs xs.length
theorem sumTo_succ {xs : List ByteArray} {k : Nat} {x : ByteArray} (h : xs[k]? = some x) : sumTo xs (k + 1) = sumTo xs k + x.size := by
  unfold sumTo
  obtain ⟨hk, hx⟩ := List.getElem?_eq_some_iff.1 h
  rw [List.take_succ_eq_append_getElem hk, hx, List.map_append, List.sum_append]; simp
theorem sumTo_mono {xs : List ByteArray} {j k : Nat} (h : j ≤ k) : sumTo xs j ≤ sumTo xs k := by
  unfold sumTo
  obtain ⟨d, rfl⟩ := Nat.exists_eq_add_of_le h
  rw [List.take_add, List.map_append, List.sum_append]; omega
theorem size_le_tot {xs : List ByteArray} {x : ByteArray} (h : x ∈ xs) : x.size ≤ strTot xs := by
  obtain ⟨k, hk, e⟩ := List.mem_iff_getElem.1 h
  have h1 := sumTo_succ (xs := xs) (k := k) (x := x) (by rw [List.getElem?_eq_getElem hk, e])
  have h2 := sumTo_mono (xs := xs) (j := k + 1) (k := xs.length) hk
  unfold strTot; omega
theorem lessI_neg {left : Int} {t : Nat} (h : left < t) : lessI left t = -1 := by unfold lessI; rw [if_neg (by omega)]
theorem lessI_pos {left : Int} {t : Nat} (h : (t : Int) ≤ left) : lessI left t = left - t := by unfold lessI; rw [if_pos h]
end Go.Proofs.YtmkgicfgcoeilaaDoor
/- szFiberS and szNetwork, walked. Conditions: the number lies in 0 .. 1048576. -/
namespace Go.Proofs.YtmkgicfgcoeilaaDoor
open Go.RowKit
theorem lessI_bd {left : Int} {t : Nat} : (lessI left t = -1 ∧ left < t) ∨ (0 ≤ lessI left t ∧ lessI left t ≤ left ∧ (t : Int) ≤ left) := by
  unfold lessI; split <;> omega
theorem lessI_lessI {left : Int} {s t : Nat} : lessI left (s + t) = if lessI left s < 0 then -1 else lessI (lessI left s) t := by
  unfold lessI; split <;> split <;> (try split) <;> omega
/-- What a network holds: names, letters, fibers. -/
def netTot {α : Type} (xs : List ByteArray) (fs : List α) : Nat := strTot xs + fs.length
end Go.Proofs.YtmkgicfgcoeilaaDoor
/- How an argument that can be read is opened: strings, slices, networks, routes. Conditions: none. -/
namespace Go.Proofs.YtmkgicfgcoeilaaDoor
open Go.ChangeShapes Go.WideShapes Go.ChangeAt Go.RowKit Go.Deep
theorem i64_bd {n : Int} (h : (Lit.int .i64 n).wf = true) : -9223372036854775808 ≤ n ∧ n ≤ 9223372036854775807 := by
  simp [Lit.wf, IntKind.min, IntKind.max, IntKind.signed, IntKind.bits] at h; omega
section
variable {H : Type} {enc : TypeId × Value → H} {P : Program} {W : World} {spare : Nat → Bool} {held : Bool}
/-- A slice whose elements' cells are known. -/
theorem open_sl {α : Type} (E : El α) {t e : TypeId} {fuel : Nat} {cs : List Value} {x : DataW H × List MemPlace} (good : α → Prop) (ht : P.underlying t = some (.slice e)) (hsz : P.cellsOf e = E.sz)
    (hel : ∀ fuel cs y, DataW.trod enc P W 0 spare held fuel e cs = some y → ∃ a, cs = E.cells a ∧ good a)
    (h : DataW.trod enc P W 0 spare held fuel t cs = some x) :
    ∃ A n c xs, cs = [.slice A n c] ∧ n ≤ c ∧ c ≤ maxLen ∧ Sees E W W.heap.size A n xs ∧ ∀ a ∈ xs, good a := by
  rcases open_slice ht h with ⟨h0, _⟩ | ⟨a, len, cap, m, k, D, Pl, hcs, _, hl, hm, hmm, _, hi⟩
  · exact ⟨none, 0, 0, [], h0, Nat.le_refl _, Nat.zero_le _, Sees.nil _ _ _ _, fun _ h => by cases h⟩
  · have hlm : len ≤ m := by rw [hmm]; split <;> omega
    have key : ∀ i : Nat, i < len → ∃ y : α, good y ∧ ∀ j u, (E.cells y)[j]? = some u → W.cell? (a.add (i * E.sz + j)) = some u := by
      intro i hlt
      obtain ⟨cs', hc, htr⟩ := hi i (by omega)
      obtain ⟨y, rfl, hg⟩ := hel _ _ _ htr
      obtain ⟨_, hlen, hat⟩ := World.cells?_some hc
      refine ⟨y, hg, fun j u hu => ?_⟩
      have hj : j < P.cellsOf e := by rw [hsz, ← E.len y]; exact (List.getElem?_eq_some_iff.1 hu).1
      have := hat j hj
      rw [add_add, hsz] at this
      rw [this, hu]
    rcases Nat.eq_zero_or_pos len with h0 | h0
    · subst h0
      exact ⟨some a, 0, cap, [], hcs, hl, hm, Sees.nil _ _ _ _, fun _ h => by cases h⟩
    · have hspot : a.spot = none := by
        obtain ⟨y, _, hy⟩ := key 0 h0
        have hpos := E.pos
        have hlen := E.len y
        have h1 := hy 0 ((E.cells y)[0]'(by omega)) (List.getElem?_eq_getElem (by omega))
        simp only [Nat.zero_mul, Nat.zero_add] at h1
        rw [show a.add 0 = a by simp [Addr.add]] at h1
        unfold World.cell? at h1
        split at h1
        · split at h1
          · cases h1
          · rename_i hs; simpa using hs
        · cases h1
      obtain ⟨y0, _, _⟩ := key 0 h0
      have : Inhabited α := ⟨y0⟩
      obtain ⟨f, hf⟩ := choose_lt key
      refine ⟨some a, len, cap, (List.range len).map f, hcs, hl, hm, ⟨by simp, .inr ⟨a.block, a.off, by cases a; simp_all, ?_, ?_⟩⟩, ?_⟩
      · obtain ⟨_, hy⟩ := hf 0 h0
        have hpos := E.pos
        have hlen := E.len (f 0)
        have h1 := hy 0 ((E.cells (f 0))[0]'(by omega)) (List.getElem?_eq_getElem (by omega))
        have := World.block_lt_of_cell? W _ h1
        simp only [Addr.add] at this
        split at this <;> simpa using this
      · intro k x hx j u hu
        have hk : k < len := by have := (List.getElem?_eq_some_iff.1 hx).1; simpa using this
        have hx' : f k = x := by simpa [List.getElem?_map, List.getElem?_range, hk] using hx
        have := (hf k hk).2 j u (by rw [hx']; exact hu)
        rw [← this]
        unfold Addr.add
        split
        · rename_i h00; rw [Nat.add_assoc, h00, Nat.add_zero]; cases a; simp_all
        · rw [Nat.add_assoc]
      · intro x hx
        obtain ⟨i, hi, rfl⟩ := List.mem_map.1 hx
        exact (hf i (by simpa using hi)).1
/-- A slice that came in. -/
def SlArg {α : Type} (E : El α) (W : World) (A : Option Addr) (n c : Nat) (xs : List α) (good : α → Prop) : Prop := n ≤ c ∧ c ≤ maxLen ∧ Sees E W W.heap.size A n xs ∧ ∀ a ∈ xs, good a
theorem open_sl_val {α : Type} (E : El α) {t e : TypeId} {base : Nat} {v : Value} {d : DataW H} {p : List MemPlace} (good : α → Prop) (ht : P.underlying t = some (.slice e)) (hsz : P.cellsOf e = E.sz)
    (hel : ∀ fuel cs y, DataW.trod enc P W 0 spare held fuel e cs = some y → ∃ a, cs = E.cells a ∧ good a)
    (hv : Value.okWide P W .any base t v) (h : DataW.Trod enc P W 0 spare held t v d p) : ∃ A n c xs, v = .slice A n c ∧ SlArg E W A n c xs good := by
  obtain ⟨a, len, cap, rfl⟩ := okWide_slice ht hv
  obtain ⟨fuel, h⟩ := h
  obtain ⟨A, n, c, xs, e, h1, h2, h3, h4⟩ := open_sl E good ht hsz hel h
  exact ⟨A, n, c, xs, by simpa [Value.cells] using e, h1, h2, h3, h4⟩
theorem el_int {e : TypeId} (he : P.underlying e = some (.int .i64)) (fuel : Nat) (cs : List Value) (y : DataW H × List MemPlace) (h : DataW.trod enc P W 0 spare held fuel e cs = some y) :
    ∃ a, cs = elInt.cells a ∧ (-9223372036854775808 ≤ a ∧ a ≤ 9223372036854775807) := by
  obtain ⟨n, rfl, _, hw⟩ := DataW.trod_int he h
  exact ⟨n, rfl, i64_bd hw⟩
theorem el_str {e : TypeId} (he : P.underlying e = some .string) (fuel : Nat) (cs : List Value) (y : DataW H × List MemPlace) (h : DataW.trod enc P W 0 spare held fuel e cs = some y) :
    ∃ a, cs = elStr.cells a ∧ a.size ≤ maxLen := by
  obtain ⟨n, rfl, _, hw⟩ := DataW.trod_string he h
  exact ⟨n, rfl, hw⟩
end
end Go.Proofs.YtmkgicfgcoeilaaDoor
/- How a network that can be read is opened. Conditions: none. -/
namespace Go.Proofs.YtmkgicfgcoeilaaDoor
open Go.ChangeShapes Go.WideShapes Go.ChangeAt Go.RowKit Go.Deep Go.Joins
theorem cellsS : Tryd.prog.cellsOf 9 = 1 := by kernel_rfl
theorem cellsI : Tryd.prog.cellsOf 3 = 1 := by kernel_rfl
section
variable {H : Type} {enc : TypeId × Value → H} {W : World} {spare : Nat → Bool} {held : Bool}
/-- A network that came in. -/
def NetArg (W : World) (A : Option Addr) (n c : Nat) (A' : Option Addr) (m d : Nat) (xs : List ByteArray) (fs : List Fib) : Prop :=
  SlArg elStr W A n c xs (fun s => s.size ≤ maxLen) ∧ SlArg elFib W A' m d fs (fun _ => True)
end
end Go.Proofs.YtmkgicfgcoeilaaDoor
/- Lists of numbers, and a fiber, that came in. Conditions: none. -/
namespace Go.Proofs.YtmkgicfgcoeilaaDoor
open Go.RowKit
section
variable {H : Type} {enc : TypeId × Value → H} {W : World} {spare : Nat → Bool} {held : Bool}
/-- A list of numbers that came in. -/
def IntsArg (W : World) (A : Option Addr) (n c : Nat) (xs : List Int) : Prop := SlArg elInt W A n c xs (fun a => -9223372036854775808 ≤ a ∧ a ≤ 9223372036854775807)
set_option maxRecDepth 100000 in
theorem open_ints {base : Nat} {v : Value} {d : DataW H} {p : List MemPlace} (hv : Value.okWide Tryd.prog W .any base 94 v) (h : DataW.Trod enc Tryd.prog W 0 spare held 94 v d p) :
    ∃ A n c xs, v = .slice A n c ∧ IntsArg W A n c xs :=
  open_sl_val elInt _ Tryd.underlying94 cellsI (el_int Tryd.underlying3) hv h
end
end Go.Proofs.YtmkgicfgcoeilaaDoor
/- szRoute, toRoute, eqRoute; IsValidRoute and RouteNodes of both sides, walked. Conditions: at most 1048576 fibers. -/
namespace Go.Proofs.YtmkgicfgcoeilaaDoor
open Go.RowKit
/-- The nodes of a route. -/
def routeL (xs : List ByteArray) (fs : List Fib) (s : Int) (ids : List Int) : List Int := if goodB xs fs then rtL xs.length fs s ids else []
section
variable {n c m d kr er : Nat} {A A' R : Option Addr} {xs : List ByteArray} {fs : List Fib} {ids : List Int}
end
end Go.Proofs.YtmkgicfgcoeilaaDoor
/- Routes in plain Lean: how long they are at most; their lengths; their order. Conditions: none. -/
namespace Go.Proofs.YtmkgicfgcoeilaaDoor
/-- Different numbers below n are n at most. -/
theorem nodup_bd : ∀ (n : Nat) (l : List Int), l.Nodup → (∀ x ∈ l, 0 ≤ x ∧ x < n) → l.length ≤ n := by
  intro n
  induction n with
  | zero =>
    intro l _ h
    cases l with
    | nil => exact Nat.le_refl _
    | cons x l => have := h x (by simp); omega
  | succ n ih =>
    intro l hd h
    have h1 := ih (l.erase (n : Int)) (hd.erase _) (fun x hx => by
      have := (List.Nodup.mem_erase_iff hd).1 hx
      have h2 := h x this.2
      have h3 := this.1
      omega)
    have h2 : l.length ≤ (l.erase (n : Int)).length + 1 := by rw [List.length_erase]; split <;> omega
    omega
section
variable {n : Nat} {fs : List Fib} {s : Int} {ids : List Int}
theorem rtB_parts (h : rtB n fs s ids = true) : inB 0 ((n : Int) - 1) s = true ∧ ids ≠ [] ∧ allTo (okW fs.length fs s ids) ids.length := by
  unfold rtB at h
  rw [Bool.and_eq_true, Bool.and_eq_true] at h
  refine ⟨h.1, fun e => ?_, allB_iff.1 h.2.2⟩
  rw [e] at h; simp at h
theorem okW_parts {m k : Nat} (h : okW m fs s ids k = true) : inB 0 ((m : Int) - 1) (ids.getD k 0) = true ∧ 0 ≤ atW fs s ids (k + 1) ∧ hasB (outW fs s ids k) (atW fs s ids (k + 1)) = false := by
  unfold okW at h
  rw [Bool.and_eq_true, Bool.and_eq_true] at h
  refine ⟨h.1, ?_, by simpa using h.2.2⟩
  have := h.2.1
  simp at this; exact this
theorem rtB_at (h : rtB n fs s ids = true) {k : Nat} {i : Int} (hi : ids[k]? = some i) : 0 ≤ i ∧ i < fs.length := by
  have hk : k < ids.length := (List.getElem?_eq_some_iff.1 hi).1
  have h1 := (okW_parts ((rtB_parts h).2.2 k hk)).1
  rw [getD_of hi] at h1
  exact inB_idx h1
theorem rtB_mem (h : rtB n fs s ids = true) : ∀ x ∈ ids, 0 ≤ x ∧ x < fs.length := by
  intro x hx
  obtain ⟨k, hk, e⟩ := List.mem_iff_getElem.1 hx
  exact rtB_at h (k := k) (by rw [List.getElem?_eq_getElem hk, e])
theorem outW_nodup (h : allTo (okW fs.length fs s ids) ids.length) : ∀ k, k ≤ ids.length → (outW fs s ids k).Nodup := by
  intro k
  induction k with
  | zero => intro _; rw [outW_zero]; simp
  | succ k ih =>
    intro hk
    rw [outW_succ, List.nodup_append]
    refine ⟨ih (by omega), by simp, fun a ha b hb => ?_⟩
    simp at hb; subst hb
    have h1 := (okW_parts (h k (by omega))).2.2
    intro e
    subst e
    rw [hasB_iff.2 ha] at h1; cases h1
theorem outW_range (hf : ∀ f ∈ fs, fibB n f = true) (h : rtB n fs s ids = true) : ∀ k, k ≤ ids.length → ∀ x ∈ outW fs s ids k, 0 ≤ x ∧ x < n := by
  obtain ⟨hs, _, hall⟩ := rtB_parts h
  intro k
  induction k with
  | zero => intro _ x hx; rw [outW_zero] at hx; simp at hx; subst hx; exact inB_idx hs
  | succ k ih =>
    intro hk x hx
    rw [outW_succ] at hx
    rcases List.mem_append.1 hx with hx | hx
    · exact ih (by omega) x hx
    · simp at hx; subst hx
      have hok := okW_parts (hall k (by omega))
      have hki : k < ids.length := by omega
      have hi := rtB_at h (List.getElem?_eq_getElem hki)
      have hfi : fs[(ids[k]).toNat]? = some (fs[(ids[k]).toNat]'(by omega)) := List.getElem?_eq_getElem _
      have e := atW_succ (s := s) (List.getElem?_eq_getElem hki) hfi
      have hb := otherF_bd (hf _ (List.mem_of_getElem? hfi)) (atW fs s ids k)
      rw [← e] at hb
      exact ⟨hok.2.1, hb.2⟩
theorem rtB_short (hf : ∀ f ∈ fs, fibB n f = true) (h : rtB n fs s ids = true) : ids.length + 1 ≤ n := by
  have h1 := nodup_bd n (outW fs s ids ids.length) (outW_nodup (rtB_parts h).2.2 _ (Nat.le_refl _)) (outW_range hf h _ (Nat.le_refl _))
  rw [outW_len] at h1
  exact h1
end
/-- The length of the first k fibers. -/
def rlTo (fs : List Fib) (ids : List Int) (k : Nat) : Int := ((ids.take k).map fun i => (fs.getD i.toNat ⟨0, 0, 0, 0⟩).len).sum
/-- The length of a route. -/
def lenR (fs : List Fib) (ids : List Int) : Int := rlTo fs ids ids.length
theorem rlTo_zero (fs : List Fib) (ids : List Int) : rlTo fs ids 0 = 0 := by simp [rlTo]
theorem rlTo_succ {fs : List Fib} {ids : List Int} {k : Nat} {i : Int} {f : Fib} (hi : ids[k]? = some i) (hf : fs[i.toNat]? = some f) : rlTo fs ids (k + 1) = rlTo fs ids k + f.len := by
  unfold rlTo
  rw [List.take_add_one, hi]
  simp [hf]
theorem rlTo_bd {fs : List Fib} {ids : List Int} (hl : ∀ f ∈ fs, 0 ≤ f.len ∧ f.len ≤ 5000) (hin : ∀ x ∈ ids, 0 ≤ x ∧ x < fs.length) : ∀ k, k ≤ ids.length → 0 ≤ rlTo fs ids k ∧ rlTo fs ids k ≤ 5000 * (k : Int) := by
  intro k
  induction k with
  | zero => intro _; rw [rlTo_zero]; omega
  | succ k ih =>
    intro hk
    have h1 := ih (by omega)
    have hki : k < ids.length := by omega
    have hi := hin _ (List.getElem_mem hki)
    have hfi : fs[(ids[k]).toNat]? = some (fs[(ids[k]).toNat]'(by omega)) := List.getElem?_eq_getElem _
    rw [rlTo_succ (List.getElem?_eq_getElem hki) hfi]
    have := hl _ (List.mem_of_getElem? hfi)
    omega
section
variable {xs : List ByteArray} {fs : List Fib} {s : Int} {ids : List Int}
theorem routeB_good (h : routeB xs fs s ids = true) : goodB xs fs = true ∧ rtB xs.length fs s ids = true := by unfold routeB at h; simpa using h
theorem goodB_lens (h : goodB xs fs = true) : ∀ f ∈ fs, 0 ≤ f.len ∧ f.len ≤ 5000 := fun f hf => by
  have := goodB_fibB h hf
  unfold fibB at this; simp at this; omega
theorem routeB_short (h : routeB xs fs s ids = true) : ids.length ≤ 7 ∧ 1 ≤ ids.length := by
  obtain ⟨hg, hr⟩ := routeB_good h
  have h1 := rtB_short (fun f hf => goodB_fibB hg hf) hr
  have h2 := (goodB_bd hg).2.1
  have h3 := (rtB_parts hr).2.1
  have : ids.length ≠ 0 := fun e => h3 (List.eq_nil_of_length_eq_zero e)
  omega
theorem routeL_yes (h : routeB xs fs s ids = true) : routeL xs fs s ids = outW fs s ids ids.length := by
  obtain ⟨hg, hr⟩ := routeB_good h
  unfold routeL; rw [hg]; simp [rtL_yes hr]
theorem routeL_no (h : routeB xs fs s ids = false) : routeL xs fs s ids = [] := by
  unfold routeB at h; unfold routeL
  cases g : goodB xs fs
  · rfl
  · rw [g] at h; simp at h; simp [rtL_no h]
theorem routeL_len : (routeL xs fs s ids).length ≤ 8 := by
  cases g : routeB xs fs s ids
  · rw [routeL_no g]; simp
  · rw [routeL_yes g, outW_len]; have := (routeB_short g).1; omega
/-- RouteLength. -/
def rlI (xs : List ByteArray) (fs : List Fib) (s : Int) (ids : List Int) : Int := if routeB xs fs s ids then lenR fs ids else 0
theorem rt_lens (h : routeB xs fs s ids = true) : 0 ≤ lenR fs ids ∧ lenR fs ids ≤ 35000 := by
  obtain ⟨hg, hr⟩ := routeB_good h
  have h1 := rlTo_bd (goodB_lens hg) (rtB_mem hr) ids.length (Nat.le_refl _)
  have h2 := (routeB_short h).1
  unfold lenR
  omega
end
/-- -1, 0 or 1. -/
def sgnI (x : Int) : Int := if x < 0 then -1 else if x > 0 then 1 else 0
/-- Two lists in their order, the shorter first where one begins with the other. -/
def cmpL : List Int → List Int → Int
  | [], [] => 0
  | [], _ :: _ => -1
  | _ :: _, [] => 1
  | x :: xs, y :: ys => if x < y then -1 else if y < x then 1 else cmpL xs ys
/-- Two routes in their order. -/
def cmpRt (fs : List Fib) (s : Int) (a : List Int) (t : Int) (b : List Int) : Int :=
  if lenR fs a ≠ lenR fs b then sgnI (lenR fs a - lenR fs b)
  else if a.length ≠ b.length then sgnI ((a.length : Int) - b.length)
  else if cmpL a b ≠ 0 then cmpL a b
  else sgnI (s - t)
theorem cmpL_at : ∀ {a b : List Int} {k : Nat} {x y : Int}, a.take k = b.take k → a[k]? = some x → b[k]? = some y → x ≠ y → cmpL a b = sgnI (x - y) := by
  intro a
  induction a with
  | nil => intro b k x y _ h; simp at h
  | cons u a ih =>
    intro b k x y ht ha hb hne
    cases b with
    | nil => simp at hb
    | cons v b =>
      cases k with
      | zero =>
        simp at ha hb; subst ha hb
        unfold cmpL sgnI
        by_cases h1 : u < v
        · rw [if_pos h1, if_pos (by omega)]
        · rw [if_neg h1, if_pos (by omega), if_neg (by omega), if_pos (by omega)]
      | succ k =>
        simp at ht ha hb
        unfold cmpL
        rw [ht.1, if_neg (by omega), if_neg (by omega)]
        exact ih ht.2 ha hb hne
theorem cmpL_same (a : List Int) : cmpL a a = 0 := by
  induction a with
  | nil => rfl
  | cons u a ih => unfold cmpL; rw [if_neg (by omega), if_neg (by omega)]; exact ih
theorem cmpL_short {a b : List Int} (ht : a = b.take a.length) (h : a.length < b.length) : cmpL a b = -1 := by
  induction a generalizing b with
  | nil => cases b with
    | nil => simp at h
    | cons v b => rfl
  | cons u a ih =>
    cases b with
    | nil => simp at h
    | cons v b =>
      simp at ht h
      unfold cmpL
      rw [ht.1, if_neg (by omega), if_neg (by omega)]
      exact ih ht.2 h
theorem cmpL_long {a b : List Int} (ht : a.take b.length = b) (h : b.length < a.length) : cmpL a b = 1 := by
  induction b generalizing a with
  | nil => cases a with
    | nil => simp at h
    | cons u a => rfl
  | cons v b ih =>
    cases a with
    | nil => simp at h
    | cons u a =>
      simp at ht h
      unfold cmpL
      rw [ht.1, if_neg (by omega), if_neg (by omega)]
      exact ih ht.2 h
end Go.Proofs.YtmkgicfgcoeilaaDoor
/- Rows of rows of numbers. Conditions: none. -/
namespace Go.Proofs.YtmkgicfgcoeilaaDoor
open Go.RowKit
/-- A slice, as a value. -/
structure Sl where
  A : Option Addr
  n : Nat
  c : Nat
def slV (s : Sl) : Value := .slice s.A s.n s.c
def elSl : El Sl := ⟨1, fun s => [slV s], fun _ => rfl, by decide, fun _ u h => by simp at h; subst h; rfl⟩
/-- The row v of slices is the call's own, and so is each of its slices; they hold rows; no two share memory. -/
def OwnsSS (w : World) (base : Nat) (v : Value) (ss : List Sl) (rows : List (List Int)) : Prop :=
  Owns elSl w base 94 v ss ∧ ss.length = rows.length ∧ (∀ (i : Nat) s r, ss[i]? = some s → rows[i]? = some r → Owns elInt w base 3 (slV s) r) ∧
    ∀ (i j : Nat) s t g, i < j → ss[i]? = some s → ss[j]? = some t → (slV s).ownBlock = some g → ¬ ((slV t).ownBlock = some g)
section
variable {w w' : World} {base : Nat} {v : Value} {ss : List Sl} {rows : List (List Int)}
theorem OwnsSS.below (h : OwnsSS w base v ss rows) (hb : Below w.heap.size w w') : OwnsSS w' base v ss rows :=
  ⟨h.1.below hb, h.2.1, fun i s r h1 h2 => (h.2.2.1 i s r h1 h2).below hb, h.2.2.2⟩
theorem OwnsSS.base_ {base' : Nat} (h : OwnsSS w base v ss rows) (hb : base' ≤ base) : OwnsSS w base' v ss rows :=
  ⟨h.1.base hb, h.2.1, fun i s r h1 h2 => (h.2.2.1 i s r h1 h2).base hb, h.2.2.2⟩
theorem OwnsSS.nil (w : World) (base : Nat) : OwnsSS w base (.slice none 0 0) [] [] :=
  ⟨World.ownsRow_nil _ _ _ _, rfl, fun i s r h1 => by simp at h1, fun i j s t g _ h1 => by simp at h1⟩
/-- One row more, made behind the others; the row of slices may have moved. -/
theorem OwnsSS.push {w2 w3 : World} {r0 : List Int} {s0 : Sl} {v' : Value} (h : OwnsSS w base v ss rows) (hb : Below w.heap.size w w2) (hbase : base ≤ w.heap.size) (hr : Owns elInt w2 w.heap.size 3 (slV s0) r0)
    (hown : Owns elSl w3 base 94 v' (ss ++ [s0])) (hg : w2.grownBy w3 v.ownBlock) : OwnsSS w3 base v' (ss ++ [s0]) (rows ++ [r0]) := by
  have h2 := h.below hb
  have ht : Touch (fun b => v.ownBlock = some b) w2 w3 := ⟨hg.os, hg.tape, hg.output, hg.size, fun k hk hn => hg.block k hk (fun e => hn e.symm)⟩
  refine ⟨hown, by simp [h.2.1], fun i s r h3 h4 => ?_, fun i j s t g hij h3 h4 h5 h6 => ?_⟩
  · rcases Nat.lt_or_ge i ss.length with hi | hi
    · rw [List.getElem?_append_left hi] at h3
      rw [List.getElem?_append_left (by rw [← h.2.1]; exact hi)] at h4
      have ho := h2.2.2.1 i s r h3 h4
      exact ho.touch ht (fun g hg' => owns_ne h2.1 ho (by decide) g hg')
    · rw [List.getElem?_append_right hi] at h3
      rw [List.getElem?_append_right (by rw [← h.2.1]; exact hi)] at h4
      have e1 : i - ss.length = 0 := by have := (List.getElem?_eq_some_iff.1 h3).1; simp at this; omega
      have e2 : i - rows.length = 0 := by rw [← h.2.1]; exact e1
      rw [e1] at h3; rw [e2] at h4
      simp at h3 h4; subst h3; subst h4
      exact (hr.touch ht (fun g hg' => owns_ne h2.1 hr (by decide) g hg')).base hbase
  · rcases Nat.lt_or_ge j ss.length with hj | hj
    · rw [List.getElem?_append_left hj] at h4
      rw [List.getElem?_append_left (by omega)] at h3
      exact h.2.2.2 i j s t g hij h3 h4 h5 h6
    · rw [List.getElem?_append_right hj] at h4
      have e1 : j - ss.length = 0 := by have := (List.getElem?_eq_some_iff.1 h4).1; simp at this; omega
      rw [e1] at h4; simp at h4; subst h4
      rw [List.getElem?_append_left (by omega)] at h3
      obtain ⟨r, hrr⟩ : ∃ r, rows[i]? = some r := ⟨rows[i]'(by rw [← h.2.1]; omega), List.getElem?_eq_getElem _⟩
      have a1 := ((h.2.2.1 i s r h3 hrr).lies g h5).2
      have a2 := (hr.lies g h6).1
      omega
end
theorem sl_info : (Tryd.prog.info? 94).map (fun i => (i.zero, i.size, i.bytes)) = some (some (.slice none 0 0), 1, 24) := by kernel_rfl
end Go.Proofs.YtmkgicfgcoeilaaDoor
/- eqIntSS, walked. Conditions: at most 1048576 rows and numbers in a row. -/
namespace Go.Proofs.YtmkgicfgcoeilaaDoor
open Go.RowKit
/-- Rows of numbers as they read. -/
def SeesSS (w : World) (A : Option Addr) (n : Nat) (ss : List Sl) (rows : List (List Int)) : Prop :=
  Sees elSl w w.heap.size A n ss ∧ ss.length = rows.length ∧ ∀ (i : Nat) s r, ss[i]? = some s → rows[i]? = some r → s.n = r.length ∧ Sees elInt w w.heap.size s.A s.n r
theorem OwnsSS.sees {w : World} {base n c : Nat} {A : Option Addr} {ss : List Sl} {rows : List (List Int)} (h : OwnsSS w base (.slice A n c) ss rows) : SeesSS w A ss.length ss rows := by
  refine ⟨h.1.sees, h.2.1, fun i s r h1 h2 => ?_⟩
  have ho := h.2.2.1 i s r h1 h2
  obtain ⟨A', c', hv, _, _, hs⟩ := ho.form
  unfold slV at hv
  injection hv with e1 e2 e3
  exact ⟨e2, by rw [e1, e2]; exact hs⟩
theorem SeesSS.grow {w w' : World} {A : Option Addr} {n : Nat} {ss : List Sl} {rows : List (List Int)} (h : SeesSS w A n ss rows) (hb : Below w.heap.size w w') : SeesSS w' A n ss rows :=
  ⟨(h.1.grow hb).more hb.size, h.2.1, fun i s r h1 h2 => ⟨(h.2.2 i s r h1 h2).1, ((h.2.2 i s r h1 h2).2.grow hb).more hb.size⟩⟩
end Go.Proofs.YtmkgicfgcoeilaaDoor
/- markIntSS, walked. Conditions: at most 1048576 rows and numbers in a row; the last mark below 2^40. -/
namespace Go.Proofs.YtmkgicfgcoeilaaDoor
open Go.RowKit
/-- The mark at which row j begins. -/
def offS (k : Int) (rows : List (List Int)) (j : Nat) : Int := k + ((((rows.take j).map List.length).sum : Nat) : Int)
theorem offS_zero (k : Int) (rows : List (List Int)) : offS k rows 0 = k := by simp [offS]
theorem offS_succ {k : Int} {rows : List (List Int)} {j : Nat} {r : List Int} (h : rows[j]? = some r) : offS k rows (j + 1) = offS k rows j + (r.length : Int) := by
  unfold offS
  rw [List.take_add_one, h]
  simp
  omega
theorem offS_ge (k : Int) (rows : List (List Int)) (j : Nat) : k ≤ offS k rows j := by unfold offS; omega
theorem offS_le {k : Int} {rows : List (List Int)} : ∀ {d j : Nat}, j + d = rows.length → offS k rows j ≤ offS k rows rows.length := by
  intro d
  induction d with
  | zero => intro j h; rw [show j = rows.length by omega]; exact Int.le_refl _
  | succ d ih =>
    intro j h
    have h1 := ih (j := j + 1) (by omega)
    obtain ⟨r, hr⟩ : ∃ r, rows[j]? = some r := ⟨rows[j]'(by omega), List.getElem?_eq_getElem _⟩
    rw [offS_succ hr] at h1
    omega
/-- Row i behind j rows' marking. -/
def rowM (k : Int) (rows : List (List Int)) (j i : Nat) (r : List Int) : List Int := if i < j then marks (offS k rows i) r.length else r
/-- All rows, marked. -/
def marksSS (k : Int) (rows : List (List Int)) : List (List Int) := (List.range rows.length).map fun i => marks (offS k rows i) (rows.getD i []).length
theorem marksSS_get {k : Int} {rows : List (List Int)} {i : Nat} {r q : List Int} (h : rows[i]? = some r) (hq : (marksSS k rows)[i]? = some q) : q = marks (offS k rows i) r.length := by
  have hi := (List.getElem?_eq_some_iff.1 h).1
  unfold marksSS at hq
  rw [List.getElem?_map, List.getElem?_range hi] at hq
  simp [h] at hq
  exact hq.symm
end Go.Proofs.YtmkgicfgcoeilaaDoor
/- markText, walked: the letter m and the digits. Conditions: the number is at most 2^40 and a bit. -/
namespace Go.Proofs.YtmkgicfgcoeilaaDoor
open Go.RowKit Go.WideShapes
/-- The digits of k ahead of out, with fuel. -/
def mtGo : Nat → Nat → List UInt8 → List UInt8
  | 0, _, out => out
  | f + 1, k, out => if k = 0 then out else mtGo f (k / 10) (UInt8.ofNat (48 + k % 10) :: out)
theorem mtGo_zero (f : Nat) (out : List UInt8) : mtGo f 0 out = out := by cases f <;> simp [mtGo]
theorem mtGo_succ {f k : Nat} {out : List UInt8} (hk : 0 < k) (hf : k ≤ f) : ∃ f', k / 10 ≤ f' ∧ mtGo f k out = mtGo f' (k / 10) (UInt8.ofNat (48 + k % 10) :: out) := by
  cases f with
  | zero => omega
  | succ f => exact ⟨f, by omega, by rw [mtGo, if_neg (by omega)]⟩
def mtx (k : Nat) : ByteArray := ⟨(109 :: (if k = 0 then [48] else mtGo k k [])).toArray⟩
theorem bytes_cons (c : UInt8) (out : List UInt8) : (⟨#[c]⟩ : ByteArray) ++ ⟨out.toArray⟩ = ⟨(c :: out).toArray⟩ := by
  apply bytes_inj
  simp [ByteArray.data_append]
set_option maxRecDepth 100000 in
theorem markText_any (k : Int) (w : World) (h0 : 0 ≤ k) (h1 : k ≤ 1099512676352) :
    Calls Tryd.prog 34 #[.int .i64 k] w fun e w' => e = .returned (.string (mtx k.toNat)) ∧ Below w.heap.size w w' := by
  by_cases hz : k = 0
  · subst hz
    go_enter Tryd.func34, Tryd.ntmps34
    go_wp2
    go_ret
    exact ⟨rfl, Below.refl _ _⟩
  · have hpos : 0 < k := by omega
    have HM : Hid (mtx k.toNat = ⟨(109 :: mtGo k.toNat k.toNat []).toArray⟩) := by unfold Hid mtx; rw [if_neg (by omega)]
    clear hz
    go_enter Tryd.func34, Tryd.ntmps34
    go_wp2
    go_loopw [0, 3] (fun t o wr => ∃ (r f : Nat) (out : List UInt8), t = .int .i64 r ∧ o = .string ⟨out.toArray⟩ ∧ r ≤ 1099512676352 ∧ out.length + r ≤ 1099512676352 ∧ r ≤ f ∧ Hid (mtGo k.toNat k.toNat [] = mtGo f r out) ∧ Below w.heap.size w wr) (fun t _ _ => (intOf t).toNat)
    case atStart => exact ⟨k.toNat, k.toNat, [], by rw [Int.toNat_of_nonneg h0], rfl, by omega, by simp; omega, Nat.le_refl _, rfl, Below.refl _ _⟩
    case round =>
      obtain ⟨r, f, out, rfl, rfl, hr1, hol, hrf, hgo, hb⟩ := hrel
      by_cases hlt : 0 < r
      · obtain ⟨f', hf', hs⟩ := mtGo_succ (out := out) hlt hrf
        have hdig : ((UInt8.ofNat (48 + r % 10)).toNat : Int) = 48 + (r : Int) % 10 := by
          have h9 : (UInt8.ofNat (48 + r % 10)).toNat = 48 + r % 10 := by simp; omega
          rw [h9]; omega
        have hcv := run_convert_bytes_back (P := Tryd.prog) (wr.alloc (.cells #[.int .u8 (48 + (r : Int) % 10)] 5)) 71 9 5 ⟨wr.heap.size, 0, none⟩ 1 [UInt8.ofNat (48 + r % 10)] Tryd.underlying71 Tryd.underlying5 Tryd.underlying9 (by
          intro j hj
          obtain rfl : j = 0 := by simpa using hj
          simp only [List.getElem_cons_zero, hdig]
          go_simp)
        simp only [List.length_cons, List.length_nil, Nat.zero_add] at hcv
        have HS := hid (hgo.out.trans hs)
        clear hdig hs hgo
        go_wp2
        go_roundw
        case rel => exact ⟨r / 10, f', UInt8.ofNat (48 + r % 10) :: out, by go_num, by rw [show UInt8.ofNat (48 + r % 10) = 48 + UInt8.ofNat (r % 10) by simp]; exact congrArg Value.string (bytes_cons _ _), by omega, by simp only [List.length_cons]; omega, hf', HS, bl_alloc hb _⟩
        case measure => simp [intOf]; omega
      · obtain rfl : r = 0 := by omega
        have HE : Hid (mtx k.toNat = ⟨(109 :: out).toArray⟩) := by have := hgo.out; rw [mtGo_zero] at this; rw [HM.out, this]; rfl
        clear hgo
        go_wp2
        go_ret
        exact ⟨by rw [HE.out, ← bytes_cons]; rfl, hb⟩
end Go.Proofs.YtmkgicfgcoeilaaDoor
/- markStringS and heldStringS, walked. Conditions: at most 1048576 strings, marks below 2^40. -/
namespace Go.Proofs.YtmkgicfgcoeilaaDoor
open Go.RowKit
/-- The texts of the numbers from k on. -/
def smarks (k : Int) (n : Nat) : List ByteArray := (List.range n).map fun (j : Nat) => mtx (k + (j : Int)).toNat
theorem smarks_len (k : Int) (n : Nat) : (smarks k n).length = n := by simp [smarks]
theorem smarks_get {k : Int} {n j : Nat} (h : j < n) : (smarks k n)[j]? = some (mtx (k + (j : Int)).toNat) := by simp [smarks, h]
set_option maxRecDepth 100000 in
theorem markStringS_any {base n : Nat} {v : Value} {xs : List ByteArray} (k : Int) (w : World) (h : Owns elStr w base 9 v xs) (hl : xs.length = n) (hn : n ≤ 1048576) (hk0 : 0 ≤ k) (hk : k ≤ 1099510579200) :
    Calls Tryd.prog 19 #[v, .int .i64 k] w fun e w' => e = .returned (.int .i64 (k + n)) ∧ Owns elStr w' base 9 v (smarks k n) ∧ Touch (fun b => v.ownBlock = some b) w w' := by
  rcases h.cases with ⟨rfl, rfl⟩ | ⟨g, cap, cur0, rfl, hg, hb0, hnc, hcm, hs0, _⟩
  · subst hl
    go_enter Tryd.func19, Tryd.ntmps19
    go_wp2
    refine wp_loop_rounds 1 ?_
    rw [rounds_succ]
    go_wp2
    go_ret
    exact ⟨by simp, h, Touch.refl _ _⟩
  · rw [hl] at hnc ⊢
    have hc' : Hid (cur0.size = cap) := by rw [hs0]; exact Nat.mul_one cap
    have hb0' := hid hb0
    clear hl hs0 h hb0
    go_enter Tryd.func19, Tryd.ntmps19
    go_wp2
    go_loopw [1, 5] (fun t i wr => ∃ (j : Nat) (r : Int) (cur : Array Value), j ≤ n ∧ i = .int .i64 j ∧ t = .int .i64 r ∧ r ≤ 1099510579200 + j ∧ 0 ≤ r ∧ Hid (r = k + j) ∧ Hid (Blk wr g 9 cur) ∧ Hid (cur.size = cap) ∧ Hid (Filled elStr cur (smarks k n) j) ∧ Touch (fun b => some g = some b) w wr) (fun _ i _ => n - (intOf i).toNat)
    case atStart => exact ⟨0, k, cur0, Nat.zero_le _, rfl, rfl, by omega, hk0, by unfold Hid; simp, hb0', hc', Filled.zero _ _ _, Touch.refl _ _⟩
    case round =>
      clear hb0' hc'
      obtain ⟨j, r, cur, hj, rfl, rfl, hr1, hr0, hr, hblk, hsz, hfill, ht⟩ := hrel
      by_cases hlt : j < n
      · go_wp2_with fail
        refine (markText_any r _ hr0 (by omega)).mono ?_
        rintro e w2 ⟨rfl, hb2⟩
        have hblk2 := hid (hblk.out.below hb2 hblk.out.lt)
        obtain ⟨u, hu⟩ := hblk2.out.cell_ (i := j) (by rw [hsz.out]; omega)
        have hfz := hblk2.out.frozen j
        have HB := hid (hblk2.out.set j (.string (mtx r.toNat)))
        have HS : Hid ((cur.setIfInBounds j (.string (mtx r.toNat))).size = cap) := by rw [Array.size_setIfInBounds]; exact hsz
        have HF : Hid (Filled elStr (cur.setIfInBounds j (.string (mtx r.toNat))) (smarks k n) (j + 1)) := filled_str hfill.out (by rw [hr.out]; exact smarks_get hlt) (by rw [hsz.out]; omega)
        have HR : Hid (r + 1 = k + ((j + 1 : Nat) : Int)) := by have := hr.out; unfold Hid; omega
        have HT := (ht.then_ hb2).trans (Touch.set (S := fun b => some g = some b) w2 (p := ⟨g, j, none⟩) rfl (.string (mtx r.toNat)))
        clear hblk hblk2 hsz hfill hr ht
        go_wp2
        go_roundw
        case rel => exact ⟨j + 1, _, _, by omega, by go_num, rfl, by omega, by omega, HR, HB, HS, HF, HT⟩
        case measure => simp [intOf]; omega
      · have hjn : j = n := by omega
        have HE : Hid (r = k + (n : Int)) := by rw [← hjn]; exact hr
        have HO := hid (Owns.of_blk (E := elStr) (base := base) hblk.out hg (smarks_len k n) hnc (by rw [hsz.out]; exact (Nat.mul_one _).symm) hcm (by have hq := hfill.out; rw [hjn] at hq; exact hq))
        clear hblk hsz hfill hr
        go_wp2
        go_ret
        exact ⟨by rw [HE.out]; rfl, HO.out, ht⟩
set_option maxRecDepth 100000 in
theorem heldStringS_any {B n c : Nat} {A : Option Addr} (k : Int) (w : World) (h : Sees elStr w B A n (smarks k n)) (hn : n ≤ 1048576) (hk0 : 0 ≤ k) (hk : k ≤ 1099510579200) :
    Calls Tryd.prog 21 #[.slice A n c, .int .i64 k] w fun e w' => e = .returned (.int .i64 (k + n)) ∧ Below w.heap.size w w' := by
  go_enter Tryd.func21, Tryd.ntmps21
  go_wp2
  go_loopw [1, 5] (fun t i wr => ∃ (j : Nat) (r : Int), j ≤ n ∧ i = .int .i64 j ∧ t = .int .i64 r ∧ r ≤ 1099510579200 + j ∧ 0 ≤ r ∧ Hid (r = k + j) ∧ Below w.heap.size w wr) (fun _ i _ => n - (intOf i).toNat)
  case atStart => exact ⟨0, k, Nat.zero_le _, rfl, rfl, by omega, hk0, by unfold Hid; simp, Below.refl _ _⟩
  case round =>
    obtain ⟨j, r, hj, rfl, rfl, hr1, hr0, hr, hb⟩ := hrel
    by_cases hlt : j < n
    · obtain ⟨b, o, rfl, _, hc⟩ := h.at_ hlt
      have hx := bl_cell hb (hc j _ (smarks_get hlt) 0 _ rfl)
      rw [← hr.out] at hx
      simp only [elStr, Nat.mul_one, Nat.add_zero] at hx
      have HR : Hid (r + 1 = k + ((j + 1 : Nat) : Int)) := by have := hr.out; unfold Hid; omega
      have C0 : ∀ w', Cls wr w' → w'.cell? ⟨b, o + j, none⟩ = some (.string (mtx r.toNat)) := fun _ h => h.cell hx
      have i1 : (j : Int) < (n : Int) := by omega
      clear hc hr hx
      go_wp2_with fail
      refine region_cls (by kernel_rfl) (by kernel_rfl) ?_
      repeat (first
        | ((with_reducible refine quiet_pos ?_ (fun K hK => ?_))
           · rfl
           apply Exists.intro
           refine ⟨fun w' hw' => ?_, ?_⟩
           · go_simp
             first
               | with_reducible rfl
               | (go_at_call 34; exact hw'.call (markText_any r _ hr0 (by omega)))
           simp only [Act.put, List.setIfInBounds_toArray, List.set_cons_zero, List.set_cons_succ]
           refine hK _ ?_; clear hK K))
      with_reducible refine wpQuiet_nil ?_
      intro w3 hw3
      go_wp2
      go_roundw
      case rel => exact ⟨j + 1, _, by omega, by go_num, rfl, by omega, by omega, HR, bl_then hb hw3⟩
      case measure => simp [intOf]; omega
    · have hjn : j = n := by omega
      have HE : Hid (r = k + (n : Int)) := by rw [← hjn]; exact hr
      clear hr
      go_wp2
      go_ret
      exact ⟨by rw [HE.out]; rfl, hb⟩
end Go.Proofs.YtmkgicfgcoeilaaDoor
/- markFiberS, heldFiberS, markNetwork, heldNetwork, walked. Conditions: at most 1048576 elements, marks below 2^39. -/
namespace Go.Proofs.YtmkgicfgcoeilaaDoor
open Go.RowKit
/-- The fibers that four numbers each make, from k on. -/
def fmarks (k : Int) (n : Nat) : List Fib := (List.range n).map fun (j : Nat) => ⟨k + 4 * (j : Int), k + 4 * (j : Int) + 1, k + 4 * (j : Int) + 1 + 1, k + 4 * (j : Int) + 1 + 1 + 1⟩
theorem fmarks_len (k : Int) (n : Nat) : (fmarks k n).length = n := by simp [fmarks]
theorem fmarks_get {k : Int} {n j : Nat} (h : j < n) : (fmarks k n)[j]? = some ⟨k + 4 * (j : Int), k + 4 * (j : Int) + 1, k + 4 * (j : Int) + 1 + 1, k + 4 * (j : Int) + 1 + 1 + 1⟩ := by simp [fmarks, h]
theorem Touch.set4 {S : Nat → Prop} (w : World) {g : Nat} (hg : S g) (j : Nat) (f : Fib) :
    Touch S w ((((w.setCell ⟨g, j * 4, none⟩ (.int .i64 f.a)).setCell ⟨g, j * 4 + 1, none⟩ (.int .i64 f.b)).setCell ⟨g, j * 4 + 2, none⟩ (.int .i64 f.len)).setCell ⟨g, j * 4 + 3, none⟩ (.int .i64 f.risk)) :=
  (((Touch.set w (p := ⟨g, j * 4, none⟩) hg _).trans (Touch.set _ (p := ⟨g, j * 4 + 1, none⟩) hg _)).trans (Touch.set _ (p := ⟨g, j * 4 + 2, none⟩) hg _)).trans (Touch.set _ (p := ⟨g, j * 4 + 3, none⟩) hg _)
set_option maxHeartbeats 1000000 in
set_option maxRecDepth 100000 in
theorem markFiberS_any {base n : Nat} {v : Value} {xs : List Fib} (k : Int) (w : World) (h : Owns elFib w base 39 v xs) (hl : xs.length = n) (hn : n ≤ 1048576) (hk0 : 0 ≤ k) (hk : k ≤ 549755813888) :
    Calls Tryd.prog 20 #[v, .int .i64 k] w fun e w' => e = .returned (.int .i64 (k + 4 * n)) ∧ Owns elFib w' base 39 v (fmarks k n) ∧ Touch (fun b => v.ownBlock = some b) w w' := by
  rcases h.cases with ⟨rfl, rfl⟩ | ⟨g, cap, cur0, rfl, hg, hb0, hnc, hcm, hs0, _⟩
  · subst hl
    go_enter Tryd.func20, Tryd.ntmps20
    go_wp2
    refine wp_loop_rounds 1 ?_
    rw [rounds_succ]
    go_wp2
    go_ret
    exact ⟨by simp, h, Touch.refl _ _⟩
  · rw [hl] at hnc ⊢
    have hc' : Hid (cur0.size = cap * 4) := hs0
    have hb0' := hid hb0
    clear hl hs0 h hb0
    go_enter Tryd.func20, Tryd.ntmps20
    go_wp2
    go_loopw [1, 5] (fun t i wr => ∃ (j : Nat) (r : Int) (cur : Array Value), j ≤ n ∧ i = .int .i64 j ∧ t = .int .i64 r ∧ r ≤ 549755813888 + 4 * j ∧ 0 ≤ r ∧ Hid (r = k + 4 * j) ∧ Hid (Blk wr g 39 cur) ∧ Hid (cur.size = cap * 4) ∧ Hid (Filled elFib cur (fmarks k n) j) ∧ Touch (fun b => some g = some b) w wr) (fun _ i _ => n - (intOf i).toNat)
    case atStart => exact ⟨0, k, cur0, Nat.zero_le _, rfl, rfl, by omega, hk0, by unfold Hid; simp, hb0', hc', Filled.zero _ _ _, Touch.refl _ _⟩
    case round =>
      clear hb0' hc'
      obtain ⟨j, r, cur, hj, rfl, rfl, hr1, hr0, hr, hblk, hsz, hfill, ht⟩ := hrel
      by_cases hlt : j < n
      · obtain ⟨u0, hu0⟩ := hblk.out.cell_ (i := j * 4) (by rw [hsz.out]; omega)
        obtain ⟨u1, hu1⟩ := hblk.out.cell_ (i := j * 4 + 1) (by rw [hsz.out]; omega)
        obtain ⟨u2, hu2⟩ := hblk.out.cell_ (i := j * 4 + 2) (by rw [hsz.out]; omega)
        obtain ⟨u3, hu3⟩ := hblk.out.cell_ (i := j * 4 + 3) (by rw [hsz.out]; omega)
        have z0 := hblk.out.frozen (j * 4)
        have z1 := hblk.out.frozen (j * 4 + 1)
        have z2 := hblk.out.frozen (j * 4 + 2)
        have z3 := hblk.out.frozen (j * 4 + 3)
        have HB := hid (hblk.out.put4 j ⟨r, r + 1, r + 1 + 1, r + 1 + 1 + 1⟩)
        have HS : Hid ((put4 cur j ⟨r, r + 1, r + 1 + 1, r + 1 + 1 + 1⟩).size = cap * 4) := (put4_size _ _ _).trans hsz.out
        have HF : Hid (Filled elFib (put4 cur j ⟨r, r + 1, r + 1 + 1, r + 1 + 1 + 1⟩) (fmarks k n) (j + 1)) := hfill.out.put4 (by rw [hr.out]; exact fmarks_get hlt) (by rw [hsz.out]; omega)
        have HR : Hid (r + 1 + 1 + 1 + 1 = k + 4 * ((j + 1 : Nat) : Int)) := by have := hr.out; unfold Hid; omega
        have HT := ht.trans (Touch.set4 (S := fun b => some g = some b) wr (g := g) rfl j ⟨r, r + 1, r + 1 + 1, r + 1 + 1 + 1⟩)
        clear hblk hsz hfill hr ht
        go_wp2
        go_roundw
        case rel => exact ⟨j + 1, _, _, by omega, by go_num, rfl, by omega, by omega, HR, HB, HS, HF, HT⟩
        case measure => simp [intOf]; omega
      · have hjn : j = n := by omega
        have HE : Hid (r = k + 4 * (n : Int)) := by rw [← hjn]; exact hr
        have HO := hid (Owns.of_blk (E := elFib) (base := base) hblk.out hg (fmarks_len k n) hnc hsz.out hcm (by have hq := hfill.out; rw [hjn] at hq; exact hq))
        clear hblk hsz hfill hr
        go_wp2
        go_ret
        exact ⟨by rw [HE.out]; rfl, HO.out, ht⟩
set_option maxHeartbeats 1000000 in
set_option maxRecDepth 100000 in
theorem heldFiberS_any {B n c : Nat} {A : Option Addr} (k : Int) (w : World) (h : Sees elFib w B A n (fmarks k n)) (hn : n ≤ 1048576) (hk0 : 0 ≤ k) (hk : k ≤ 549755813888) :
    Calls Tryd.prog 22 #[.slice A n c, .int .i64 k] w fun e w' => e = .returned (.int .i64 (k + 4 * n)) ∧ Below w.heap.size w w' := by
  go_enter Tryd.func22, Tryd.ntmps22
  go_wp2
  go_loopw [1, 5] (fun t i wr => ∃ (j : Nat) (r : Int), j ≤ n ∧ i = .int .i64 j ∧ t = .int .i64 r ∧ r ≤ 549755813888 + 4 * j ∧ 0 ≤ r ∧ Hid (r = k + 4 * j) ∧ Below w.heap.size w wr) (fun _ i _ => n - (intOf i).toNat)
  case atStart => exact ⟨0, k, Nat.zero_le _, rfl, rfl, by omega, hk0, by unfold Hid; simp, Below.refl _ _⟩
  case round =>
    obtain ⟨j, r, hj, rfl, rfl, hr1, hr0, hr, hb⟩ := hrel
    by_cases hlt : j < n
    · obtain ⟨b, o, rfl, _, hc⟩ := h.at_ hlt
      have x0 := bl_cell hb (hc j _ (fmarks_get hlt) 0 _ rfl)
      have x1 := bl_cell hb (hc j _ (fmarks_get hlt) 1 _ rfl)
      have x2 := bl_cell hb (hc j _ (fmarks_get hlt) 2 _ rfl)
      have x3 := bl_cell hb (hc j _ (fmarks_get hlt) 3 _ rfl)
      rw [← hr.out] at x0 x1 x2 x3
      simp only [elFib, Nat.add_zero] at x0 x1 x2 x3
      have HR : Hid (r + 1 + 1 + 1 + 1 = k + 4 * ((j + 1 : Nat) : Int)) := by have := hr.out; unfold Hid; omega
      clear hc hr
      go_wp2
      go_roundw
      case rel => exact ⟨j + 1, _, by omega, by go_num, rfl, by omega, by omega, HR, hb⟩
      case measure => simp [intOf]; omega
    · have hjn : j = n := by omega
      have HE : Hid (r = k + 4 * (n : Int)) := by rw [← hjn]; exact hr
      clear hr
      go_wp2
      go_ret
      exact ⟨by rw [HE.out]; rfl, hb⟩
section
variable {base n c m d : Nat} {A A' : Option Addr} {xs : List ByteArray} {fs : List Fib}
theorem markNetwork_any (k : Int) (w : World) (h : NetOwn w base A n c A' m d xs fs) (hn : n ≤ 1048576) (hm : m ≤ 1048576) (hk0 : 0 ≤ k) (hk : k ≤ 549754765312) :
    Calls Tryd.prog 7 #[.agg #[.slice A n c, .slice A' m d], .int .i64 k] w fun e w' => e = .returned (.int .i64 (k + n + 4 * m)) ∧ NetOwn w' base A n c A' m d (smarks k n) (fmarks (k + n) m) ∧
      Touch (fun b => (Value.slice A n c).ownBlock = some b ∨ (Value.slice A' m d).ownBlock = some b) w w' := by
  have hb0 := bl_alloc (Below.refl w.heap.size w) (.cells #[.slice A n c, .slice A' m d] 25)
  have hx0 : Blk (w.alloc (.cells #[.slice A n c, .slice A' m d] 25)) w.heap.size 25 #[.slice A n c, .slice A' m d] := Blk.new _ _ _
  have hl1 := h.2.2.2.2.2.2.1.lies
  obtain ⟨a1, a2, a3, a4, a5, a6, a7, a8⟩ := h.below hb0
  have hne := owns_ne a7 a8 (by decide)
  go_enter Tryd.func7, Tryd.ntmps7
  go_wp2_with fail
  refine (markStringS_any k _ a7 a5 hn hk0 (by omega)).mono ?_
  rintro e w1 ⟨rfl, ho1, ht1⟩
  have q1 := (hx0.touch ht1 (fun hs => by have := (hl1 _ hs).2; omega)).cell 1
  simp at q1
  have a8' := a8.touch ht1 hne
  go_wp2_with fail
  refine (markFiberS_any (k + n) _ a8' a6 hm (by omega) (by omega)).mono ?_
  rintro e w2 ⟨rfl, ho2, ht2⟩
  have hne2 := owns_ne a8' ho1 (by decide)
  have ho1' := ho1.touch ht2 hne2
  go_wp2_with fail
  go_ret
  exact ⟨rfl, ⟨a1, a2, a3, a4, smarks_len _ _, fmarks_len _ _, ho1', ho2⟩, ((Touch.of_below hb0).trans (ht1.mono (fun _ h => .inl h))).trans (ht2.mono (fun _ h => .inr h))⟩
theorem heldNetwork_any (k : Int) (w : World) (hA : Sees elStr w w.heap.size A n (smarks k n)) (hF : Sees elFib w w.heap.size A' m (fmarks (k + n) m)) (hn : n ≤ 1048576) (hm : m ≤ 1048576) (hk0 : 0 ≤ k) (hk : k ≤ 549754765312) :
    Calls Tryd.prog 8 #[.agg #[.slice A n c, .slice A' m d], .int .i64 k] w fun e w' => e = .returned (.int .i64 (k + n + 4 * m)) ∧ Below w.heap.size w w' := by
  have hb0 := bl_alloc (Below.refl w.heap.size w) (.cells #[.slice A n c, .slice A' m d] 25)
  have hx0 : Blk (w.alloc (.cells #[.slice A n c, .slice A' m d] 25)) w.heap.size 25 #[.slice A n c, .slice A' m d] := Blk.new _ _ _
  go_enter Tryd.func8, Tryd.ntmps8
  go_wp2_with fail
  refine (heldStringS_any k _ (hA.grow hb0) hn hk0 (by omega)).mono ?_
  rintro e w1 ⟨rfl, hb1⟩
  have q1 := (hx0.below hb1 hx0.lt).cell 1
  simp at q1
  go_wp2_with fail
  refine (heldFiberS_any (k + n) _ ((hF.grow hb0).grow hb1) hm (by omega) (by omega)).mono ?_
  rintro e w2 ⟨rfl, hb2⟩
  go_wp2_with fail
  go_ret
  exact ⟨rfl, bl_then (bl_then hb0 hb1) hb2⟩
end
end Go.Proofs.YtmkgicfgcoeilaaDoor
/- eqStringS, walked: two slices that show one list are equal. Conditions: none. -/
namespace Go.Proofs.YtmkgicfgcoeilaaDoor
open Go.RowKit
set_option maxRecDepth 100000 in
theorem eqStringS_any {B B' n c c' : Nat} {A A' : Option Addr} {xs : List ByteArray} (w : World) (hA : Sees elStr w B A n xs) (hA' : Sees elStr w B' A' n xs) (hn : n ≤ maxLen) :
    Calls Tryd.prog 17 #[.slice A n c, .slice A' n c'] w fun e w' => e = .returned (.bool true) ∧ ∃ q, w' = w.drewN q := by
  unfold maxLen at hn
  go_enter Tryd.func17, Tryd.ntmps17
  go_wp2
  go_loopw [5] (fun i wr => ∃ k q : Nat, k ≤ n ∧ i = .int .i64 k ∧ wr = w.drewN q) (fun i _ => n - (intOf i).toNat)
  case atStart => exact ⟨0, 0, Nat.zero_le _, rfl, rfl⟩
  case round =>
    obtain ⟨k, q, hk, rfl, rfl⟩ := hrel
    by_cases hlt : k < n
    · obtain ⟨b, o, rfl, _, hc⟩ := hA.at_ hlt
      obtain ⟨b', o', rfl, _, hc'⟩ := hA'.at_ hlt
      obtain ⟨x, hxk⟩ : ∃ x, xs[k]? = some x := ⟨xs[k]'(by rw [hA.len]; exact hlt), List.getElem?_eq_getElem _⟩
      have h1 := hc k x hxk 0 _ rfl
      have h2 := hc' k x hxk 0 _ rfl
      simp only [elStr, Nat.mul_one, Nat.add_zero] at h1 h2
      clear hc hc' hxk
      have i1 : (k : Int) < (n : Int) := by omega
      go_wp2
      go_quiet (fail)
      go_wp2
      go_roundw
      case rel => exact ⟨k + 1, _, by omega, by go_num, rfl⟩
      case measure => simp [intOf]; omega
    · go_wp2
      go_ret
      exact ⟨rfl, _, rfl⟩
end Go.Proofs.YtmkgicfgcoeilaaDoor
/- eqFiber, eqFiberS and eqNetwork, walked: what shows one list is equal. Conditions: none. -/
namespace Go.Proofs.YtmkgicfgcoeilaaDoor
open Go.RowKit
set_option maxRecDepth 100000 in
theorem eqFiber_any (f : Fib) (w : World) :
    Calls Tryd.prog 33 #[fibV f, fibV f] w fun e w' => e = .returned (.bool true) ∧ Below w.heap.size w w' := by
  obtain ⟨a, b, l, r⟩ := f
  unfold fibV
  go_enter Tryd.func33, Tryd.ntmps33
  go_wp2
  go_ret
  exact ⟨rfl, bl_alloc (bl_alloc (Below.refl _ _) _) _⟩
set_option maxHeartbeats 1000000 in
set_option maxRecDepth 100000 in
theorem eqFiberS_any {B B' n c c' : Nat} {A A' : Option Addr} {xs : List Fib} (w : World) (hA : Sees elFib w B A n xs) (hA' : Sees elFib w B' A' n xs) (hn : n ≤ maxLen) :
    Calls Tryd.prog 18 #[.slice A n c, .slice A' n c'] w fun e w' => e = .returned (.bool true) ∧ Below w.heap.size w w' := by
  unfold maxLen at hn
  go_enter Tryd.func18, Tryd.ntmps18
  go_wp2
  go_loopw [5] (fun i wr => ∃ k : Nat, k ≤ n ∧ i = .int .i64 k ∧ Below w.heap.size w wr) (fun i _ => n - (intOf i).toNat)
  case atStart => exact ⟨0, Nat.zero_le _, rfl, Below.refl _ _⟩
  case round =>
    obtain ⟨k, hk, rfl, hb⟩ := hrel
    by_cases hlt : k < n
    · obtain ⟨b, o, rfl, _, hc⟩ := hA.at_ hlt
      obtain ⟨b', o', rfl, _, hc'⟩ := hA'.at_ hlt
      obtain ⟨f, hfk⟩ : ∃ x, xs[k]? = some x := ⟨xs[k]'(by rw [hA.len]; exact hlt), List.getElem?_eq_getElem _⟩
      have T0 : ∀ w', Cls wr w' → w'.cell? ⟨b, o + k * 4, none⟩ = some (.int .i64 f.a) := fun _ h => h.cell (bl_cell hb (hc k f hfk 0 _ rfl))
      have T1 : ∀ w', Cls wr w' → w'.cell? ⟨b, o + k * 4 + 1, none⟩ = some (.int .i64 f.b) := fun _ h => h.cell (bl_cell hb (hc k f hfk 1 _ rfl))
      have T2 : ∀ w', Cls wr w' → w'.cell? ⟨b, o + k * 4 + 2, none⟩ = some (.int .i64 f.len) := fun _ h => h.cell (bl_cell hb (hc k f hfk 2 _ rfl))
      have T3 : ∀ w', Cls wr w' → w'.cell? ⟨b, o + k * 4 + 3, none⟩ = some (.int .i64 f.risk) := fun _ h => h.cell (bl_cell hb (hc k f hfk 3 _ rfl))
      have S0 : ∀ w', Cls wr w' → w'.cell? ⟨b', o' + k * 4, none⟩ = some (.int .i64 f.a) := fun _ h => h.cell (bl_cell hb (hc' k f hfk 0 _ rfl))
      have S1 : ∀ w', Cls wr w' → w'.cell? ⟨b', o' + k * 4 + 1, none⟩ = some (.int .i64 f.b) := fun _ h => h.cell (bl_cell hb (hc' k f hfk 1 _ rfl))
      have S2 : ∀ w', Cls wr w' → w'.cell? ⟨b', o' + k * 4 + 2, none⟩ = some (.int .i64 f.len) := fun _ h => h.cell (bl_cell hb (hc' k f hfk 2 _ rfl))
      have S3 : ∀ w', Cls wr w' → w'.cell? ⟨b', o' + k * 4 + 3, none⟩ = some (.int .i64 f.risk) := fun _ h => h.cell (bl_cell hb (hc' k f hfk 3 _ rfl))
      clear hc hc' hfk
      have i1 : (k : Int) < (n : Int) := by omega
      go_wp2
      refine region_cls (by kernel_rfl) (by kernel_rfl) ?_
      repeat (first
        | ((with_reducible refine quiet_pos ?_ (fun K hK => ?_))
           · rfl
           apply Exists.intro
           refine ⟨fun w' hw' => ?_, ?_⟩
           · go_simp
             first
               | with_reducible rfl
               | (go_at_call 33; exact hw'.call (eqFiber_any f _))
           simp only [Act.put, List.setIfInBounds_toArray, List.set_cons_zero, List.set_cons_succ]
           refine hK _ ?_; clear hK K))
      with_reducible refine wpQuiet_nil ?_
      intro w3 hw3
      go_wp2
      go_roundw
      case rel => exact ⟨k + 1, by omega, by go_num, bl_then hb hw3⟩
      case measure => simp [intOf]; omega
    · go_wp2
      go_ret
      exact ⟨rfl, hb⟩
set_option maxHeartbeats 1000000 in
set_option maxRecDepth 100000 in
theorem eqNetwork_any {B B' n c c' m d d' : Nat} {A A' E E' : Option Addr} {xs : List ByteArray} {fs : List Fib} (w : World) (hA : Sees elStr w B A n xs) (hA' : Sees elStr w B' A' n xs) (hF : Sees elFib w B E m fs) (hF' : Sees elFib w B' E' m fs)
    (hB : B ≤ w.heap.size) (hB' : B' ≤ w.heap.size) (hn : n ≤ maxLen) (hm : m ≤ maxLen) :
    Calls Tryd.prog 6 #[.agg #[.slice A n c, .slice E m d], .agg #[.slice A' n c', .slice E' m d']] w fun e w' => e = .returned (.bool true) ∧ Below w.heap.size w w' := by
  have hb0 : Below w.heap.size w ((w.alloc (.cells #[.slice A n c, .slice E m d] 25)).alloc (.cells #[.slice A' n c', .slice E' m d'] 25)) := bl_alloc (bl_alloc (Below.refl _ _) _) _
  have k1 := hA.below (hb0.mono hB)
  have k2 := hA'.below (hb0.mono hB')
  have k3 := hF.below (hb0.mono hB)
  have k4 := hF'.below (hb0.mono hB')
  go_enter Tryd.func6, Tryd.ntmps6
  go_wp2_with fail
  refine (eqStringS_any _ k1 k2 hn).mono ?_
  rintro e w1 ⟨rfl, q, rfl⟩
  go_wp2_with fail
  refine (eqFiberS_any _ (k3.drewN q) (k4.drewN q) hm).mono ?_
  rintro e w2 ⟨rfl, hb2⟩
  go_wp2_with fail
  go_ret
  exact ⟨rfl, bl_then (bl_drewN hb0 q) hb2⟩
end Go.Proofs.YtmkgicfgcoeilaaDoor
/- heldIntSS, walked. Conditions: at most 1048576 rows and numbers in a row; the last mark below 2^40. -/
namespace Go.Proofs.YtmkgicfgcoeilaaDoor
open Go.RowKit
end Go.Proofs.YtmkgicfgcoeilaaDoor
/- A ledger of what a walk has made in memory: the blocks of each thing, and how it reads. Conditions: none. -/
namespace Go.Proofs.YtmkgicfgcoeilaaDoor
open Go.RowKit
/-- One thing in memory: its blocks; how it reads. -/
structure Thing where
  S : Nat → Prop
  is : World → Prop
  st : ∀ w w' : World, is w → w.heap.size ≤ w'.heap.size → (∀ b, S b → w'.heap[b]? = w.heap[b]?) → is w'
  lies : ∀ w, is w → ∀ b, S b → b < w.heap.size
/-- From w0 to w these things have been made, no two of which share a block; what was there at w0 is as it was. -/
structure Led (w0 w : World) (L : List Thing) : Prop where
  bl : Below w0.heap.size w0 w
  all : ∀ (i : Nat) t, L[i]? = some t → t.is w ∧ ∀ b, t.S b → w0.heap.size ≤ b
  apart : ∀ (i j : Nat) a b, i ≠ j → L[i]? = some a → L[j]? = some b → ∀ k, a.S k → ¬ b.S k
section
variable {w0 w w' : World} {L : List Thing}
theorem Led.nil (w : World) : Led w w [] := ⟨Below.refl _ _, fun i t h => by simp at h, fun i j a b _ h => by simp at h⟩
theorem Led.step (h : Led w0 w L) (hb : Below w.heap.size w w') : Led w0 w' L :=
  ⟨bl_then h.bl hb, fun i t ht => ⟨t.st w w' (h.all i t ht).1 hb.size (fun b hS => hb.block b (t.lies w (h.all i t ht).1 b hS)), (h.all i t ht).2⟩, h.apart⟩
theorem Led.put (h : Led w0 w L) (hb : Below w.heap.size w w') (t : Thing) (hS : ∀ b, t.S b → w.heap.size ≤ b) (hi : t.is w') : Led w0 w' (t :: L) := by
  have h' := h.step hb
  refine ⟨h'.bl, fun i u hu => ?_, fun i j a b hij ha hb2 k h1 h2 => ?_⟩
  · cases i with
    | zero => simp at hu; subst hu; exact ⟨hi, fun b hb3 => Nat.le_trans h.bl.size (hS b hb3)⟩
    | succ i => simp at hu; exact h'.all i u hu
  · cases i with
    | zero =>
      cases j with
      | zero => exact hij rfl
      | succ j =>
        simp at ha hb2; subst ha
        have := hS k h1
        have := b.lies w (h.all j b hb2).1 k h2
        omega
    | succ i =>
      cases j with
      | zero =>
        simp at ha hb2; subst hb2
        have := hS k h2
        have := a.lies w (h.all i a ha).1 k h1
        omega
      | succ j =>
        simp at ha hb2
        exact h.apart i j a b (by omega) ha hb2 k h1 h2
theorem Led.get (h : Led w0 w L) (i : Nat) {t : Thing} (hi : L[i]? = some t) : t.is w := (h.all i t hi).1
theorem Led.touch (h : Led w0 w L) (i : Nat) {t t' : Thing} (hi : L[i]? = some t) (hS : t'.S = t.S) (ht : Touch t.S w w') (his : t'.is w') : Led w0 w' (L.set i t') := by
  refine ⟨h.bl.trans (ht.below (B := w0.heap.size) (h.all i t hi).2 h.bl.size), fun j u hu => ?_, fun j k a b hjk ha hb x h1 h2 => ?_⟩
  · rw [List.getElem?_set] at hu
    by_cases hij : i = j
    · subst hij
      rw [if_pos rfl] at hu
      split at hu
      · injection hu with hu; subst hu; exact ⟨his, by rw [hS]; exact (h.all i t hi).2⟩
      · cases hu
    · rw [if_neg hij] at hu
      exact ⟨u.st w w' (h.all j u hu).1 ht.size (fun b hb => ht.block b (u.lies w (h.all j u hu).1 b hb) (h.apart j i u t (by omega) hu hi b hb)), (h.all j u hu).2⟩
  · have key : ∀ (j : Nat) a, (L.set i t')[j]? = some a → ∃ a', L[j]? = some a' ∧ a.S = a'.S := by
      intro j a ha
      rw [List.getElem?_set] at ha
      by_cases hij : i = j
      · subst hij
        rw [if_pos rfl] at ha
        split at ha
        · injection ha with ha; subst ha; exact ⟨t, hi, hS⟩
        · cases ha
      · rw [if_neg hij] at ha; exact ⟨a, ha, rfl⟩
    obtain ⟨a', ha', ea⟩ := key j a ha
    obtain ⟨b', hb', eb⟩ := key k b hb
    rw [ea] at h1; rw [eb] at h2
    exact h.apart j k a' b' hjk ha' hb' x h1 h2
/-- Forget the newest but n. -/
theorem Led.drop (h : Led w0 w L) (n : Nat) : Led w0 w (L.drop n) :=
  ⟨h.bl, fun i t hi => h.all (n + i) t (by rwa [List.getElem?_drop] at hi), fun i j a b hij ha hb => h.apart (n + i) (n + j) a b (by omega) (by rwa [List.getElem?_drop] at ha) (by rwa [List.getElem?_drop] at hb)⟩
theorem Owns.st {α : Type} {E : El α} {base : Nat} {e : TypeId} {v : Value} {xs : List α} (h : Owns E w base e v xs) (hk : ∀ b, v.ownBlock = some b → w'.heap[b]? = w.heap[b]?) : Owns E w' base e v xs := by
  refine ⟨h.1, ?_⟩
  rcases h.2 with h0 | ⟨g, cap, cur, hv, hg, hh, r⟩
  · exact .inl h0
  · exact .inr ⟨g, cap, cur, hv, hg, (hk g (by rw [hv]; rfl)).trans hh, r⟩
end
def tBlk (g : Nat) (e : TypeId) (cur : Array Value) : Thing := ⟨fun b => b = g, fun w => Blk w g e cur, fun _ _ h _ hb => (hb g rfl).trans h, fun _ h b e => by subst e; exact h.lt⟩
def tOwns {α : Type} (E : El α) (base : Nat) (e : TypeId) (v : Value) (xs : List α) : Thing :=
  ⟨fun b => v.ownBlock = some b, fun w => Owns E w base e v xs, fun _ _ h _ hb => h.st hb, fun _ h b e => (h.lies b e).2⟩
def tNet (base : Nat) (A : Option Addr) (n c : Nat) (A' : Option Addr) (m d : Nat) (xs : List ByteArray) (fs : List Fib) : Thing :=
  ⟨fun b => (Value.slice A n c).ownBlock = some b ∨ (Value.slice A' m d).ownBlock = some b, fun w => NetOwn w base A n c A' m d xs fs,
    fun _ _ ⟨a, b, c, d, e, f, g, i⟩ _ hb => ⟨a, b, c, d, e, f, g.st (fun b h => hb b (.inl h)), i.st (fun b h => hb b (.inr h))⟩,
    fun _ ⟨_, _, _, _, _, _, g, i⟩ b e => by rcases e with e | e; exact (g.lies b e).2; exact (i.lies b e).2⟩
def tSS (base : Nat) (v : Value) (ss : List Sl) (rows : List (List Int)) : Thing :=
  ⟨fun b => v.ownBlock = some b ∨ ∃ (i : Nat) (s : Sl), ss[i]? = some s ∧ (slV s).ownBlock = some b, fun w => OwnsSS w base v ss rows,
    fun _ _ ⟨a, b, c, d⟩ _ hb => ⟨a.st (fun b h => hb b (.inl h)), b, fun i s r h1 h2 => (c i s r h1 h2).st (fun g h => hb g (.inr ⟨i, s, h1, h⟩)), d⟩,
    fun _ ⟨a, b, c, _⟩ g e => by
      rcases e with e | ⟨i, s, h1, e⟩
      · exact (a.lies g e).2
      · obtain ⟨r, hr⟩ : ∃ r, rows[i]? = some r := ⟨rows[i]'(by rw [← b]; exact (List.getElem?_eq_some_iff.1 h1).1), List.getElem?_eq_getElem _⟩
        exact ((c i s r h1 hr).lies g e).2⟩
section
variable {w0 w w' : World} {L : List Thing}
theorem Led.blk (h : Led w0 w L) (e : TypeId) (cur : Array Value) : Led w0 (w.alloc (.cells cur e)) (tBlk w.heap.size e cur :: L) :=
  h.put (bl_alloc (Below.refl _ _) _) _ (fun b e => by cases e; exact Nat.le_refl _) (Blk.new w e cur)
theorem Led.owns {α : Type} {E : El α} {e : TypeId} {v : Value} {xs : List α} (h : Led w0 w L) (hb : Below w.heap.size w w') (ho : Owns E w' w.heap.size e v xs) : Led w0 w' (tOwns E w.heap.size e v xs :: L) :=
  h.put hb _ (fun b e => (ho.lies b e).1) ho
theorem Led.net {A A' : Option Addr} {n c m d : Nat} {xs : List ByteArray} {fs : List Fib} (h : Led w0 w L) (hb : Below w.heap.size w w') (ho : NetOwn w' w.heap.size A n c A' m d xs fs) : Led w0 w' (tNet w.heap.size A n c A' m d xs fs :: L) :=
  h.put hb _ (fun b e => by obtain ⟨_, _, _, _, _, _, g, i⟩ := ho; rcases e with e | e; exact (g.lies b e).1; exact (i.lies b e).1) ho
theorem OwnsSS.lies {base : Nat} {v : Value} {ss : List Sl} {rows : List (List Int)} (h : OwnsSS w base v ss rows) {b : Nat} (hb : v.ownBlock = some b ∨ ∃ (i : Nat) (s : Sl), ss[i]? = some s ∧ (slV s).ownBlock = some b) : base ≤ b := by
  rcases hb with e | ⟨i, s, h1, e⟩
  · exact (h.1.lies b e).1
  · obtain ⟨r, hr⟩ : ∃ r, rows[i]? = some r := ⟨rows[i]'(by rw [← h.2.1]; exact (List.getElem?_eq_some_iff.1 h1).1), List.getElem?_eq_getElem _⟩
    exact ((h.2.2.1 i s r h1 hr).lies b e).1
theorem Led.ss {v : Value} {ss : List Sl} {rows : List (List Int)} (h : Led w0 w L) (hb : Below w.heap.size w w') (ho : OwnsSS w' w.heap.size v ss rows) : Led w0 w' (tSS w.heap.size v ss rows :: L) :=
  h.put hb _ (fun _ e => ho.lies e) ho
/-- A network and a row of numbers, made by one call. -/
theorem Led.net_owns {A A' : Option Addr} {n c m d : Nat} {xs : List ByteArray} {fs : List Fib} {v : Value} {is : List Int} (h : Led w0 w L) (hb : Below w.heap.size w w') (ho : NetOwn w' w.heap.size A n c A' m d xs fs) (hi : Owns elInt w' w.heap.size 3 v is) :
    Led w0 w' (tOwns elInt w.heap.size 3 v is :: tNet w.heap.size A n c A' m d xs fs :: L) := by
  have h1 := h.net hb ho
  have h2 := h.owns hb hi
  refine ⟨h1.bl, fun i t ht => ?_, fun i j a b hij ha hb2 k k1 k2 => ?_⟩
  · cases i with
    | zero => exact h2.all 0 t ht
    | succ i => exact h1.all i t ht
  · have key : ∀ k, (tOwns elInt w.heap.size 3 v is).S k → ¬ (tNet w.heap.size A n c A' m d xs fs).S k := by
      intro k e1 e2
      obtain ⟨_, _, _, _, _, _, g, i⟩ := ho
      rcases e2 with e2 | e2
      · exact owns_ne g hi (by decide) k e1 e2
      · exact owns_ne i hi (by decide) k e1 e2
    rcases i with _ | _ | i
    · rcases j with _ | _ | j
      · exact hij rfl
      · simp at ha hb2; subst ha; subst hb2; exact key k k1 k2
      · exact h2.apart 0 (j + 1) a b (by omega) ha hb2 k k1 k2
    · rcases j with _ | _ | j
      · simp at ha hb2; subst ha; subst hb2; exact key k k2 k1
      · exact hij rfl
      · exact h1.apart 0 (j + 1) a b (by omega) ha hb2 k k1 k2
    · rcases j with _ | _ | j
      · exact h2.apart (i + 1) 0 a b (by omega) ha hb2 k k1 k2
      · exact h1.apart (i + 1) 0 a b (by omega) ha hb2 k k1 k2
      · exact h1.apart (i + 1) (j + 1) a b (by omega) ha hb2 k k1 k2
end
/-! ### Marks in words of one shape -/
theorem markN_led {w0 w : World} {L : List Thing} (h : Led w0 w L) (i : Nat) {base n c m d : Nat} {A A' : Option Addr} {xs : List ByteArray} {fs : List Fib} (hi : L[i]? = some (tNet base A n c A' m d xs fs)) (k : Int) (hn : n ≤ 1048576) (hm : m ≤ 1048576) (hk0 : 0 ≤ k) (hk : k ≤ 549754765312) :
    Calls Tryd.prog 7 #[.agg #[.slice A n c, .slice A' m d], .int .i64 k] w fun e w' => e = .returned (.int .i64 (k + n + 4 * m)) ∧ Led w0 w' (L.set i (tNet base A n c A' m d (smarks k n) (fmarks (k + n) m))) :=
  (markNetwork_any k w (h.get i hi) hn hm hk0 hk).mono fun _ _ ⟨he, ho, ht⟩ => ⟨he, h.touch i hi rfl ht ho⟩
theorem heldN_led {w0 w : World} {L : List Thing} (h : Led w0 w L) (i : Nat) {base n c m d : Nat} {A A' : Option Addr} (k : Int) (hi : L[i]? = some (tNet base A n c A' m d (smarks k n) (fmarks (k + n) m))) (hn : n ≤ 1048576) (hm : m ≤ 1048576) (hk0 : 0 ≤ k) (hk : k ≤ 549754765312) :
    Calls Tryd.prog 8 #[.agg #[.slice A n c, .slice A' m d], .int .i64 k] w fun e w' => e = .returned (.int .i64 (k + n + 4 * m)) ∧ Led w0 w' L :=
  (heldNetwork_any k w (NetOwn.strs (h.get i hi)) (NetOwn.fibs (h.get i hi)) hn hm hk0 hk).mono fun _ _ ⟨he, hw⟩ => ⟨he, h.step hw⟩
theorem eqN_led {w0 w : World} {L : List Thing} (h : Led w0 w L) (i j : Nat) {base base' n c m d c' d' : Nat} {A A' E E' : Option Addr} {xs : List ByteArray} {fs : List Fib} (hi : L[i]? = some (tNet base A n c A' m d xs fs)) (hj : L[j]? = some (tNet base' E n c' E' m d' xs fs)) (hn : n ≤ 1048576) (hm : m ≤ 1048576) :
    Calls Tryd.prog 6 #[.agg #[.slice A n c, .slice A' m d], .agg #[.slice E n c', .slice E' m d']] w fun e w' => e = .returned (.bool true) ∧ Led w0 w' L :=
  (eqNetwork_any w (NetOwn.strs (h.get i hi)) (NetOwn.strs (h.get j hj)) (NetOwn.fibs (h.get i hi)) (NetOwn.fibs (h.get j hj)) (Nat.le_refl _) (Nat.le_refl _) (by simp only [maxLen]; omega) (by simp only [maxLen]; omega)).mono fun _ _ ⟨he, hw⟩ => ⟨he, h.step hw⟩
theorem eqN_led2 {w0 w : World} {L : List Thing} (h : Led w0 w L) (i j : Nat) {base base' n c m d c' d' : Nat} {A A' E E' : Option Addr} {xs : List ByteArray} {fs : List Fib} (hi : L[i]? = some (tNet base A n c A' m d xs fs)) (hj : L[j]? = some (tNet base' E n c' E' m d' xs fs)) (hn : n ≤ 1048576) (hm : m ≤ 1048576) :
    Calls Tryd.prog 6 #[.agg #[.slice A n c, .slice A' m d], .agg #[.slice E n c', .slice E' m d']] w fun e w' => e = .returned (.bool true) ∧ Led w0 w' L ∧ Below w.heap.size w w' :=
  (eqNetwork_any w (NetOwn.strs (h.get i hi)) (NetOwn.strs (h.get j hj)) (NetOwn.fibs (h.get i hi)) (NetOwn.fibs (h.get j hj)) (Nat.le_refl _) (Nat.le_refl _) (by simp only [maxLen]; omega) (by simp only [maxLen]; omega)).mono fun _ _ ⟨he, hw⟩ => ⟨he, h.step hw, hw⟩
theorem ss_n {w : World} {base n c : Nat} {A : Option Addr} {ss : List Sl} {rows : List (List Int)} (h : OwnsSS w base (.slice A n c) ss rows) : n = rows.length := by
  obtain ⟨A', c', hv, _⟩ := h.1.form
  injection hv with _ e2 _
  rw [e2, h.2.1]
theorem ss_rows {w : World} {base : Nat} {v : Value} {ss : List Sl} {rows : List (List Int)} (h : (tSS base v ss rows).is w) : ss.length = rows.length := (show OwnsSS w base v ss rows from h).2.1
/-! ### Looks into the ledger -/
section
variable {w0 w : World} {L : List Thing}
theorem Led.cell (h : Led w0 w L) (i j : Nat) {g : Nat} {e : TypeId} {l : List Value} {u : Value} (hi : L[i]? = some (tBlk g e l.toArray)) (hj : l[j]? = some u) : w.cell? ⟨g, j, none⟩ = some u := by
  have hb : Blk w g e l.toArray := h.get i hi
  rw [hb.cell]; simpa using hj
theorem Led.frozen (h : Led w0 w L) (i j : Nat) {g : Nat} {e : TypeId} {l : List Value} (hi : L[i]? = some (tBlk g e l.toArray)) : w.frozen? ⟨g, j, none⟩ = false := Blk.frozen (h.get i hi) j
theorem Led.seesI (h : Led w0 w L) (i : Nat) {base c : Nat} {A : Option Addr} {xs : List Int} (hi : L[i]? = some (tOwns elInt base 3 (.slice A xs.length c) xs)) : Sees elInt w w.heap.size A xs.length xs := Owns.sees (h.get i hi)
theorem Led.rt (h : Led w0 w L) (i : Nat) {base c : Nat} {A : Option Addr} {xs : List Int} (hi : L[i]? = some (tOwns elInt base 3 (.slice A xs.length c) xs)) (hk : xs.length ≤ 1048576) : RtIs w A xs.length c xs := by
  have ho : Owns elInt w base _ _ xs := h.get i hi
  obtain ⟨A', c', hv, h1, _, _⟩ := ho.form
  injection hv with _ _ e3
  exact ⟨⟨by omega, hk⟩, ho.sees⟩
theorem Led.netIs (h : Led w0 w L) (i : Nat) {base n c m d : Nat} {A A' : Option Addr} {xs : List ByteArray} {fs : List Fib} (hi : L[i]? = some (tNet base A n c A' m d xs fs)) (hn : n ≤ 1048576) (hm : m ≤ 1048576) (hx : ∀ x ∈ xs, x.size ≤ maxLen) : NetIs w A n c A' m d xs fs :=
  NetOwn.is (h.get i hi) hn hm hx
/-- A block made by the walk, under the walk's name for its address. -/
theorem Led.blk_ (h : Led w0 w L) (g : Nat) (hg : g = w.heap.size) (e : TypeId) (cur : Array Value) : Led w0 (w.alloc (.cells cur e)) (tBlk g e cur :: L) := by subst hg; exact h.blk e cur
end
end Go.Proofs.YtmkgicfgcoeilaaDoor
/- The ledger in a function's own walk: appends, stores, new rows. Conditions: at most 1099511627776 elements. -/
namespace Go.Proofs.YtmkgicfgcoeilaaDoor
open Go.RowKit
section
variable {w0 w w' : World} {L : List Thing}
/-- One thing grows: into its own blocks or into new ones. -/
theorem Led.regrow (h : Led w0 w L) (i : Nat) {t t' : Thing} (hi : L[i]? = some t) (ht : Touch t.S w w') (hS : ∀ b, t'.S b → t.S b ∨ w.heap.size ≤ b) (his : t'.is w') : Led w0 w' (L.set i t') := by
  refine ⟨h.bl.trans (ht.below (B := w0.heap.size) (h.all i t hi).2 h.bl.size), fun j u hu => ?_, fun j k a b hjk ha hb x h1 h2 => ?_⟩
  · rw [List.getElem?_set] at hu
    by_cases hij : i = j
    · subst hij
      rw [if_pos rfl] at hu
      split at hu
      · injection hu with hu; subst hu
        refine ⟨his, fun b hb => ?_⟩
        rcases hS b hb with h1 | h1
        · exact (h.all i t hi).2 b h1
        · exact Nat.le_trans h.bl.size h1
      · cases hu
    · rw [if_neg hij] at hu
      exact ⟨u.st w w' (h.all j u hu).1 ht.size (fun b hb => ht.block b (u.lies w (h.all j u hu).1 b hb) (h.apart j i u t (by omega) hu hi b hb)), (h.all j u hu).2⟩
  · have key : ∀ (j : Nat) a, (L.set i t')[j]? = some a → (j = i ∧ a = t') ∨ (j ≠ i ∧ L[j]? = some a) := by
      intro j a ha
      rw [List.getElem?_set] at ha
      by_cases hij : i = j
      · subst hij
        rw [if_pos rfl] at ha
        split at ha
        · injection ha with ha; exact .inl ⟨rfl, ha.symm⟩
        · cases ha
      · rw [if_neg hij] at ha; exact .inr ⟨fun e => hij e.symm, ha⟩
    rcases key j a ha with ⟨rfl, rfl⟩ | ⟨hji, ha'⟩
    · rcases key k b hb with ⟨rfl, rfl⟩ | ⟨hki, hb'⟩
      · exact hjk rfl
      · rcases hS x h1 with h3 | h3
        · exact h.apart j k t b hjk hi hb' x h3 h2
        · have := b.lies w (h.all k b hb').1 x h2; omega
    · rcases key k b hb with ⟨rfl, rfl⟩ | ⟨hki, hb'⟩
      · rcases hS x h2 with h3 | h3
        · exact h.apart j k a t hjk ha' hi x h1 h3
        · have := a.lies w (h.all j a ha').1 x h1; omega
      · exact h.apart j k a b hjk ha' hb' x h1 h2
/-- A store into a block of the ledger. -/
theorem Led.set (h : Led w0 w L) (i : Nat) {g : Nat} {e : TypeId} {l : List Value} (hi : L[i]? = some (tBlk g e l.toArray)) (j : Nat) (u : Value) : Led w0 (w.setCell ⟨g, j, none⟩ u) (L.set i (tBlk g e (l.set j u).toArray)) :=
  h.touch i hi rfl (Touch.set (S := fun b => b = g) w (p := ⟨g, j, none⟩) rfl u) (by
    have hb : Blk w g e l.toArray := h.get i hi
    have := hb.set j u
    have e1 : l.toArray.setIfInBounds j u = (l.set j u).toArray := by simp
    rw [e1] at this
    exact this)
/-- A row made by a call. -/
theorem Led.owns_ {α : Type} {E : El α} {e : TypeId} {v : Value} {xs : List α} {base b0 : Nat} (h : Led w0 w L) (hb : Below w.heap.size w w') (ho : Owns E w' base e v xs) (hB : w.heap.size ≤ base) (h0 : b0 ≤ base) : Led w0 w' (tOwns E b0 e v xs :: L) :=
  h.put hb (tOwns E b0 e v xs) (fun b e => Nat.le_trans hB (ho.lies b e).1) (ho.base h0)
/-- A row of no elements, in a block of its own. -/
theorem Led.empty {α : Type} (h : Led w0 w L) (E : El α) (e : TypeId) (g : Nat) (hg : g = w.heap.size) (b0 : Nat) (h0 : b0 ≤ g) : Led w0 (w.alloc (.cells #[] e)) (tOwns E b0 e (.slice (some ⟨g, 0, none⟩) 0 0) [] :: L) := by
  subst hg
  exact h.owns_ (bl_alloc (Below.refl _ _) _) (Owns.of_blk (n := 0) (cap := 0) (cur := #[]) (Blk.new w e #[]) (Nat.le_refl _) rfl (Nat.le_refl _) (by simp) (by decide) (Filled.zero _ _ _)) (Nat.le_refl _) h0
theorem filled_single {α : Type} (E : El α) (x : α) : Filled E (E.cells x).toArray [x] 1 := by
  intro j y hj hy i u hu
  obtain rfl : j = 0 := by omega
  simp at hy; subst hy
  simpa using hu
/-- A row of one element, in a block of its own. -/
theorem Led.single {α : Type} (h : Led w0 w L) (E : El α) (x : α) (e : TypeId) (g : Nat) (hg : g = w.heap.size) (b0 : Nat) (h0 : b0 ≤ g) : Led w0 (w.alloc (.cells (E.cells x).toArray e)) (tOwns E b0 e (.slice (some ⟨g, 0, none⟩) 1 1) [x] :: L) := by
  subst hg
  exact h.owns_ (bl_alloc (Below.refl _ _) _) (Owns.of_blk (n := 1) (cap := 1) (cur := (E.cells x).toArray) (Blk.new w e _) (Nat.le_refl _) rfl (Nat.le_refl _) (by simp [E.len]) (by decide) (filled_single E x)) (Nat.le_refl _) h0
/-- The nil slice. -/
theorem Led.nilS {α : Type} (h : Led w0 w L) (E : El α) (e : TypeId) (b0 : Nat) : Led w0 w (tOwns E b0 e (.slice none 0 0) [] :: L) :=
  h.put (Below.refl _ _) (tOwns E b0 e (.slice none 0 0) []) (fun b e => by cases e) (World.ownsRow_nil _ _ _ _)
theorem Led.sees {α : Type} {E : El α} (h : Led w0 w L) (i : Nat) {base c n : Nat} {e : TypeId} {A : Option Addr} {xs : List α} (hi : L[i]? = some (tOwns E base e (.slice A n c) xs)) (hn : n = xs.length) : Sees E w w.heap.size A n xs := by
  subst hn
  exact Owns.sees (show Owns E w base e (.slice A xs.length c) xs from h.get i hi)
theorem Led.form {α : Type} {E : El α} (h : Led w0 w L) (i : Nat) {base : Nat} {e : TypeId} {v : Value} {xs : List α} (hi : L[i]? = some (tOwns E base e v xs)) : ∃ A c, v = .slice A xs.length c ∧ xs.length ≤ c := by
  obtain ⟨A, c, h1, h2, _⟩ := Owns.form (show Owns E w base e v xs from h.get i hi)
  exact ⟨A, c, h1, h2⟩
theorem Led.own {α : Type} {E : El α} (h : Led w0 w L) (i : Nat) {base : Nat} {e : TypeId} {v : Value} {xs : List α} (hi : L[i]? = some (tOwns E base e v xs)) : Owns E w base e v xs := h.get i hi
end
/-- A new block shows its one element. -/
theorem sees_new {α : Type} (E : El α) (w : World) (x : α) (e : TypeId) (g : Nat) (hg : g = w.heap.size) : Sees E (w.alloc (.cells (E.cells x).toArray e)) (w.heap.size + 1) (some ⟨g, 0, none⟩) 1 [x] := by
  subst hg
  refine ⟨rfl, .inr ⟨w.heap.size, 0, rfl, Nat.lt_succ_self _, fun k y hy j u hu => ?_⟩⟩
  have hb : Blk (w.alloc (.cells (E.cells x).toArray e)) w.heap.size e (E.cells x).toArray := Blk.new _ _ _
  have hk : k = 0 := by have := (List.getElem?_eq_some_iff.1 hy).1; simp at this; omega
  subst hk
  simp at hy; subst hy
  rw [hb.cell]; simpa using hu
section
variable {P : Program}
/-- append onto a row of the call's own, of whatever is seen. -/
theorem run_append_all {α : Type} {E : El α} {w : World} {base : Nat} {e t ty : TypeId} {v : Value} {xs ys : List α} {A : Option Addr} {n c B : Nat} {i : TypeInfo} {z : Value} (ht : P.underlying t = some (.slice e)) (hi : P.info? e = some i) (hz0 : i.zero = some z) (hz1 : i.size = E.sz)
    (hzs : z.cells.size = E.sz) (ho : Owns E w base e v xs) (hy : Sees E w B A n ys) (h63 : xs.length + n ≤ 1099511627776) (hby : i.bytes ≤ 64) (hbase : base ≤ w.heap.size) :
    ∃ A' c' w', (Builtin.append_ #[t, t] ty #[v, .slice A n c]).run P w = .ok (.slice A' (xs.length + n) c') w' ∧ Owns E w' base e (.slice A' (xs.length + n) c') (xs ++ ys) ∧ w.grownBy w' v.ownBlock ∧
      ∀ g, (Value.slice A' (xs.length + n) c').ownBlock = some g → v.ownBlock = some g ∨ g = w.heap.size := by
  have hyl := hy.len
  rcases A with _ | ad
  · have hn : n = 0 := by
      rcases hy.2 with h | ⟨b, o, h, _⟩
      · exact h
      · cases h
    subst hn
    have hys : ys = [] := List.eq_nil_of_length_eq_zero hyl
    subst hys
    obtain ⟨A1, c1, rfl, hc1, _, _⟩ := ho.form
    refine ⟨A1, c1, w, ?_, by simpa using ho, ⟨rfl, rfl, rfl, Nat.le_refl _, fun _ _ _ => rfl⟩, fun g hg => .inl hg⟩
    have h1 := run_append_nothing (P := P) w t t ty e i ht hi A1 xs.length c1 hc1 (.slice none 0 c) (Src.ofNil w ht c)
    simpa using h1
  · have hcells : ∀ j u, (ys.flatMap E.cells)[j]? = some u → w.cell? (ad.add j) = some u := by
      intro j u hj
      rcases hy.2 with h | ⟨b, o, h, _, hc⟩
      · subst h
        rw [List.eq_nil_of_length_eq_zero hyl] at hj; simp at hj
      · injection h with h; subst h
        have hpos := E.pos
        have hjl : j < ys.length * E.sz := by rw [← flat_len]; exact (List.getElem?_eq_some_iff.1 hj).1
        have hk : j / E.sz < ys.length := (Nat.div_lt_iff_lt_mul hpos).2 hjl
        obtain ⟨y, hyk⟩ : ∃ y, ys[j / E.sz]? = some y := ⟨ys[j / E.sz], List.getElem?_eq_getElem hk⟩
        have hm : j % E.sz < (E.cells y).length := by rw [E.len]; exact Nat.mod_lt _ hpos
        have h1 := hc (j / E.sz) y hyk (j % E.sz) _ (List.getElem?_eq_getElem hm)
        have h2 := flat_get E ys (j / E.sz) y hyk (j % E.sz) _ (List.getElem?_eq_getElem hm)
        have e1 : j / E.sz * E.sz + j % E.sz = j := by rw [Nat.mul_comm]; exact Nat.div_add_mod j E.sz
        rw [e1] at h2
        rw [hj] at h2
        injection h2 with h2
        rw [← h2] at h1
        have e2 : o + j / E.sz * E.sz + j % E.sz = o + j := by omega
        rw [e2] at h1
        rw [← h1]
        unfold Addr.add
        split
        · rename_i h0; rw [h0, Nat.add_zero]
        · rfl
    have h1c : ∀ u ∈ ys.flatMap E.cells, u.oneCell' = true := fun u hu => by
      obtain ⟨y, _, h2⟩ := List.mem_flatMap.1 hu
      exact E.one y u h2
    obtain ⟨v', w', hr, h2, h3, _, h5⟩ := run_append_own_at (P := P) w base t ty e i z E.sz i.bytes ht hi hz0 hz1 rfl hzs E.pos v xs.length (xs.flatMap E.cells) ho ad n c (ys.flatMap E.cells) (by rw [flat_len, hyl]) hcells h1c (by unfold maxLen; omega)
      (by have : (xs.length + n) * i.bytes ≤ 1099511627776 * 64 := Nat.mul_le_mul h63 hby; omega) hbase
    have ho' : Owns E w' base e v' (xs ++ ys) := by
      unfold Owns
      rw [List.length_append, hyl, List.flatMap_append]
      exact h2
    obtain ⟨A', c', hv, _⟩ := ho'.form
    rw [List.length_append, hyl] at hv
    subst hv
    refine ⟨A', c', w', hr, ho', h3, fun g hg => ?_⟩
    rcases h5 with h5 | h5
    · exact .inl (by rw [← h5]; exact hg)
    · exact .inr (by rw [h5] at hg; injection hg with hg; exact hg.symm)
variable {w0 w : World} {L : List Thing} {ops : Array Oper} {rest : List Oper} {o : Oper} {a : Act} {Q : Exit → Act → World → Prop}
theorem wp_append_led {α : Type} {E : El α} {K : Act → World → Prop} (s x : Operand) (t : TypeId) (ho : o.op = .call { callee := .builtin .append, args := #[s, x], argTypes := #[t, t] }) (hS : Led w0 w L) (j : Nat) {base : Nat} {e : TypeId} {v : Value} {xs ys : List α}
    (hj : L[j]? = some (tOwns E base e v xs)) {A : Option Addr} {n c B : Nat} {i : TypeInfo} {z : Value} (ht : P.underlying t = some (.slice e)) (hi : P.info? e = some i) (hz0 : i.zero = some z) (hz1 : i.size = E.sz) (hby : i.bytes ≤ 64) (hzs : z.cells.size = E.sz)
    (hs : a.eval s = v) (hx : a.eval x = .slice A n c) (hy : Sees E w B A n ys) (h63 : xs.length + n ≤ 1099511627776) (hbase : base ≤ w.heap.size)
    (h : ∀ A' c' w', Led w0 w' (L.set j (tOwns E base e (.slice A' (xs.length + n) c') (xs ++ ys))) → K (a.put o.dst (.slice A' (xs.length + n) c')) w') : o.wp P a w K Q := by
  obtain ⟨A', c', w', hr, h2, h3, h4⟩ := run_append_all (P := P) (ty := o.type) (c := c) ht hi hz0 hz1 hzs (hS.own j hj) hy h63 hby hbase
  unfold Oper.wp execOp
  simp only [ho, resolve, invoke, builtin, Sem.run_bind, Sem.run_pure, Result.andThen_ok, List.map_toArray, List.map_cons, List.map_nil, hs, hx, hr]
  refine h A' c' w' (hS.regrow j hj ⟨h3.os, h3.tape, h3.output, h3.size, fun k hk hn => h3.block k hk (fun e => hn e.symm)⟩ (fun b hb => ?_) h2)
  rcases h4 b hb with h5 | h5
  · exact .inl h5
  · exact .inr (by omega)
theorem wpList_append_led {α : Type} {E : El α} (hgd : o.guard = none) (s x : Operand) (t : TypeId) (ho : o.op = .call { callee := .builtin .append, args := #[s, x], argTypes := #[t, t] }) (hS : Led w0 w L) (j : Nat) {base : Nat} {e : TypeId} {v : Value} {xs ys : List α}
    (hj : L[j]? = some (tOwns E base e v xs)) {A : Option Addr} {n c B : Nat} {i : TypeInfo} {z : Value} (ht : P.underlying t = some (.slice e)) (hi : P.info? e = some i) (hz0 : i.zero = some z) (hz1 : i.size = E.sz) (hby : i.bytes ≤ 64) (hzs : z.cells.size = E.sz)
    (hs : a.eval s = v) (hx : a.eval x = .slice A n c) (hy : Sees E w B A n ys) (h63 : xs.length + n ≤ 1099511627776) (hbase : base ≤ w.heap.size)
    (h : ∀ A' c' w', Led w0 w' (L.set j (tOwns E base e (.slice A' (xs.length + n) c') (xs ++ ys))) → wpList P ops Q rest (a.put o.dst (.slice A' (xs.length + n) c')) w') : wpList P ops Q (o :: rest) a w :=
  wpList_plain hgd fun _ hK => wp_append_led s x t ho hS j hj ht hi hz0 hz1 hby hzs hs hx hy h63 hbase fun A' c' w' h2 => hK _ _ (h A' c' w' h2)
theorem step_append_led {α : Type} {E : El α} {K : Act → World → Prop} {F : Prop} (hgd : o.guard = none) (s x : Operand) (t : TypeId) (ho : o.op = .call { callee := .builtin .append, args := #[s, x], argTypes := #[t, t] }) (hS : Led w0 w L) (j : Nat) {base : Nat} {e : TypeId} {v : Value} {xs ys : List α}
    (hj : L[j]? = some (tOwns E base e v xs)) {A : Option Addr} {n c B : Nat} {i : TypeInfo} {z : Value} (ht : P.underlying t = some (.slice e)) (hi : P.info? e = some i) (hz0 : i.zero = some z) (hz1 : i.size = E.sz) (hby : i.bytes ≤ 64) (hzs : z.cells.size = E.sz)
    (hs : a.eval s = v) (hx : a.eval x = .slice A n c) (hy : Sees E w B A n ys) (h63 : xs.length + n ≤ 1099511627776) (hbase : base ≤ w.heap.size)
    (h : ∀ A' c' w', Led w0 w' (L.set j (tOwns E base e (.slice A' (xs.length + n) c') (xs ++ ys))) → K (a.put o.dst (.slice A' (xs.length + n) c')) w') : if Region.wanted o (yielded ops a.tmps) = true then Oper.wp P o a w K Q else F := by
  have hw : Region.wanted o (yielded ops a.tmps) = true := by simp [Region.wanted, hgd]
  rw [if_pos hw]
  exact wp_append_led s x t ho hS j hj ht hi hz0 hz1 hby hzs hs hx hy h63 hbase h
end
end Go.Proofs.YtmkgicfgcoeilaaDoor
/- Lengths of routes, their nodes and their ends; RouteNodes, RouteLength; walked. Conditions: as each states. -/
namespace Go.Proofs.YtmkgicfgcoeilaaDoor
open Go.RowKit
section
variable {n c m d er : Nat} {A A' R : Option Addr} {xs : List ByteArray} {fs : List Fib} {s : Int} {ids : List Int}
end
end Go.Proofs.YtmkgicfgcoeilaaDoor
/- Components by labels that are joined along fibers: as many rounds as there are nodes suffice. Plain Lean. Conditions: the fibers' ends are nodes. -/
namespace Go.Proofs.YtmkgicfgcoeilaaDoor
def valL (L : List Int) (v : Nat) : Int := L.getD v 0
def fibD (fs : List Fib) (i : Nat) : Fib := fs.getD i ⟨0, 0, 0, 0⟩
/-- A fiber joins the labels of its ends. -/
def joinF (f : Fib) (L : List Int) : List Int := (L.set f.a.toNat (min (valL L f.a.toNat) (valL L f.b.toNat))).set f.b.toNat (min (valL L f.a.toNat) (valL L f.b.toNat))
/-- .. each of the first i fibers that is not gone. -/
def passTo (q : Nat → Bool) (fs : List Fib) (L : List Int) : Nat → List Int
  | 0 => L
  | i + 1 => if q i then passTo q fs L i else joinF (fibD fs i) (passTo q fs L i)
def passL (q : Nat → Bool) (fs : List Fib) (L : List Int) : List Int := passTo q fs L fs.length
/-- k rounds. -/
def rndL (q : Nat → Bool) (fs : List Fib) (n : Nat) : Nat → List Int
  | 0 => marks 0 n
  | k + 1 => passL q fs (rndL q fs n k)
/-- The labels: the smallest node of each component. -/
def compL (q : Nat → Bool) (fs : List Fib) (n : Nat) : List Int := rndL q fs n n
/-- The fibers' ends are nodes. -/
def endsB (n : Nat) (fs : List Fib) : Prop := ∀ i, i < fs.length → 0 ≤ (fibD fs i).a ∧ (fibD fs i).a < (fibD fs i).b ∧ (fibD fs i).b < n
theorem valL_set {L : List Int} {a v : Nat} {x : Int} (ha : a < L.length) : valL (L.set a x) v = if v = a then x else valL L v := by
  unfold valL
  by_cases h : v = a
  · subst h; rw [if_pos rfl]; simp [ha]
  · rw [if_neg h]; simp [show ¬ a = v from fun e => h e.symm]
theorem valL_get {L : List Int} {v : Nat} (h : v < L.length) : L[v]? = some (valL L v) := by unfold valL; simp [h]
theorem passTo_succ (q : Nat → Bool) (fs : List Fib) (L : List Int) (i : Nat) : passTo q fs L (i + 1) = if q i then passTo q fs L i else joinF (fibD fs i) (passTo q fs L i) := rfl
theorem passTo_no {q : Nat → Bool} {fs : List Fib} {L : List Int} {i : Nat} (h : q i = false) : passTo q fs L (i + 1) = joinF (fibD fs i) (passTo q fs L i) := by rw [passTo_succ, h]; rfl
theorem rndL_succ (q : Nat → Bool) (fs : List Fib) (n k : Nat) : rndL q fs n (k + 1) = passL q fs (rndL q fs n k) := rfl
theorem joinF_len (f : Fib) (L : List Int) : (joinF f L).length = L.length := by simp [joinF]
theorem joinF_val {f : Fib} {L : List Int} {n : Nat} (hL : L.length = n) (h0 : 0 ≤ f.a) (h1 : f.a < f.b) (h2 : f.b < n) (v : Nat) :
    valL (joinF f L) v = if v = f.a.toNat ∨ v = f.b.toNat then min (valL L f.a.toNat) (valL L f.b.toNat) else valL L v := by
  unfold joinF
  rw [valL_set (by simp; omega), valL_set (by omega)]
  by_cases e1 : v = f.b.toNat
  · rw [if_pos e1, if_pos (.inr e1)]
  · rw [if_neg e1]
    by_cases e2 : v = f.a.toNat
    · rw [if_pos e2, if_pos (.inl e2)]
    · rw [if_neg e2, if_neg (by rintro (h | h); exact e2 h; exact e1 h)]
theorem joinF_same {f : Fib} {L : List Int} {n : Nat} (hL : L.length = n) (h0 : 0 ≤ f.a) (h1 : f.a < f.b) (h2 : f.b < n) (he : valL L f.a.toNat = valL L f.b.toNat) : joinF f L = L := by
  unfold joinF
  rw [he, show min (valL L f.b.toNat) (valL L f.b.toNat) = valL L f.b.toNat by omega]
  have ha : L[f.a.toNat]? = some (valL L f.b.toNat) := by rw [← he]; exact valL_get (by omega)
  have hb : L[f.b.toNat]? = some (valL L f.b.toNat) := valL_get (by omega)
  have e1 : L.set f.a.toNat (valL L f.b.toNat) = L := by
    apply List.ext_getElem?
    intro i
    rw [List.getElem?_set]
    by_cases h : f.a.toNat = i
    · rw [if_pos h, if_pos (by omega), ← h, ha]
    · rw [if_neg h]
  rw [e1]
  apply List.ext_getElem?
  intro i
  rw [List.getElem?_set]
  by_cases h : f.b.toNat = i
  · rw [if_pos h, if_pos (by omega), ← h, hb]
  · rw [if_neg h]
section
variable {q : Nat → Bool} {fs : List Fib} {n : Nat}
theorem passTo_len (L : List Int) (i : Nat) : (passTo q fs L i).length = L.length := by
  induction i with
  | zero => rfl
  | succ i ih => rw [passTo_succ]; split; exact ih; rw [joinF_len]; exact ih
theorem rndL_len (k : Nat) : (rndL q fs n k).length = n := by
  induction k with
  | zero => exact marks_len 0 n
  | succ k ih => rw [rndL_succ]; unfold passL; rw [passTo_len]; exact ih
theorem compL_len : (compL q fs n).length = n := rndL_len n
theorem passTo_step {L : List Int} (hL : L.length = n) (he : endsB n fs) {i : Nat} (hi : i < fs.length) (v : Nat) : valL (passTo q fs L (i + 1)) v ≤ valL (passTo q fs L i) v := by
  rw [passTo_succ]
  split
  · exact Int.le_refl _
  · obtain ⟨h0, h1, h2⟩ := he i hi
    rw [joinF_val (n := n) (by rw [passTo_len, hL]) h0 h1 h2]
    split
    · rename_i h; rcases h with h | h <;> subst h <;> omega
    · exact Int.le_refl _
theorem passTo_mono {L : List Int} (hL : L.length = n) (he : endsB n fs) {i j : Nat} (hij : i ≤ j) (hj : j ≤ fs.length) (v : Nat) : valL (passTo q fs L j) v ≤ valL (passTo q fs L i) v := by
  induction j with
  | zero => rw [show i = 0 by omega]; exact Int.le_refl _
  | succ j ih =>
    rcases Nat.lt_or_ge i (j + 1) with h | h
    · exact Int.le_trans (passTo_step hL he (by omega) v) (ih (by omega) (by omega))
    · rw [show i = j + 1 by omega]; exact Int.le_refl _
theorem passL_le {L : List Int} (hL : L.length = n) (he : endsB n fs) (v : Nat) : valL (passL q fs L) v ≤ valL L v := passTo_mono hL he (Nat.zero_le _) (Nat.le_refl _) v
theorem passL_edge {L : List Int} (hL : L.length = n) (he : endsB n fs) {i : Nat} (hi : i < fs.length) (hq : q i = false) :
    valL (passL q fs L) (fibD fs i).a.toNat ≤ valL L (fibD fs i).b.toNat ∧ valL (passL q fs L) (fibD fs i).b.toNat ≤ valL L (fibD fs i).a.toNat := by
  obtain ⟨h0, h1, h2⟩ := he i hi
  have k1 := fun v => passTo_mono (q := q) hL he (show i + 1 ≤ fs.length from hi) (Nat.le_refl _) v
  have k2 := fun v => passTo_mono (q := q) hL he (Nat.zero_le i) (Nat.le_of_lt hi) v
  have e : ∀ v, valL (passTo q fs L (i + 1)) v = if v = (fibD fs i).a.toNat ∨ v = (fibD fs i).b.toNat then min (valL (passTo q fs L i) (fibD fs i).a.toNat) (valL (passTo q fs L i) (fibD fs i).b.toNat) else valL (passTo q fs L i) v := fun v => by
    rw [passTo_no hq]; exact joinF_val (n := n) (by rw [passTo_len, hL]) h0 h1 h2 v
  have ka := k1 (fibD fs i).a.toNat
  have kb := k1 (fibD fs i).b.toNat
  rw [e, if_pos (.inl rfl)] at ka
  rw [e, if_pos (.inr rfl)] at kb
  have la := k2 (fibD fs i).a.toNat
  have lb := k2 (fibD fs i).b.toNat
  unfold passL
  have e0 : passTo q fs L 0 = L := rfl
  rw [e0] at la lb
  omega
/-- No fiber leads out of the nodes whose label is c at most. -/
def shutL (q : Nat → Bool) (fs : List Fib) (L : List Int) (c : Int) : Prop := ∀ i, i < fs.length → q i = false → (valL L (fibD fs i).a.toNat ≤ c ↔ valL L (fibD fs i).b.toNat ≤ c)
theorem passL_shut {L : List Int} (hL : L.length = n) (he : endsB n fs) {c : Int} (hc : shutL q fs L c) (v : Nat) : valL (passL q fs L) v ≤ c ↔ valL L v ≤ c := by
  suffices h : ∀ i, i ≤ fs.length → ∀ v, (valL (passTo q fs L i) v ≤ c ↔ valL L v ≤ c) from h _ (Nat.le_refl _) v
  intro i
  induction i with
  | zero => intro _ v; exact Iff.rfl
  | succ i ih =>
    intro hi v
    have ih := ih (by omega)
    rw [passTo_succ]
    cases hq : q i
    · obtain ⟨h0, h1, h2⟩ := he i (by omega)
      have hs := hc i (by omega) hq
      simp only [Bool.false_eq_true, if_false]
      rw [joinF_val (n := n) (by rw [passTo_len, hL]) h0 h1 h2]
      have ia := ih (fibD fs i).a.toNat
      have ib := ih (fibD fs i).b.toNat
      split
      · rename_i h
        rcases h with h | h <;> subst h <;> omega
      · exact ih v
    · simp only [if_true]; exact ih v
/-- How many nodes have a label of c at most. -/
def cntL (n : Nat) (L : List Int) (c : Int) : Nat := (List.range n).countP fun v => decide (valL L v ≤ c)
theorem countP_lt {α : Type} {p r : α → Bool} : ∀ {l : List α}, (∀ x ∈ l, p x = true → r x = true) → (∃ x ∈ l, p x = false ∧ r x = true) → l.countP p < l.countP r := by
  intro l
  induction l with
  | nil => rintro _ ⟨x, hx, _⟩; cases hx
  | cons y l ih =>
    intro h1 h2
    have hle : l.countP p ≤ l.countP r := List.countP_mono_left (fun x hx h => h1 x (by simp [hx]) h)
    rw [List.countP_cons, List.countP_cons]
    obtain ⟨x, hx, hp, hr⟩ := h2
    rcases List.mem_cons.1 hx with rfl | hx
    · rw [hp, hr]; simp; omega
    · have := ih (fun z hz => h1 z (by simp [hz])) ⟨x, hx, hp, hr⟩
      have hy := h1 y (by simp)
      cases h3 : p y
      · simp; omega
      · rw [hy h3]; simp; omega
theorem shut_or (he : endsB n fs) (c : Int) (k : Nat) : shutL q fs (rndL q fs n k) c ∨ k + 1 ≤ cntL n (rndL q fs n k) c := by
  induction k with
  | zero =>
    by_cases h : 1 ≤ cntL n (rndL q fs n 0) c
    · exact .inr h
    · left
      have h0 : cntL n (rndL q fs n 0) c = 0 := by omega
      have hn : ∀ v, v < n → ¬ (valL (rndL q fs n 0) v ≤ c) := by
        intro v hv
        have := List.countP_eq_zero.1 h0 v (by simpa using hv)
        simpa using this
      intro i hi _
      obtain ⟨h0, h1, h2⟩ := he i hi
      exact ⟨fun h => absurd h (hn _ (by omega)), fun h => absurd h (hn _ (by omega))⟩
  | succ k ih =>
    have hL : (rndL q fs n k).length = n := rndL_len k
    rcases Classical.em (shutL q fs (rndL q fs n k) c) with hs | hs
    · left
      intro i hi hq
      show valL (passL q fs (rndL q fs n k)) _ ≤ c ↔ valL (passL q fs (rndL q fs n k)) _ ≤ c
      rw [passL_shut hL he hs, passL_shut hL he hs]
      exact hs i hi hq
    · right
      have hk : k + 1 ≤ cntL n (rndL q fs n k) c := by
        rcases ih with h | h
        · exact absurd h hs
        · exact h
      unfold shutL at hs
      have ⟨i, hi, hq, hne⟩ : ∃ i, i < fs.length ∧ q i = false ∧ ¬ (valL (rndL q fs n k) (fibD fs i).a.toNat ≤ c ↔ valL (rndL q fs n k) (fibD fs i).b.toNat ≤ c) := by
        apply Classical.byContradiction
        intro hno
        exact hs fun i hi hq => Classical.byContradiction fun h => hno ⟨i, hi, hq, h⟩
      obtain ⟨h0, h1, h2⟩ := he i hi
      obtain ⟨ea, eb⟩ := passL_edge (q := q) hL he hi hq
      have hlt : cntL n (rndL q fs n k) c < cntL n (rndL q fs n (k + 1)) c := by
        refine countP_lt (fun v _ hv => ?_) ?_
        · have := passL_le (q := q) hL he v
          simp only [decide_eq_true_eq] at hv ⊢
          exact Int.le_trans this hv
        · by_cases hA : valL (rndL q fs n k) (fibD fs i).a.toNat ≤ c
          · have hB : ¬ valL (rndL q fs n k) (fibD fs i).b.toNat ≤ c := fun h => hne ⟨fun _ => h, fun _ => hA⟩
            refine ⟨(fibD fs i).b.toNat, by simp; omega, by simpa using hB, ?_⟩
            simp only [decide_eq_true_eq]
            exact Int.le_trans eb hA
          · have hB : valL (rndL q fs n k) (fibD fs i).b.toNat ≤ c := by
              apply Classical.byContradiction
              intro h
              exact hne ⟨fun x => absurd x hA, fun x => absurd x h⟩
            refine ⟨(fibD fs i).a.toNat, by simp; omega, by simpa using hA, ?_⟩
            simp only [decide_eq_true_eq]
            exact Int.le_trans ea hB
      omega
theorem shut_all (he : endsB n fs) (c : Int) : shutL q fs (compL q fs n) c := by
  rcases shut_or (q := q) he c n with h | h
  · exact h
  · have : cntL n (rndL q fs n n) c ≤ n := by unfold cntL; exact Nat.le_trans List.countP_le_length (by simp)
    omega
theorem valL_ext {L M : List Int} (hl : L.length = M.length) (h : ∀ v, valL L v = valL M v) : L = M := by
  apply List.ext_getElem?
  intro i
  rcases Nat.lt_or_ge i L.length with hi | hi
  · have := h i
    unfold valL at this
    rw [List.getD_eq_getElem?_getD, List.getD_eq_getElem?_getD, List.getElem?_eq_getElem hi, List.getElem?_eq_getElem (by omega : i < M.length)] at this
    rw [List.getElem?_eq_getElem hi, List.getElem?_eq_getElem (by omega : i < M.length)]
    simpa using this
  · rw [List.getElem?_eq_none hi, List.getElem?_eq_none (by omega)]
/-- A further round turns nothing. -/
theorem compL_fix (he : endsB n fs) : passL q fs (compL q fs n) = compL q fs n := by
  have hL : (compL q fs n).length = n := compL_len
  refine valL_ext (by unfold passL; rw [passTo_len]) (fun v => ?_)
  have h1 := (passL_shut hL he (shut_all (q := q) he (valL (passL q fs (compL q fs n)) v)) v).1 (Int.le_refl _)
  have h2 := passL_le (q := q) hL he v
  omega
/-- The ends of a fiber that is not gone have one label. -/
theorem compL_edge (he : endsB n fs) {i : Nat} (hi : i < fs.length) (hq : q i = false) : valL (compL q fs n) (fibD fs i).a.toNat = valL (compL q fs n) (fibD fs i).b.toNat := by
  have h1 := (shut_all (q := q) he (valL (compL q fs n) (fibD fs i).a.toNat) i hi hq).1 (Int.le_refl _)
  have h2 := (shut_all (q := q) he (valL (compL q fs n) (fibD fs i).b.toNat) i hi hq).2 (Int.le_refl _)
  omega
theorem rndL_stay {k : Nat} (h : rndL q fs n (k + 1) = rndL q fs n k) : ∀ j, k ≤ j → rndL q fs n j = rndL q fs n k := by
  intro j
  induction j with
  | zero => intro hk; rw [show k = 0 by omega]
  | succ j ih =>
    intro hk
    rcases Nat.lt_or_ge j k with h1 | h1
    · rw [show k = j + 1 by omega]
    · have := ih h1
      show passL q fs (rndL q fs n j) = _
      rw [this]; exact h
/-- Where a round turns nothing the labels are found. -/
theorem rndL_done (he : endsB n fs) {k : Nat} (h : rndL q fs n (k + 1) = rndL q fs n k) : rndL q fs n k = compL q fs n := by
  rcases Nat.le_total k n with h1 | h1
  · exact (rndL_stay h n h1).symm
  · exact rndL_stay (compL_fix he) k h1
theorem rndL_late (he : endsB n fs) {k : Nat} (h : n ≤ k) : rndL q fs n (k + 1) = rndL q fs n k := by
  rw [rndL_stay (compL_fix (q := q) he) k h, rndL_stay (compL_fix (q := q) he) (k + 1) (by omega)]
/-- Has one of the first i fibers turned a label? -/
def chgB (q : Nat → Bool) (fs : List Fib) (L : List Int) : Nat → Bool
  | 0 => false
  | i + 1 => chgB q fs L i || (!q i && !(valL (passTo q fs L i) (fibD fs i).a.toNat == valL (passTo q fs L i) (fibD fs i).b.toNat))
theorem chgB_no {L : List Int} (hL : L.length = n) (he : endsB n fs) {i : Nat} (hi : i ≤ fs.length) (h : chgB q fs L i = false) : passTo q fs L i = L := by
  induction i with
  | zero => rfl
  | succ i ih =>
    unfold chgB at h
    rw [Bool.or_eq_false_iff] at h
    have ih := ih (by omega) h.1
    rw [passTo_succ]
    cases hq : q i
    · simp only [Bool.false_eq_true, if_false]
      obtain ⟨h0, h1, h2⟩ := he i (by omega)
      rw [joinF_same (n := n) (by rw [passTo_len, hL]) h0 h1 h2 (by have := h.2; rw [hq] at this; simpa using this)]
      exact ih
    · simp only [if_true]; exact ih
theorem chgB_yes {L : List Int} (hL : L.length = n) (he : endsB n fs) {i : Nat} (hi : i ≤ fs.length) (h : chgB q fs L i = true) : passL q fs L ≠ L := by
  have ⟨j, hj, hq, hne⟩ : ∃ j, j < fs.length ∧ q j = false ∧ valL (passTo q fs L j) (fibD fs j).a.toNat ≠ valL (passTo q fs L j) (fibD fs j).b.toNat := by
    induction i with
    | zero => cases h
    | succ i ih =>
      unfold chgB at h
      rcases Bool.or_eq_true_iff.1 h with h | h
      · exact ih (by omega) h
      · exact ⟨i, by omega, by simpa using (Bool.and_eq_true_iff.1 h).1, by simpa using (Bool.and_eq_true_iff.1 h).2⟩
  obtain ⟨h0, h1, h2⟩ := he j hj
  have e : ∀ v, valL (passTo q fs L (j + 1)) v = if v = (fibD fs j).a.toNat ∨ v = (fibD fs j).b.toNat then min (valL (passTo q fs L j) (fibD fs j).a.toNat) (valL (passTo q fs L j) (fibD fs j).b.toNat) else valL (passTo q fs L j) v := fun v => by
    rw [passTo_no hq]; exact joinF_val (n := n) (by rw [passTo_len, hL]) h0 h1 h2 v
  intro hEq
  have k1 := fun v => passTo_mono (q := q) hL he (show j + 1 ≤ fs.length from hj) (Nat.le_refl _) v
  have k2 := fun v => passTo_mono (q := q) hL he (Nat.zero_le j) (Nat.le_of_lt hj) v
  have e0 : passTo q fs L 0 = L := rfl
  have em : passTo q fs L fs.length = L := hEq
  have a1 := k1 (fibD fs j).a.toNat
  have b1 := k1 (fibD fs j).b.toNat
  have a2 := k2 (fibD fs j).a.toNat
  have b2 := k2 (fibD fs j).b.toNat
  rw [e, if_pos (.inl rfl), em] at a1
  rw [e, if_pos (.inr rfl), em] at b1
  rw [e0] at a2 b2
  omega
end
end Go.Proofs.YtmkgicfgcoeilaaDoor
