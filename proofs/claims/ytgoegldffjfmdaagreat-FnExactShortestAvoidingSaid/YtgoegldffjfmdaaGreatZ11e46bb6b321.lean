/- Lemmas and walks that the claim rests on, laid together. Conditions: none. -/
import Derived.Test.YtgoegldffjfmdaaGreatRows
import Derived.Test.YtgoegldffjfmdaaGreatZ72a8aeab9d7c
import Derived.Test.YtgoegldffjfmdaaGreatZa514eb999546
import Derived.Test.YtgoegldffjfmdaaGreatZ5d5b1e381207
import Derived.Deep.RegionHeld
import Derived.Below
import Derived.Test.YtgoegldffjfmdaaGreatZ437c20ac4139
import Derived.BigQuiet
import Derived.Deep.RegionWith
import Derived.Deep.LoopGhost
import Derived.Deep.RegionHeld3
/- Rows of routes: owned, seen, equal. Conditions: as each states. -/
namespace Go.Proofs.YtgoegldffjfmdaaGreat
open Go.RowKit
/-- A route in memory: its start; where its fibers lie. -/
def elRt : El (Int × Sl) := ⟨2, fun x => [.int .i64 x.1, slV x.2], fun _ => rfl, by decide, fun _ u h => by
  simp at h
  rcases h with rfl | rfl
  · rfl
  · rfl⟩
/-- The row v of routes is the call's own, and so is each route's row; they hold rows; no two share memory. -/
def OwnsRS (w : World) (base : Nat) (v : Value) (ss : List (Int × Sl)) (rows : List (Int × List Int)) : Prop :=
  Owns elRt w base 29 v ss ∧ ss.length = rows.length ∧ (∀ (i : Nat) s r, ss[i]? = some s → rows[i]? = some r → s.1 = r.1 ∧ Owns elInt w base 3 (slV s.2) r.2) ∧
    ∀ (i j : Nat) s t g, i < j → ss[i]? = some s → ss[j]? = some t → (slV s.2).ownBlock = some g → ¬ ((slV t.2).ownBlock = some g)
/-- Rows of routes as they read. -/
def SeesRS (w : World) (A : Option Addr) (n : Nat) (ss : List (Int × Sl)) (rows : List (Int × List Int)) : Prop :=
  Sees elRt w w.heap.size A n ss ∧ ss.length = rows.length ∧ ∀ (i : Nat) s r, ss[i]? = some s → rows[i]? = some r → s.1 = r.1 ∧ s.2.n = r.2.length ∧ Sees elInt w w.heap.size s.2.A s.2.n r.2
section
variable {w w' : World} {base : Nat} {v : Value} {ss : List (Int × Sl)} {rows : List (Int × List Int)}
theorem OwnsRS.below (h : OwnsRS w base v ss rows) (hb : Below w.heap.size w w') : OwnsRS w' base v ss rows :=
  ⟨h.1.below hb, h.2.1, fun i s r h1 h2 => ⟨(h.2.2.1 i s r h1 h2).1, (h.2.2.1 i s r h1 h2).2.below hb⟩, h.2.2.2⟩
theorem OwnsRS.base_ {base' : Nat} (h : OwnsRS w base v ss rows) (hb : base' ≤ base) : OwnsRS w base' v ss rows :=
  ⟨h.1.base hb, h.2.1, fun i s r h1 h2 => ⟨(h.2.2.1 i s r h1 h2).1, (h.2.2.1 i s r h1 h2).2.base hb⟩, h.2.2.2⟩
theorem OwnsRS.nil (w : World) (base : Nat) : OwnsRS w base (.slice none 0 0) [] [] :=
  ⟨World.ownsRow_nil _ _ _ _, rfl, fun i s r h1 => by simp at h1, fun i j s t g _ h1 => by simp at h1⟩
theorem OwnsRS.lies (h : OwnsRS w base v ss rows) {b : Nat} (hb : v.ownBlock = some b ∨ ∃ (i : Nat) (s : Int × Sl), ss[i]? = some s ∧ (slV s.2).ownBlock = some b) : base ≤ b ∧ b < w.heap.size := by
  rcases hb with e | ⟨i, s, h1, e⟩
  · exact h.1.lies b e
  · obtain ⟨r, hr⟩ : ∃ r, rows[i]? = some r := ⟨rows[i]'(by rw [← h.2.1]; exact (List.getElem?_eq_some_iff.1 h1).1), List.getElem?_eq_getElem _⟩
    exact (h.2.2.1 i s r h1 hr).2.lies b e
theorem OwnsRS.sees {n c : Nat} {A : Option Addr} (h : OwnsRS w base (.slice A n c) ss rows) : SeesRS w A ss.length ss rows := by
  refine ⟨h.1.sees, h.2.1, fun i s r h1 h2 => ?_⟩
  obtain ⟨e0, ho⟩ := h.2.2.1 i s r h1 h2
  obtain ⟨A', c', hv, _, _, hs⟩ := ho.form
  unfold slV at hv
  injection hv with e1 e2 e3
  exact ⟨e0, e2, by rw [e1, e2]; exact hs⟩
theorem SeesRS.grow {A : Option Addr} {n : Nat} (h : SeesRS w A n ss rows) (hb : Below w.heap.size w w') : SeesRS w' A n ss rows :=
  ⟨(h.1.grow hb).more hb.size, h.2.1, fun i s r h1 h2 => ⟨(h.2.2 i s r h1 h2).1, (h.2.2 i s r h1 h2).2.1, ((h.2.2 i s r h1 h2).2.2.grow hb).more hb.size⟩⟩
/-- One route more, made behind the others; the row may have moved. -/
theorem OwnsRS.push {w2 w3 : World} {r0 : Int × List Int} {s0 : Int × Sl} {v' : Value} (h : OwnsRS w base v ss rows) (hb : Below w.heap.size w w2) (hbase : base ≤ w.heap.size) (h0 : s0.1 = r0.1) (hr : Owns elInt w2 w.heap.size 3 (slV s0.2) r0.2)
    (hown : Owns elRt w3 base 29 v' (ss ++ [s0])) (hg : Touch (fun b => v.ownBlock = some b) w2 w3) : OwnsRS w3 base v' (ss ++ [s0]) (rows ++ [r0]) := by
  have h2 := h.below hb
  refine ⟨hown, by simp [h.2.1], fun i s r h3 h4 => ?_, fun i j s t g hij h3 h4 h5 h6 => ?_⟩
  · rcases Nat.lt_or_ge i ss.length with hi | hi
    · rw [List.getElem?_append_left hi] at h3
      rw [List.getElem?_append_left (by rw [← h.2.1]; exact hi)] at h4
      obtain ⟨e0, ho⟩ := h2.2.2.1 i s r h3 h4
      exact ⟨e0, ho.touch hg (fun g hg' => owns_ne h2.1 ho (by decide) g hg')⟩
    · rw [List.getElem?_append_right hi] at h3
      rw [List.getElem?_append_right (by rw [← h.2.1]; exact hi)] at h4
      have e1 : i - ss.length = 0 := by have := (List.getElem?_eq_some_iff.1 h3).1; simp at this; omega
      have e2 : i - rows.length = 0 := by rw [← h.2.1]; exact e1
      rw [e1] at h3; rw [e2] at h4
      simp at h3 h4; subst h3; subst h4
      exact ⟨h0, (hr.touch hg (fun g hg' => owns_ne h2.1 hr (by decide) g hg')).base hbase⟩
  · rcases Nat.lt_or_ge j ss.length with hj | hj
    · rw [List.getElem?_append_left hj] at h4
      rw [List.getElem?_append_left (by omega)] at h3
      exact h.2.2.2 i j s t g hij h3 h4 h5 h6
    · rw [List.getElem?_append_right hj] at h4
      have e1 : j - ss.length = 0 := by have := (List.getElem?_eq_some_iff.1 h4).1; simp at this; omega
      rw [e1] at h4; simp at h4; subst h4
      rw [List.getElem?_append_left (by omega)] at h3
      obtain ⟨r, hrr⟩ : ∃ r, rows[i]? = some r := ⟨rows[i]'(by rw [← h.2.1]; omega), List.getElem?_eq_getElem _⟩
      have a1 := ((h.2.2.1 i s r h3 hrr).2.lies g h5).2
      have a2 := (hr.lies g h6).1
      omega
end
theorem rt_info : (Tryz.prog.info? 29).map (fun i => (i.zero, i.size, i.bytes)) = some (some (.agg #[.int .i64 0, .slice none 0 0]), 2, 32) := by kernel_rfl
/-- The blocks of a row of routes. -/
def rsS (v : Value) (ss : List (Int × Sl)) (b : Nat) : Prop := v.ownBlock = some b ∨ ∃ (i : Nat) (s : Int × Sl), ss[i]? = some s ∧ (slV s.2).ownBlock = some b
/-- Routes in the ledger. -/
def tRS (base : Nat) (v : Value) (ss : List (Int × Sl)) (rows : List (Int × List Int)) : Thing :=
  ⟨rsS v ss, fun w => OwnsRS w base v ss rows,
    fun _ _ ⟨a, b, c, d⟩ _ hb => ⟨a.st (fun b h => hb b (.inl h)), b, fun i s r h1 h2 => ⟨(c i s r h1 h2).1, (c i s r h1 h2).2.st (fun g h => hb g (.inr ⟨i, s, h1, h⟩))⟩, d⟩,
    fun _ h _ e => (h.lies e).2⟩
theorem Led.rs {w0 w w' : World} {L : List Thing} {v : Value} {ss : List (Int × Sl)} {rows : List (Int × List Int)} (h : Led w0 w L) (hb : Below w.heap.size w w') (ho : OwnsRS w' w.heap.size v ss rows) : Led w0 w' (tRS w.heap.size v ss rows :: L) :=
  h.put hb _ (fun _ e => (ho.lies e).1) ho
end Go.Proofs.YtgoegldffjfmdaaGreat
/- markRouteS, heldRouteS, walked. Conditions: at most 1048576 routes and fibers of a route; the last mark below 2^40. -/
namespace Go.Proofs.YtgoegldffjfmdaaGreat
open Go.RowKit
/-- The mark at which route j begins. -/
def offR (k : Int) (rows : List (Int × List Int)) (j : Nat) : Int := k + ((((rows.take j).map fun r => 1 + r.2.length).sum : Nat) : Int)
theorem offR_zero (k : Int) (rows : List (Int × List Int)) : offR k rows 0 = k := by simp [offR]
theorem offR_succ {k : Int} {rows : List (Int × List Int)} {j : Nat} {r : Int × List Int} (h : rows[j]? = some r) : offR k rows (j + 1) = offR k rows j + 1 + (r.2.length : Int) := by
  unfold offR
  rw [List.take_add_one, h]
  simp
  omega
theorem offR_ge (k : Int) (rows : List (Int × List Int)) (j : Nat) : k ≤ offR k rows j := by unfold offR; omega
theorem offR_le {k : Int} {rows : List (Int × List Int)} : ∀ {d j : Nat}, j + d = rows.length → offR k rows j ≤ offR k rows rows.length := by
  intro d
  induction d with
  | zero => intro j h; rw [show j = rows.length by omega]; exact Int.le_refl _
  | succ d ih =>
    intro j h
    have h1 := ih (j := j + 1) (by omega)
    obtain ⟨r, hr⟩ : ∃ r, rows[j]? = some r := ⟨rows[j]'(by omega), List.getElem?_eq_getElem _⟩
    rw [offR_succ hr] at h1
    omega
/-- All routes, marked. -/
def marksRS (k : Int) (rows : List (Int × List Int)) : List (Int × List Int) := (List.range rows.length).map fun i => (offR k rows i, marks (offR k rows i + 1) (rows.getD i (0, [])).2.length)
theorem marksRS_len (k : Int) (rows : List (Int × List Int)) : (marksRS k rows).length = rows.length := by simp [marksRS]
theorem marksRS_get {k : Int} {rows : List (Int × List Int)} {i : Nat} {r q : Int × List Int} (h : rows[i]? = some r) (hq : (marksRS k rows)[i]? = some q) : q = (offR k rows i, marks (offR k rows i + 1) r.2.length) := by
  have hi := (List.getElem?_eq_some_iff.1 h).1
  unfold marksRS at hq
  rw [List.getElem?_map, List.getElem?_range hi] at hq
  simp [h] at hq
  exact hq.symm
/-- A route's start is stored. -/
theorem Owns.rt_set {w : World} {base g c n : Nat} {ss : List (Int × Sl)} (h : Owns elRt w base 29 (.slice (some ⟨g, 0, none⟩) n c) ss) {j : Nat} {s : Int × Sl} (hj : ss[j]? = some s) (x : Int) :
    Owns elRt (w.setCell ⟨g, j * 2, none⟩ (.int .i64 x)) base 29 (.slice (some ⟨g, 0, none⟩) n c) (ss.set j (x, s.2)) := by
  rcases h.cases with ⟨h0, _⟩ | ⟨g1, c1, cur, hv, hbase, hb, hnc, hcm, hs, hf⟩
  · cases h0
  · injection hv with h1 h2 h3
    injection h1 with h1
    injection h1 with h1
    subst h1
    subst h3
    have hjl := (List.getElem?_eq_some_iff.1 hj).1
    rw [h2]
    refine Owns.of_blk (hb.set (j * 2) _) hbase (by simp) hnc (by simp [hs]) hcm (fun k y hk hy i u hu => ?_)
    rw [List.getElem?_set] at hy
    have hsz : cur.size = c * 2 := hs
    by_cases hjk : j = k
    · subst hjk
      rw [if_pos rfl, if_pos hjl] at hy
      injection hy with hy; subst hy
      have hu' : [Value.int .i64 x, slV s.2][i]? = some u := hu
      match i, hu' with
      | 0, hu' =>
        simp at hu'; subst hu'
        show (cur.setIfInBounds (j * 2) _)[j * 2 + 0]? = _
        rw [Nat.add_zero, Array.getElem?_setIfInBounds_self_of_lt (by omega)]
      | 1, hu' =>
        simp at hu'; subst hu'
        show (cur.setIfInBounds (j * 2) _)[j * 2 + 1]? = _
        rw [Array.getElem?_setIfInBounds_ne (by omega)]
        exact hf j s hk hj 1 _ rfl
      | i + 2, hu' => simp at hu'
    · rw [if_neg hjk] at hy
      have hi : i < 2 := by have := (List.getElem?_eq_some_iff.1 hu).1; rw [elRt.len y] at this; exact this
      show (cur.setIfInBounds (j * 2) _)[k * 2 + i]? = _
      rw [Array.getElem?_setIfInBounds_ne (by omega)]
      exact hf k y hk hy i u hu
theorem Owns.rt_free {w : World} {base g c n : Nat} {ss : List (Int × Sl)} (h : Owns elRt w base 29 (.slice (some ⟨g, 0, none⟩) n c) ss) (j : Nat) : w.frozen? ⟨g, j, none⟩ = false := by
  rcases h.cases with ⟨h0, _⟩ | ⟨g1, c1, cur, hv, _, hb, _⟩
  · cases h0
  · injection hv with h1 h2 h3
    injection h1 with h1
    injection h1 with h1
    subst h1
    exact hb.frozen j
/-- Route i behind j routes' marking. -/
def rowR (k : Int) (rows : List (Int × List Int)) (j i : Nat) (r : List Int) : List Int := if i < j then marks (offR k rows i + 1) r.length else r
theorem snd_of {ss tt : List (Int × Sl)} (h : tt.map (·.2) = ss.map (·.2)) {i : Nat} {t : Int × Sl} (ht : tt[i]? = some t) : ∃ s, ss[i]? = some s ∧ s.2 = t.2 := by
  have h1 : (tt.map (·.2))[i]? = some t.2 := by rw [List.getElem?_map, ht]; rfl
  rw [h, List.getElem?_map] at h1
  cases hs : ss[i]? with
  | none => rw [hs] at h1; cases h1
  | some s => rw [hs] at h1; injection h1 with h1; exact ⟨s, rfl, h1⟩
end Go.Proofs.YtgoegldffjfmdaaGreat
/- Rows of routes in the ledger: equal, marked, held. Conditions: at most 1048576 routes and fibers of a route; marks below 2^40. -/
namespace Go.Proofs.YtgoegldffjfmdaaGreat
open Go.RowKit
theorem rsS_eq {v : Value} {ss tt : List (Int × Sl)} (h : tt.map (·.2) = ss.map (·.2)) : rsS v tt = rsS v ss := by
  funext b
  apply propext
  unfold rsS
  constructor
  · rintro (e | ⟨i, t, ht, e⟩)
    · exact .inl e
    · obtain ⟨s, hs, h2⟩ := snd_of h ht
      exact .inr ⟨i, s, hs, by rw [h2]; exact e⟩
  · rintro (e | ⟨i, t, ht, e⟩)
    · exact .inl e
    · obtain ⟨s, hs, h2⟩ := snd_of h.symm ht
      exact .inr ⟨i, s, hs, by rw [h2]; exact e⟩
variable {w0 w : World} {L : List Thing} {base base' n c c' : Nat} {A A' : Option Addr} {ss ss' : List (Int × Sl)} {rows : List (Int × List Int)}
theorem rs_n (h : Led w0 w L) (i : Nat) (hi : L[i]? = some (tRS base (.slice A n c) ss rows)) : ss.length = n := by
  have h1 : OwnsRS w base _ ss rows := h.get i hi
  obtain ⟨A', c', hv, _⟩ := h1.1.form
  injection hv with _ e2
  exact e2.symm
theorem rs_rows (h : Led w0 w L) (i : Nat) (hi : L[i]? = some (tRS base (.slice A n c) ss rows)) : rows.length = n := by
  have h1 : OwnsRS w base _ ss rows := h.get i hi
  rw [← h1.2.1]
  exact rs_n h i hi
end Go.Proofs.YtgoegldffjfmdaaGreat
/- Distances by relaxing along fibers: as many rounds as there are nodes suffice. Plain Lean. Conditions: the fibers' ends are nodes, lengths are positive. -/
namespace Go.Proofs.YtgoegldffjfmdaaGreat
/-- x is as good a distance as y; what is below 0 is none. -/
def better (x y : Int) : Prop := y < 0 ∨ (0 ≤ x ∧ x ≤ y)
theorem better_refl (x : Int) : better x x := by unfold better; omega
theorem better_trans {x y z : Int} (h : better x y) (k : better y z) : better x z := by unfold better at *; omega
/-- May v be reached better by way of u? -/
def canB (u v : Nat) (l : Int) (D : List Int) : Bool := decide (0 ≤ valL D u) && (decide (valL D v < 0) || decide (valL D u + l < valL D v))
def relax (u v : Nat) (l : Int) (D : List Int) : List Int := if canB u v l D then D.set v (valL D u + l) else D
/-- Each fiber there and back. -/
def arcU (fs : List Fib) (j : Nat) : Nat := if j % 2 = 0 then (fibD fs (j / 2)).a.toNat else (fibD fs (j / 2)).b.toNat
def arcV (fs : List Fib) (j : Nat) : Nat := if j % 2 = 0 then (fibD fs (j / 2)).b.toNat else (fibD fs (j / 2)).a.toNat
def arcLn (fs : List Fib) (j : Nat) : Int := (fibD fs (j / 2)).len
def dstTo (q : Nat → Bool) (fs : List Fib) (D : List Int) : Nat → List Int
  | 0 => D
  | j + 1 => if q (j / 2) then dstTo q fs D j else relax (arcU fs j) (arcV fs j) (arcLn fs j) (dstTo q fs D j)
theorem dstTo_succ (q : Nat → Bool) (fs : List Fib) (D : List Int) (j : Nat) : dstTo q fs D (j + 1) = if q (j / 2) then dstTo q fs D j else relax (arcU fs j) (arcV fs j) (arcLn fs j) (dstTo q fs D j) := rfl
theorem dstTo_no {q : Nat → Bool} {fs : List Fib} {D : List Int} {j : Nat} (h : q (j / 2) = false) : dstTo q fs D (j + 1) = relax (arcU fs j) (arcV fs j) (arcLn fs j) (dstTo q fs D j) := by rw [dstTo_succ, h]; rfl
def dstPass (q : Nat → Bool) (fs : List Fib) (D : List Int) : List Int := dstTo q fs D (2 * fs.length)
def dst0 (n s : Nat) : List Int := (List.replicate n (-1)).set s 0
def dstRnd (q : Nat → Bool) (fs : List Fib) (n s : Nat) : Nat → List Int
  | 0 => dst0 n s
  | k + 1 => dstPass q fs (dstRnd q fs n s k)
/-- The distances from s; -1 where there is no way. -/
def distL (q : Nat → Bool) (fs : List Fib) (n s : Nat) : List Int := dstRnd q fs n s n
/-- Lengths are positive. -/
def lensB (fs : List Fib) : Prop := ∀ i, i < fs.length → 1 ≤ (fibD fs i).len
section
variable {q : Nat → Bool} {fs : List Fib} {n s : Nat}
theorem arc_in (he : endsB n fs) {j : Nat} (hj : j < 2 * fs.length) : arcU fs j < n ∧ arcV fs j < n ∧ arcU fs j ≠ arcV fs j := by
  obtain ⟨h0, h1, h2⟩ := he (j / 2) (by omega)
  unfold arcU arcV
  split <;> omega
theorem arc_len (hl : lensB fs) {j : Nat} (hj : j < 2 * fs.length) : 1 ≤ arcLn fs j := hl _ (by omega)
theorem relax_len (u v : Nat) (l : Int) (D : List Int) : (relax u v l D).length = D.length := by unfold relax; split <;> simp
theorem relax_val {u v w : Nat} {l : Int} {D : List Int} (hv : v < D.length) : valL (relax u v l D) w = if w = v ∧ canB u v l D = true then valL D u + l else valL D w := by
  unfold relax
  cases h : canB u v l D
  · simp
  · simp only [if_true]
    rw [valL_set hv]
    by_cases e : w = v
    · simp [e]
    · simp [e]
theorem canB_iff {u v : Nat} {l : Int} {D : List Int} : canB u v l D = true ↔ 0 ≤ valL D u ∧ (valL D v < 0 ∨ valL D u + l < valL D v) := by
  unfold canB; simp
theorem dstTo_len (D : List Int) (j : Nat) : (dstTo q fs D j).length = D.length := by
  induction j with
  | zero => rfl
  | succ j ih => rw [dstTo_succ]; split; exact ih; rw [relax_len]; exact ih
theorem dst0_len : (dst0 n s).length = n := by simp [dst0]
theorem dstRnd_len (k : Nat) : (dstRnd q fs n s k).length = n := by
  induction k with
  | zero => exact dst0_len
  | succ k ih => show (dstPass q fs (dstRnd q fs n s k)).length = n; unfold dstPass; rw [dstTo_len]; exact ih
theorem distL_len : (distL q fs n s).length = n := dstRnd_len n
theorem dstTo_step {D : List Int} (hD : D.length = n) (he : endsB n fs) (hl : lensB fs) {j : Nat} (hj : j < 2 * fs.length) (w : Nat) : better (valL (dstTo q fs D (j + 1)) w) (valL (dstTo q fs D j) w) := by
  rw [dstTo_succ]
  split
  · exact better_refl _
  · obtain ⟨hu, hv, _⟩ := arc_in he hj
    have := arc_len hl hj
    rw [relax_val (by rw [dstTo_len, hD]; exact hv)]
    split
    · rename_i h
      have h2 := canB_iff.1 h.2
      rw [h.1]
      unfold better; omega
    · exact better_refl _
theorem dstTo_mono {D : List Int} (hD : D.length = n) (he : endsB n fs) (hl : lensB fs) {i j : Nat} (hij : i ≤ j) (hj : j ≤ 2 * fs.length) (w : Nat) : better (valL (dstTo q fs D j) w) (valL (dstTo q fs D i) w) := by
  induction j with
  | zero => rw [show i = 0 by omega]; exact better_refl _
  | succ j ih =>
    rcases Nat.lt_or_ge i (j + 1) with h | h
    · exact better_trans (dstTo_step hD he hl (by omega) w) (ih (by omega) (by omega))
    · rw [show i = j + 1 by omega]; exact better_refl _
theorem dstPass_better {D : List Int} (hD : D.length = n) (he : endsB n fs) (hl : lensB fs) (w : Nat) : better (valL (dstPass q fs D) w) (valL D w) := dstTo_mono hD he hl (Nat.zero_le _) (Nat.le_refl _) w
theorem dstPass_arc {D : List Int} (hD : D.length = n) (he : endsB n fs) (hl : lensB fs) {j : Nat} (hj : j < 2 * fs.length) (hq : q (j / 2) = false) (hu : 0 ≤ valL D (arcU fs j)) :
    0 ≤ valL (dstPass q fs D) (arcV fs j) ∧ valL (dstPass q fs D) (arcV fs j) ≤ valL D (arcU fs j) + arcLn fs j := by
  have h1 := dstTo_mono (q := q) hD he hl (Nat.zero_le j) (Nat.le_of_lt hj) (arcU fs j)
  have h2 := dstTo_mono (q := q) hD he hl (show j + 1 ≤ 2 * fs.length from hj) (Nat.le_refl _) (arcV fs j)
  have e0 : dstTo q fs D 0 = D := rfl
  rw [e0] at h1
  obtain ⟨hu', hv', _⟩ := arc_in he hj
  have hl1 := arc_len hl hj
  have h3 : valL (dstTo q fs D (j + 1)) (arcV fs j) = if arcV fs j = arcV fs j ∧ canB (arcU fs j) (arcV fs j) (arcLn fs j) (dstTo q fs D j) = true then valL (dstTo q fs D j) (arcU fs j) + arcLn fs j else valL (dstTo q fs D j) (arcV fs j) := by
    rw [dstTo_no hq]; exact relax_val (by rw [dstTo_len, hD]; exact hv')
  have h4 : 0 ≤ valL (dstTo q fs D (j + 1)) (arcV fs j) ∧ valL (dstTo q fs D (j + 1)) (arcV fs j) ≤ valL (dstTo q fs D j) (arcU fs j) + arcLn fs j := by
    rw [h3]
    unfold better at h1
    split
    · omega
    · rename_i h
      have hc : ¬ (canB (arcU fs j) (arcV fs j) (arcLn fs j) (dstTo q fs D j) = true) := fun hc => h ⟨rfl, hc⟩
      rw [canB_iff] at hc
      omega
  unfold dstPass
  unfold better at h1 h2
  omega
/-- Some arc leads to a distance of c at most that is better than what is known. -/
def impP (q : Nat → Bool) (fs : List Fib) (D : List Int) (c : Int) : Prop := ∃ j, j < 2 * fs.length ∧ q (j / 2) = false ∧ canB (arcU fs j) (arcV fs j) (arcLn fs j) D = true ∧ valL D (arcU fs j) + arcLn fs j ≤ c
theorem dstTo_stay {D : List Int} (hD : D.length = n) (he : endsB n fs) (hl : lensB fs) {c : Int} (hc : ¬ impP q fs D c) {j : Nat} (hj : j ≤ 2 * fs.length) :
    ∀ w, (0 ≤ valL D w → valL D w ≤ c → valL (dstTo q fs D j) w = valL D w) ∧ (0 ≤ valL (dstTo q fs D j) w → valL (dstTo q fs D j) w ≤ c → valL D w = valL (dstTo q fs D j) w) := by
  induction j with
  | zero => exact fun w => ⟨fun _ _ => rfl, fun _ _ => rfl⟩
  | succ j ih =>
    have ih := ih (by omega)
    intro w
    rw [dstTo_succ]
    cases hq : q (j / 2)
    · simp only [Bool.false_eq_true, if_false]
      obtain ⟨hu, hv, _⟩ := arc_in he (j := j) (by omega)
      have hl1 := arc_len hl (j := j) (by omega)
      rw [relax_val (by rw [dstTo_len, hD]; exact hv)]
      by_cases h : w = arcV fs j ∧ canB (arcU fs j) (arcV fs j) (arcLn fs j) (dstTo q fs D j) = true
      · rw [if_pos h]
        obtain ⟨hw, hcan⟩ := h
        have hcan' := canB_iff.1 hcan
        have iu := ih (arcU fs j)
        have iv := ih (arcV fs j)
        rw [← hw] at iv hcan'
        have key : ¬ (valL (dstTo q fs D j) (arcU fs j) + arcLn fs j ≤ c) := by
          intro hle
          have e1 := iu.2 hcan'.1 (by omega)
          have hno : ¬ (canB (arcU fs j) (arcV fs j) (arcLn fs j) D = true) := fun hx => hc ⟨j, by omega, hq, hx, by omega⟩
          rw [canB_iff, ← hw] at hno
          have := iv.1
          omega
        constructor
        · intro a1 a2
          have := iv.1 a1 a2
          omega
        · intro a1 a2; omega
      · rw [if_neg h]; exact ih w
    · simp only [if_true]; exact ih w
theorem dstPass_stay {D : List Int} (hD : D.length = n) (he : endsB n fs) (hl : lensB fs) {c : Int} (hc : ¬ impP q fs D c) (w : Nat) :
    (0 ≤ valL D w → valL D w ≤ c → valL (dstPass q fs D) w = valL D w) ∧ (0 ≤ valL (dstPass q fs D) w → valL (dstPass q fs D) w ≤ c → valL D w = valL (dstPass q fs D) w) := dstTo_stay hD he hl hc (Nat.le_refl _) w
theorem least_of {p : Nat → Prop} (h : ∃ k, p k) : ∃ k, p k ∧ ∀ j, j < k → ¬ p j := by
  obtain ⟨k, hk⟩ := h
  induction k using Nat.strongRecOn with
  | _ k ih =>
    rcases Classical.em (∃ j, j < k ∧ p j) with ⟨j, hj, hp⟩ | hno
    · exact ih j hj hp
    · exact ⟨k, hk, fun j hj hp => hno ⟨j, hj, hp⟩⟩
/-- How many nodes have a distance of c at most. -/
def cntD (n : Nat) (D : List Int) (c : Int) : Nat := (List.range n).countP fun v => decide (0 ≤ valL D v) && decide (valL D v ≤ c)
theorem val_repl (n v : Nat) : valL (List.replicate n (-1)) v = if v < n then -1 else 0 := by
  unfold valL
  by_cases h : v < n
  · rw [if_pos h]; simp [h]
  · rw [if_neg h]; simp [h]
theorem dst0_val (hs : s < n) (v : Nat) (hv : v < n) : valL (dst0 n s) v = if v = s then 0 else -1 := by
  unfold dst0
  rw [valL_set (by simp; exact hs), val_repl, if_pos hv]
/-- No arc leads on to a better distance. -/
def dstFix (q : Nat → Bool) (fs : List Fib) (D : List Int) : Prop := ∀ c, ¬ impP q fs D c
theorem dstFix_pass {D : List Int} (hD : D.length = n) (he : endsB n fs) (hl : lensB fs) (h : dstFix q fs D) : dstPass q fs D = D := by
  refine valL_ext (by unfold dstPass; rw [dstTo_len]) (fun v => ?_)
  have h1 := dstPass_stay hD he hl (h (valL D v)) v
  have h2 := dstPass_stay hD he hl (h (valL (dstPass q fs D) v)) v
  have h3 := dstPass_better (q := q) hD he hl v
  by_cases a : 0 ≤ valL D v
  · exact h1.1 a (Int.le_refl _)
  · by_cases b : 0 ≤ valL (dstPass q fs D) v
    · exact (h2.2 b (Int.le_refl _)).symm
    · -- both are none: no step has turned it
      suffices hh : ∀ j, j ≤ 2 * fs.length → valL (dstTo q fs D j) v = valL D v from hh _ (Nat.le_refl _)
      intro j
      induction j with
      | zero => intro _; rfl
      | succ j ih =>
        intro hj
        have ih := ih (by omega)
        have hmono := dstTo_mono (q := q) hD he hl hj (Nat.le_refl _) v
        unfold dstPass at b
        rw [dstTo_succ]
        cases hq : q (j / 2)
        · simp only [Bool.false_eq_true, if_false]
          obtain ⟨hu, hv, _⟩ := arc_in he (j := j) (by omega)
          have hl1 := arc_len hl (j := j) (by omega)
          have hval : valL (dstTo q fs D (j + 1)) v = if v = arcV fs j ∧ canB (arcU fs j) (arcV fs j) (arcLn fs j) (dstTo q fs D j) = true then valL (dstTo q fs D j) (arcU fs j) + arcLn fs j else valL (dstTo q fs D j) v := by
            rw [dstTo_no hq]; exact relax_val (by rw [dstTo_len, hD]; exact hv)
          rw [relax_val (by rw [dstTo_len, hD]; exact hv)]
          split
          · rename_i hx
            rw [if_pos hx] at hval
            have := (canB_iff.1 hx.2).1
            unfold better at hmono
            omega
          · exact ih
        · simp only [if_true]; exact ih
theorem dst_or (he : endsB n fs) (hl : lensB fs) (hs : s < n) (k : Nat) :
    dstFix q fs (dstRnd q fs n s k) ∨ ∃ c, ¬ impP q fs (dstRnd q fs n s k) c ∧ k + 1 ≤ cntD n (dstRnd q fs n s k) c := by
  induction k with
  | zero =>
    right
    refine ⟨0, ?_, ?_⟩
    · rintro ⟨j, hj, hq, hc, hle⟩
      have := arc_len hl hj
      have := (canB_iff.1 hc).1
      omega
    · show 0 < cntD n (dst0 n s) 0
      unfold cntD
      rw [List.countP_pos_iff]
      exact ⟨s, by simpa using hs, by rw [dst0_val hs s hs]; simp⟩
  | succ k ih =>
    have hD : (dstRnd q fs n s k).length = n := dstRnd_len k
    rcases Classical.em (dstFix q fs (dstRnd q fs n s k)) with hf | hf
    · left
      show dstFix q fs (dstPass q fs (dstRnd q fs n s k))
      rw [dstFix_pass hD he hl hf]; exact hf
    · right
      obtain ⟨c, hc, hk⟩ := ih.resolve_left hf
      have hex : ∃ t : Nat, impP q fs (dstRnd q fs n s k) (t : Int) := by
        have ⟨c', hc'⟩ : ∃ c', impP q fs (dstRnd q fs n s k) c' := Classical.byContradiction fun h => hf fun c' hc' => h ⟨c', hc'⟩
        obtain ⟨j, hj, hq, hcan, hle⟩ := hc'
        have := (canB_iff.1 hcan).1
        have := arc_len hl hj
        exact ⟨c'.toNat, j, hj, hq, hcan, by omega⟩
      obtain ⟨t, ht, hmin⟩ := least_of hex
      have hpos : 0 < t := by
        obtain ⟨j, hj, hq, hcan, hle⟩ := ht
        have := (canB_iff.1 hcan).1
        have := arc_len hl hj
        omega
      have hprev : ¬ impP q fs (dstRnd q fs n s k) ((t : Int) - 1) := by
        have := hmin (t - 1) (by omega)
        rwa [show ((t - 1 : Nat) : Int) = (t : Int) - 1 by omega] at this
      have hct : c < t := by
        apply Classical.byContradiction
        intro h
        obtain ⟨j, hj, hq, hcan, hle⟩ := ht
        exact hc ⟨j, hj, hq, hcan, by omega⟩
      have hstay := fun w => dstPass_stay hD he hl hprev w
      refine ⟨t, ?_, ?_⟩
      · rintro ⟨j, hj, hq, hcan, hle⟩
        have h1 := canB_iff.1 hcan
        have hl1 := arc_len hl hj
        change 0 ≤ valL (dstPass q fs (dstRnd q fs n s k)) _ ∧ (valL (dstPass q fs (dstRnd q fs n s k)) _ < 0 ∨ valL (dstPass q fs (dstRnd q fs n s k)) _ + _ < valL (dstPass q fs (dstRnd q fs n s k)) _) at h1
        change valL (dstPass q fs (dstRnd q fs n s k)) _ + _ ≤ _ at hle
        have h2 := (hstay (arcU fs j)).2 h1.1 (by omega)
        have h3 := dstPass_arc (q := q) hD he hl hj hq (by omega)
        omega
      · have hlt : cntD n (dstRnd q fs n s k) c < cntD n (dstRnd q fs n s (k + 1)) t := by
          refine countP_lt (fun v _ hv => ?_) ?_
          · simp only [Bool.and_eq_true, decide_eq_true_eq] at hv ⊢
            have := (hstay v).1 hv.1 (by omega)
            show 0 ≤ valL (dstPass q fs (dstRnd q fs n s k)) v ∧ valL (dstPass q fs (dstRnd q fs n s k)) v ≤ t
            omega
          · obtain ⟨j, hj, hq, hcan, hle⟩ := ht
            have h1 := canB_iff.1 hcan
            have hl1 := arc_len hl hj
            have h3 := dstPass_arc (q := q) hD he hl hj hq h1.1
            refine ⟨arcV fs j, by simpa using (arc_in he hj).2.1, ?_, ?_⟩
            · have hge : ¬ (valL (dstRnd q fs n s k) (arcU fs j) + arcLn fs j ≤ c) := fun h => hc ⟨j, hj, hq, hcan, h⟩
              have : ¬ (0 ≤ valL (dstRnd q fs n s k) (arcV fs j) ∧ valL (dstRnd q fs n s k) (arcV fs j) ≤ c) := by omega
              simpa using this
            · simp only [Bool.and_eq_true, decide_eq_true_eq]
              show 0 ≤ valL (dstPass q fs (dstRnd q fs n s k)) _ ∧ valL (dstPass q fs (dstRnd q fs n s k)) _ ≤ t
              omega
        omega
theorem distL_fixed (he : endsB n fs) (hl : lensB fs) (hs : s < n) : dstFix q fs (distL q fs n s) := by
  rcases dst_or (q := q) he hl hs n with h | ⟨c, _, h⟩
  · exact h
  · have : cntD n (dstRnd q fs n s n) c ≤ n := by unfold cntD; exact Nat.le_trans List.countP_le_length (by simp)
    omega
theorem distL_fix (he : endsB n fs) (hl : lensB fs) (hs : s < n) : dstPass q fs (distL q fs n s) = distL q fs n s := dstFix_pass distL_len he hl (distL_fixed he hl hs)
theorem dstRnd_stay {k : Nat} (h : dstRnd q fs n s (k + 1) = dstRnd q fs n s k) : ∀ j, k ≤ j → dstRnd q fs n s j = dstRnd q fs n s k := by
  intro j
  induction j with
  | zero => intro hk; rw [show k = 0 by omega]
  | succ j ih =>
    intro hk
    rcases Nat.lt_or_ge j k with h1 | h1
    · rw [show k = j + 1 by omega]
    · show dstPass q fs (dstRnd q fs n s j) = _
      rw [ih h1]; exact h
theorem dstRnd_done (he : endsB n fs) (hl : lensB fs) (hs : s < n) {k : Nat} (h : dstRnd q fs n s (k + 1) = dstRnd q fs n s k) : dstRnd q fs n s k = distL q fs n s := by
  rcases Nat.le_total k n with h1 | h1
  · exact (dstRnd_stay h n h1).symm
  · exact dstRnd_stay (distL_fix he hl hs) k h1
theorem dstRnd_late (he : endsB n fs) (hl : lensB fs) (hs : s < n) {k : Nat} (h : n ≤ k) : dstRnd q fs n s (k + 1) = dstRnd q fs n s k := by
  rw [dstRnd_stay (distL_fix (q := q) he hl hs) k h, dstRnd_stay (distL_fix (q := q) he hl hs) (k + 1) (by omega)]
/-- Has one of the first j arcs turned a distance? -/
def dchB (q : Nat → Bool) (fs : List Fib) (D : List Int) : Nat → Bool
  | 0 => false
  | j + 1 => dchB q fs D j || (!q (j / 2) && canB (arcU fs j) (arcV fs j) (arcLn fs j) (dstTo q fs D j))
theorem dchB_no {D : List Int} {j : Nat} (h : dchB q fs D j = false) : dstTo q fs D j = D := by
  induction j with
  | zero => rfl
  | succ j ih =>
    unfold dchB at h
    rw [Bool.or_eq_false_iff] at h
    have ih := ih h.1
    rw [dstTo_succ]
    cases hq : q (j / 2)
    · have h2 := h.2
      rw [hq] at h2
      simp only [Bool.false_eq_true, if_false]
      unfold relax
      rw [if_neg (by simpa using h2)]
      exact ih
    · simp only [if_true]; exact ih
theorem dchB_yes {D : List Int} (hD : D.length = n) (he : endsB n fs) (hl : lensB fs) {j : Nat} (hj : j ≤ 2 * fs.length) (h : dchB q fs D j = true) : dstPass q fs D ≠ D := by
  have ⟨i, hi, hq, hc⟩ : ∃ i, i < 2 * fs.length ∧ q (i / 2) = false ∧ canB (arcU fs i) (arcV fs i) (arcLn fs i) (dstTo q fs D i) = true := by
    induction j with
    | zero => cases h
    | succ j ih =>
      unfold dchB at h
      rcases Bool.or_eq_true_iff.1 h with h | h
      · exact ih (by omega) h
      · exact ⟨j, by omega, by simpa using (Bool.and_eq_true_iff.1 h).1, (Bool.and_eq_true_iff.1 h).2⟩
  intro hEq
  obtain ⟨hu, hv, _⟩ := arc_in he hi
  have hl1 := arc_len hl hi
  have h1 := canB_iff.1 hc
  have e : valL (dstTo q fs D (i + 1)) (arcV fs i) = valL (dstTo q fs D i) (arcU fs i) + arcLn fs i := by
    rw [dstTo_no hq, relax_val (by rw [dstTo_len, hD]; exact hv), if_pos ⟨rfl, hc⟩]
  have k1 := dstTo_mono (q := q) hD he hl (show i + 1 ≤ 2 * fs.length from hi) (Nat.le_refl _) (arcV fs i)
  have k2 := dstTo_mono (q := q) hD he hl (Nat.zero_le i) (Nat.le_of_lt hi) (arcV fs i)
  have e0 : dstTo q fs D 0 = D := rfl
  have em : dstTo q fs D (2 * fs.length) = D := hEq
  rw [e0] at k2
  rw [em, e] at k1
  unfold better at k1 k2
  omega
/-- All but the start lie away. -/
theorem dstRnd_pos (he : endsB n fs) (hl : lensB fs) (hs : s < n) (k : Nat) : ∀ v, v < n → (v = s → valL (dstRnd q fs n s k) v = 0) ∧ (v ≠ s → valL (dstRnd q fs n s k) v = -1 ∨ 1 ≤ valL (dstRnd q fs n s k) v) := by
  induction k with
  | zero =>
    intro v hv
    show (_ → valL (dst0 n s) v = 0) ∧ (_ → valL (dst0 n s) v = -1 ∨ _)
    rw [dst0_val hs v hv]
    exact ⟨fun h => if_pos h, fun h => .inl (if_neg h)⟩
  | succ k ih =>
    have hD : (dstRnd q fs n s k).length = n := dstRnd_len k
    suffices h : ∀ j, j ≤ 2 * fs.length → ∀ v, v < n → (v = s → valL (dstTo q fs (dstRnd q fs n s k) j) v = 0) ∧ (v ≠ s → valL (dstTo q fs (dstRnd q fs n s k) j) v = -1 ∨ 1 ≤ valL (dstTo q fs (dstRnd q fs n s k) j) v) from h _ (Nat.le_refl _)
    intro j
    induction j with
    | zero => exact fun _ => ih
    | succ j ih2 =>
      intro hj v hv
      have i2 := ih2 (by omega)
      rw [dstTo_succ]
      split
      · exact i2 v hv
      · obtain ⟨hu, hv', _⟩ := arc_in he (j := j) (by omega)
        have hl1 := arc_len hl (j := j) (by omega)
        rw [relax_val (by rw [dstTo_len, hD]; exact hv')]
        split
        · rename_i hx
          have hc := canB_iff.1 hx.2
          have := i2 v hv
          rw [← hx.1] at hc
          refine ⟨fun e => ?_, fun _ => .inr (by omega)⟩
          have := this.1 e
          omega
        · exact i2 v hv
theorem distL_pos (he : endsB n fs) (hl : lensB fs) (hs : s < n) {v : Nat} (hv : v < n) : (v = s → valL (distL q fs n s) v = 0) ∧ (v ≠ s → valL (distL q fs n s) v = -1 ∨ 1 ≤ valL (distL q fs n s) v) := dstRnd_pos he hl hs n v hv
end
end Go.Proofs.YtgoegldffjfmdaaGreat
/- A drawn region whose last operation may break the condition on the worlds: the store into a cell that the region loads. Conditions: as each states. -/
namespace Go.Proofs.YtgoegldffjfmdaaGreat
open Go.RowKit
section
variable {P : Program} {ops : Array Oper} {Q : Exit → Act → World → Prop} {md : Region.Mode} {S : World → Prop} {x : Nat}
/-- As 'wpAnyH', but behind operation x nothing is asked. -/
def wpAnyX (P : Program) (md : Region.Mode) (ops : Array Oper) (Q : Exit → Act → World → Prop) (S : World → Prop) (x : Nat) : Nat → Array Bool → Act → World → Prop
  | 0, listed, a, w => Region.ready md ops listed = [] ∧ Q .normal a w
  | fuel + 1, listed, a, w =>
    (Region.ready md ops listed = [] → Q .normal a w) ∧
    ∀ i ∈ Region.ready md ops listed, wpOp P ops Q i (fun a' w' => (i ≠ x → S w') ∧ wpAnyX P md ops Q S x fuel (listed.setIfInBounds i true) a' w') a w
theorem wpAny_of_X : ∀ (fuel : Nat) (listed : Array Bool) (a : Act) (w : World), wpAnyX P md ops Q S x fuel listed a w → wpAny P md ops Q fuel listed a w
  | 0, _, _, _, h => h
  | fuel + 1, _, _, _, h => ⟨h.1, fun i hi => wpOp_mono (fun a' w' h' => wpAny_of_X fuel _ a' w' h'.2) (h.2 i hi)⟩
/-- Operation x waits for operation i. -/
def waitsB (md : Region.Mode) (ops : Array Oper) (x i : Nat) : Bool := match ops[x]? with
  | some o => o.after.any (fun e => Region.binds md e && e.on == i)
  | none => true
theorem waits_not {listed : Array Bool} {i : Nat} (h : waitsB md ops x i = true) (hi : listed.getD i true = false) : x ∉ Region.ready md ops listed := by
  intro hx
  obtain ⟨_, o, ho, hall⟩ := mem_ready.1 hx
  unfold waitsB at h
  rw [ho] at h
  simp only [Array.any_eq_true'] at h
  obtain ⟨e, he, h2⟩ := h
  rw [Bool.and_eq_true, beq_iff_eq] at h2
  have h1 := hall e he h2.1
  rw [h2.2] at h1
  rcases Nat.lt_or_ge i listed.size with h' | h'
  · simp [h'] at hi h1; rw [hi] at h1; cases h1
  · simp [Array.getElem?_eq_none h'] at h1
theorem wpAnyX_first {i : Nat} {oi : Oper} {v : Value} (hi : ops[i]? = some oi) (hsel : ∀ (j : Nat) (o : Oper) cs b, ops[j]? = some o → o.op ≠ .select cs b)
    (hQ : ∀ c a w, Q (.panic c) (a.put oi.dst v) w → Q (.panic c) a w) (hx : waitsB md ops x i = true) :
    ∀ (fuel : Nat) (listed : Array Bool) (a : Act) (w : World),
      (∀ j oj, ops[j]? = some oj → j ≠ i → listed.getD j true = false → (∀ e ∈ oj.after, Region.binds md e = true → e.on ≠ i) → oi.apart ops oj = true) →
      i ∈ Region.ready md ops listed → YieldsIf P ops S oi v a → S w →
      wpAnyX P md ops Q S x fuel (listed.setIfInBounds i true) (a.put oi.dst v) w → wpAnyX P md ops Q S x (fuel + 1) listed a w := by
  intro fuel
  induction fuel with
  | zero =>
    intro listed a w _ hr hy hS H
    refine ⟨fun h => (by rw [h] at hr; cases hr), fun j hj => ?_⟩
    by_cases hji : j = i
    · subst hji; exact hy.wpOp hi hS ⟨fun _ => hS, H⟩
    · have := ready_mono hj hji
      rw [H.1] at this
      cases this
  | succ fuel ih =>
    intro listed a w hfree hr hy hS H
    refine ⟨fun h => (by rw [h] at hr; cases hr), fun j hj => ?_⟩
    by_cases hji : j = i
    · subst hji; exact hy.wpOp hi hS ⟨fun _ => hS, H⟩
    · have hjx : j ≠ x := fun e => waits_not hx (mem_ready.1 hr).1 (e ▸ hj)
      have h1 := H.2 j (ready_mono hj hji)
      obtain ⟨hjun, oj, hoj, hall⟩ := mem_ready.1 hj
      have hnot : ∀ e ∈ oj.after, Region.binds md e = true → e.on ≠ i := fun e he hb heq => by
        have h1 := hall e he hb
        have h0 := (mem_ready.1 hr).1
        rw [heq] at h1
        rcases Nat.lt_or_ge i listed.size with h' | h'
        · simp [h'] at h0 h1; rw [h0] at h1; cases h1
        · simp [Array.getElem?_eq_none h'] at h1
      have h2 := wpOp_putIf hoj (hfree j oj hoj hji hjun hnot) (fun cs b => hsel i oi cs b hi) (fun cs b => hsel j oj cs b hoj) hQ hy h1
      have hfree' : ∀ k ok, ops[k]? = some ok → k ≠ i → (listed.setIfInBounds j true).getD k true = false →
          (∀ e ∈ ok.after, Region.binds md e = true → e.on ≠ i) → oi.apart ops ok = true := fun k ok hk hki hun hno => by
        refine hfree k ok hk hki ?_ hno
        by_cases hjk : j = k
        · subst hjk; exact hjun
        · rw [getD_set_ne true hjk] at hun; exact hun
      refine wpOp_mono (fun a' w' h3 => ⟨fun _ => h3.2.1 hjx, ih (listed.setIfInBounds j true) a' w' hfree' (ready_mono hr (Ne.symm hji)) h3.1 (h3.2.1 hjx) ?_⟩) h2
      rw [Array.setIfInBounds_comm _ _ hji]
      exact h3.2.2
theorem wpAnyX_take {i : Nat} {oi : Oper} {v : Value} {fuel : Nat} {listed : Array Bool} {a : Act} {w : World} (hi : ops[i]? = some oi)
    (hs : Region.noSelect ops = true) (hf : Region.free md ops listed i = true) (hr : (Region.ready md ops listed).contains i = true) (hx : waitsB md ops x i = true)
    (hQ : ∀ c a w, Q (.panic c) (a.put oi.dst v) w → Q (.panic c) a w) (hy : YieldsIf P ops S oi v a) (hS : S w)
    (h : wpAnyX P md ops Q S x fuel (listed.setIfInBounds i true) (a.put oi.dst v) w) : wpAnyX P md ops Q S x (fuel + 1) listed a w :=
  wpAnyX_first hi (Region.noSelect_spec hs) hQ hx fuel listed a w (Region.free_spec hi hf) (by simpa using hr) hy hS h
theorem wpAnyX_done {listed : Array Bool} {a : Act} {w : World} (hr : Region.ready md ops listed = []) (h : Q .normal a w) :
    ∀ fuel, wpAnyX P md ops Q S x fuel listed a w
  | 0 => ⟨hr, h⟩
  | _ + 1 => ⟨fun _ => h, by rw [hr]; simp⟩
def AllReadyX (P : Program) (md : Region.Mode) (ops : Array Oper) (Q : Exit → Act → World → Prop) (S : World → Prop) (x fuel : Nat) (listed : Array Bool) (a : Act) (w : World) (rs : List Nat) : Prop :=
  ∀ i ∈ rs, wpOp P ops Q i (fun a' w' => (i ≠ x → S w') ∧ wpAnyX P md ops Q S x fuel (listed.setIfInBounds i true) a' w') a w
theorem AllReadyX.nil {fuel : Nat} {listed : Array Bool} {a : Act} {w : World} : AllReadyX P md ops Q S x fuel listed a w [] := fun _ h => by cases h
theorem AllReadyX.cons {fuel : Nat} {listed : Array Bool} {a : Act} {w : World} {i : Nat} {o : Oper} {rs : List Nat} (ho : ops[i]? = some o)
    (h : ∀ K' : Act → World → Prop, Shut (∀ a w, S w → (S w → wpAnyX P md ops Q S x fuel (listed.setIfInBounds i true) a w) → K' a w) → if Region.wanted o (yielded ops a.tmps) = true then Oper.wp P o a w K' Q else K' (a.put o.dst undef) w)
    (hs : AllReadyX P md ops Q S x fuel listed a w rs) : AllReadyX P md ops Q S x fuel listed a w (i :: rs) := fun j hj => by
  rcases List.mem_cons.1 hj with rfl | hj
  · exact wpOp_step ho (fun K' hK => h K' (fun a w hS hW => hK a w ⟨fun _ => hS, hW hS⟩))
  · exact hs j hj
/-- The operation behind which nothing is asked. -/
theorem AllReadyX.last {fuel : Nat} {listed : Array Bool} {a : Act} {w : World} {o : Oper} (ho : ops[x]? = some o)
    (h : ∀ K' : Act → World → Prop, Shut (∀ a w, wpAnyX P md ops Q S x fuel (listed.setIfInBounds x true) a w → K' a w) → if Region.wanted o (yielded ops a.tmps) = true then Oper.wp P o a w K' Q else K' (a.put o.dst undef) w) : AllReadyX P md ops Q S x fuel listed a w [x] := fun j hj => by
  rcases List.mem_cons.1 hj with rfl | hj
  · exact wpOp_step ho (fun K' hK => h K' (fun a w hW => hK a w ⟨fun e => absurd rfl e, hW⟩))
  · cases hj
theorem wpAnyX_ready {rs : List Nat} {fuel : Nat} {listed : Array Bool} {a : Act} {w : World} (hr : Region.ready md ops listed = rs) (hne : rs ≠ [])
    (h : AllReadyX P md ops Q S x fuel listed a w rs) : wpAnyX P md ops Q S x (fuel + 1) listed a w := ⟨fun h0 => absurd (hr ▸ h0) hne, hr ▸ h⟩
theorem wp_region_heldX (x : Nat) (S : World → Prop) {id : Nat} {a : Act} {w : World} (hm : P.follows .mixedOrders = true) (hS : S w.drew)
    (h : S w.drew → wpAnyX P .any ops Q S x ops.size (Array.replicate ops.size false) a w.drew) : (Code.region id ops true).wp P Q a w :=
  wp_region_any hm (wpAny_of_X _ _ _ _ (h hS))
end
end Go.Proofs.YtgoegldffjfmdaaGreat
/- Things of a ledger put into another order, two made one; a route appended to a row of routes. Conditions: none. -/
namespace Go.Proofs.YtgoegldffjfmdaaGreat
open Go.RowKit
/-- The same things in another order, or some of them. -/
theorem Led.reidx {w0 w : World} {L L' : List Thing} (h : Led w0 w L) (f : Nat → Nat) (hf : ∀ i j, i ≠ j → f i ≠ f j) (hL : ∀ (i : Nat) t, L'[i]? = some t → L[f i]? = some t) : Led w0 w L' :=
  ⟨h.bl, fun i t hi => h.all (f i) t (hL i t hi), fun i j a b hij ha hb => h.apart (f i) (f j) a b (hf i j hij) (hL i a ha) (hL j b hb)⟩
/-- Two things as one. -/
def tBoth (t a : Thing) : Thing :=
  ⟨fun b => t.S b ∨ a.S b, fun w => t.is w ∧ a.is w, fun w w' h hs hb => ⟨t.st w w' h.1 hs (fun b h => hb b (.inl h)), a.st w w' h.2 hs (fun b h => hb b (.inr h))⟩,
    fun w h b e => by rcases e with e | e; exact t.lies w h.1 b e; exact a.lies w h.2 b e⟩
theorem Led.merge {w0 w : World} {L : List Thing} {a t : Thing} (h : Led w0 w (a :: L)) (j : Nat) (hj : L[j]? = some t) : Led w0 w (L.set j (tBoth t a)) := by
  have ha := h.all 0 a rfl
  have ht := h.all (j + 1) t (by simpa using hj)
  have key : ∀ (i : Nat) u, (L.set j (tBoth t a))[i]? = some u → (i = j ∧ u = tBoth t a) ∨ (i ≠ j ∧ L[i]? = some u) := by
    intro i u hu
    rw [List.getElem?_set] at hu
    by_cases hij : j = i
    · subst hij
      rw [if_pos rfl] at hu
      split at hu
      · injection hu with hu; exact .inl ⟨rfl, hu.symm⟩
      · cases hu
    · rw [if_neg hij] at hu; exact .inr ⟨fun e => hij e.symm, hu⟩
  have ap : ∀ (i : Nat) u, i ≠ j → L[i]? = some u → ∀ k, (t.S k ∨ a.S k) → ¬ u.S k := by
    intro i u hij hu k hk h2
    rcases hk with hk | hk
    · exact h.apart (j + 1) (i + 1) t u (by omega) (by simpa using hj) (by simpa using hu) k hk h2
    · exact h.apart 0 (i + 1) a u (by omega) rfl (by simpa using hu) k hk h2
  refine ⟨h.bl, fun i u hu => ?_, fun i k u v hik hu hv x h1 h2 => ?_⟩
  · rcases key i u hu with ⟨rfl, rfl⟩ | ⟨_, hu'⟩
    · exact ⟨⟨ht.1, ha.1⟩, fun b hb => by rcases hb with hb | hb; exact ht.2 b hb; exact ha.2 b hb⟩
    · exact h.all (i + 1) u (by simpa using hu')
  · rcases key i u hu with ⟨rfl, rfl⟩ | ⟨hi, hu'⟩
    · rcases key k v hv with ⟨rfl, rfl⟩ | ⟨hk, hv'⟩
      · exact hik rfl
      · exact ap k v hk hv' x h1 h2
    · rcases key k v hv with ⟨rfl, rfl⟩ | ⟨hk, hv'⟩
      · exact ap i u hi hu' x h2 h1
      · exact h.apart (i + 1) (k + 1) u v (by omega) (by simpa using hu') (by simpa using hv') x h1 h2
/-- One route more; its row lay apart. -/
theorem OwnsRS.push2 {w w3 : World} {base b : Nat} {v v' : Value} {ss : List (Int × Sl)} {rows : List (Int × List Int)} {r0 : Int × List Int} {s0 : Int × Sl} (h : OwnsRS w base v ss rows) (h0 : s0.1 = r0.1) (hb : base ≤ b) (hr : Owns elInt w b 3 (slV s0.2) r0.2)
    (hap : ∀ k, rsS v ss k → ¬ (slV s0.2).ownBlock = some k) (hown : Owns elRt w3 base 29 v' (ss ++ [s0])) (hg : Touch (fun b => v.ownBlock = some b) w w3) : OwnsRS w3 base v' (ss ++ [s0]) (rows ++ [r0]) := by
  refine ⟨hown, by simp [h.2.1], fun i s r h3 h4 => ?_, fun i j s t g hij h3 h4 h5 h6 => ?_⟩
  · rcases Nat.lt_or_ge i ss.length with hi | hi
    · rw [List.getElem?_append_left hi] at h3
      rw [List.getElem?_append_left (by rw [← h.2.1]; exact hi)] at h4
      obtain ⟨e0, ho⟩ := h.2.2.1 i s r h3 h4
      exact ⟨e0, ho.touch hg (fun g hg' => owns_ne h.1 ho (by decide) g hg')⟩
    · rw [List.getElem?_append_right hi] at h3
      rw [List.getElem?_append_right (by rw [← h.2.1]; exact hi)] at h4
      have e1 : i - ss.length = 0 := by have := (List.getElem?_eq_some_iff.1 h3).1; simp at this; omega
      have e2 : i - rows.length = 0 := by rw [← h.2.1]; exact e1
      rw [e1] at h3; rw [e2] at h4
      simp at h3 h4; subst h3; subst h4
      exact ⟨h0, (hr.touch hg (fun g hg' => owns_ne h.1 hr (by decide) g hg')).base hb⟩
  · rcases Nat.lt_or_ge j ss.length with hj | hj
    · rw [List.getElem?_append_left hj] at h4
      rw [List.getElem?_append_left (by omega)] at h3
      exact h.2.2.2 i j s t g hij h3 h4 h5 h6
    · rw [List.getElem?_append_right hj] at h4
      have e1 : j - ss.length = 0 := by have := (List.getElem?_eq_some_iff.1 h4).1; simp at this; omega
      rw [e1] at h4; simp at h4; subst h4
      rw [List.getElem?_append_left (by omega)] at h3
      exact hap g (.inr ⟨i, s, h3, h5⟩) h6
section
variable {w0 w : World} {L : List Thing} {ops : Array Oper} {o : Oper} {a : Act} {Q : Exit → Act → World → Prop} {K : Act → World → Prop} {F : Prop}
/-- append of one route whose row of fibers is the newest thing of the ledger. -/
theorem step_append_rs (hgd : o.guard = none) (s x : Operand) (ho : o.op = .call { callee := .builtin .append, args := #[s, x], argTypes := #[76, 76] }) {base b B c : Nat} {v : Value} {ss : List (Int × Sl)} {rows : List (Int × List Int)} {r0 : Int × List Int} {s0 : Int × Sl} {X : Option Addr}
    (hS : Led w0 w (tOwns elInt b 3 (slV s0.2) r0.2 :: L)) (j : Nat) (hj : L[j]? = some (tRS base v ss rows)) (h0 : s0.1 = r0.1) (hbb : base ≤ b) (hs : a.eval s = v) (hx : a.eval x = .slice X 1 c) (hX : Sees elRt w B X 1 [s0]) (h63 : ss.length + 1 ≤ 1099511627776) (hbase : base ≤ w.heap.size)
    (h : ∀ A' c' w', Led w0 w' (L.set j (tRS base (.slice A' (ss.length + 1) c') (ss ++ [s0]) (rows ++ [r0]))) → K (a.put o.dst (.slice A' (ss.length + 1) c')) w') : if Region.wanted o (yielded ops a.tmps) = true then Oper.wp Tryz.prog o a w K Q else F := by
  have hw : Region.wanted o (yielded ops a.tmps) = true := by simp [Region.wanted, hgd]
  rw [if_pos hw]
  obtain ⟨i0, hi, hz0, hz1, hz2⟩ := info_parts rt_info
  have hR : OwnsRS w base v ss rows := hS.get (j + 1) (by simpa using hj)
  have hF : Owns elInt w b 3 (slV s0.2) r0.2 := hS.get 0 rfl
  obtain ⟨A', c', w', hr, h2, h3, h4⟩ := run_append_all (P := Tryz.prog) (ty := o.type) (c := c) Tryz.underlying76 hi hz0 hz1 rfl hR.1 hX h63 (by rw [hz2]; decide) hbase
  unfold Oper.wp execOp
  simp only [ho, resolve, invoke, builtin, Sem.run_bind, Sem.run_pure, Result.andThen_ok, List.map_toArray, List.map_cons, List.map_nil, hs, hx, hr]
  have hT : Touch (fun b => v.ownBlock = some b) w w' := ⟨h3.os, h3.tape, h3.output, h3.size, fun k hk hn => h3.block k hk (fun e => hn e.symm)⟩
  have hap : ∀ k, rsS v ss k → ¬ (slV s0.2).ownBlock = some k := fun k h1 h5 => hS.apart (j + 1) 0 _ _ (by omega) (by simpa using hj) rfl k h1 h5
  have hnew := hR.push2 h0 hbb hF hap h2 hT
  have hm := hS.merge j hj
  have hjl : (L.set j (tBoth (tRS base v ss rows) (tOwns elInt b 3 (slV s0.2) r0.2)))[j]? = some (tBoth (tRS base v ss rows) (tOwns elInt b 3 (slV s0.2) r0.2)) := by
    rw [List.getElem?_set_self (List.getElem?_eq_some_iff.1 hj).1]
  have hfin := hm.regrow j hjl (t' := tRS base (.slice A' (ss.length + 1) c') (ss ++ [s0]) (rows ++ [r0])) (hT.mono fun b hb => .inl (.inl hb)) (fun k hk => by
    rcases hk with hk | ⟨i, t, ht, hk⟩
    · rcases h4 k hk with h5 | h5
      · exact .inl (.inl (.inl h5))
      · exact .inr (by omega)
    · rcases Nat.lt_or_ge i ss.length with hi | hi
      · rw [List.getElem?_append_left hi] at ht
        exact .inl (.inl (.inr ⟨i, t, ht, hk⟩))
      · rw [List.getElem?_append_right hi] at ht
        have e1 : i - ss.length = 0 := by have := (List.getElem?_eq_some_iff.1 ht).1; simp at this; omega
        rw [e1] at ht; simp at ht; subst ht
        exact .inl (.inr hk)) hnew
  rw [List.set_set] at hfin
  exact h A' c' w' hfin
end
end Go.Proofs.YtgoegldffjfmdaaGreat
/- Things of a ledger, picked and put into another order. Conditions: none. -/
namespace Go.Proofs.YtgoegldffjfmdaaGreat
open Go.RowKit
/-- A proposition kept apart (no assumption is taken for it). -/
structure Kept (P : Prop) : Prop where
  out : P
theorem share {P G : Prop} (k : Kept P → G) (h : P) : G := k ⟨h⟩
theorem Led.pick {w0 w : World} {L : List Thing} (h : Led w0 w L) (is : List Nat) (hn : is.Nodup) (he : is.all (fun i => decide (i < L.length)) = true) : Led w0 w (is.filterMap fun i => L[i]?) := by
  have hm : is.map (fun i => L[i]?) = (is.filterMap fun i => L[i]?).map some := by
    clear hn
    induction is with
    | nil => rfl
    | cons x is ih =>
      rw [List.all_cons, Bool.and_eq_true, decide_eq_true_eq] at he
      rw [List.map_cons, List.filterMap_cons, List.getElem?_eq_getElem he.1, ih he.2]
      rfl
  have key : ∀ (i : Nat) t, (is.filterMap fun i => L[i]?)[i]? = some t → ∃ k, is[i]? = some k ∧ L[k]? = some t := fun i t ht => by
    have h1 : (is.map (fun i => L[i]?))[i]? = some (some t) := by rw [hm, List.getElem?_map, ht]; rfl
    rw [List.getElem?_map] at h1
    cases hk : is[i]? with
    | none => rw [hk] at h1; cases h1
    | some k =>
      rw [hk] at h1
      injection h1 with h1
      exact ⟨k, rfl, h1⟩
  refine ⟨h.bl, fun i t ht => ?_, fun i j a b hij ha hb => ?_⟩
  · obtain ⟨k, _, hk⟩ := key i t ht
    exact h.all k t hk
  · obtain ⟨k, hk1, hk⟩ := key i a ha
    obtain ⟨l, hl1, hl⟩ := key j b hb
    exact h.apart k l a b (fun e => hij (by
      subst e
      exact (List.getElem?_inj (List.getElem?_eq_some_iff.1 hk1).1 hn).1 (hk1.trans hl1.symm))) hk hl
end Go.Proofs.YtgoegldffjfmdaaGreat
/- Stores into a row of numbers of the ledger. Conditions: none. -/
namespace Go.Proofs.YtgoegldffjfmdaaGreat
open Go.RowKit
section
variable {w0 w w' : World} {L : List Thing}
/-- A row of one element at least lies at a block's head. -/
theorem Led.row {α : Type} {E : El α} (h : Led w0 w L) (i : Nat) {base : Nat} {e : TypeId} {v : Value} {xs : List α} (hi : L[i]? = some (tOwns E base e v xs)) (hne : 0 < xs.length) : ∃ g c, v = .slice (some ⟨g, 0, none⟩) xs.length c := by
  rcases Owns.cases (h.own i hi) with ⟨_, h0⟩ | ⟨g, c, cur, hv, _⟩
  · rw [h0] at hne; simp at hne
  · exact ⟨g, c, hv⟩
theorem Led.row_ {α : Type} {E : El α} (h : Led w0 w L) (i : Nat) {base n : Nat} {e : TypeId} {v : Value} {xs : List α} (hi : L[i]? = some (tOwns E base e v xs)) (hn : xs.length = n) (hne : 0 < n) : ∃ g c, v = .slice (some ⟨g, 0, none⟩) n c := by
  subst hn; exact h.row i hi hne
theorem Led.int_at (h : Led w0 w L) (i : Nat) {base g c n : Nat} {xs : List Int} (hi : L[i]? = some (tOwns elInt base 3 (.slice (some ⟨g, 0, none⟩) n c) xs)) {j : Nat} (hj : j < xs.length) : w.cell? ⟨g, j, none⟩ = some (.int .i64 (valL xs j)) := by
  rcases Owns.cases (h.own i hi) with ⟨h0, _⟩ | ⟨g1, c1, cur, hv, _, hb, _, _, _, hf⟩
  · cases h0
  · injection hv with h1 h2 h3
    injection h1 with h1
    injection h1 with h1
    subst h1
    have := hf j _ hj (valL_get hj) 0 _ rfl
    rw [hb.cell]
    simpa [elInt] using this
theorem Led.int_free (h : Led w0 w L) (i : Nat) {base g c n : Nat} {xs : List Int} (hi : L[i]? = some (tOwns elInt base 3 (.slice (some ⟨g, 0, none⟩) n c) xs)) (j : Nat) : w.frozen? ⟨g, j, none⟩ = false := by
  rcases Owns.cases (h.own i hi) with ⟨h0, _⟩ | ⟨g1, c1, cur, hv, _, hb, _, _, _, hf⟩
  · cases h0
  · injection hv with h1 h2 h3
    injection h1 with h1
    injection h1 with h1
    subst h1
    exact hb.frozen j
/-- One number is stored. -/
theorem Led.int_set (h : Led w0 w L) (i : Nat) {base g c n : Nat} {xs : List Int} (hi : L[i]? = some (tOwns elInt base 3 (.slice (some ⟨g, 0, none⟩) n c) xs)) {j : Nat} (hj : j < xs.length) (x : Int) :
    Led w0 (w.setCell ⟨g, j, none⟩ (.int .i64 x)) (L.set i (tOwns elInt base 3 (.slice (some ⟨g, 0, none⟩) n c) (xs.set j x))) := by
  have ho := h.own i hi
  rcases Owns.cases ho with ⟨h0, _⟩ | ⟨g1, c1, cur, hv, hbase, hb, hnc, hcm, hs, hf⟩
  · cases h0
  · injection hv with h1 h2 h3
    injection h1 with h1
    injection h1 with h1
    subst h1
    subst h3
    refine h.touch i hi rfl (Touch.set (S := fun b => (Value.slice (some ⟨g, 0, none⟩) n c).ownBlock = some b) w (p := ⟨g, j, none⟩) rfl _) ?_
    show Owns elInt _ base 3 (.slice (some ⟨g, 0, none⟩) n c) (xs.set j x)
    rw [h2]
    refine Owns.of_blk (hb.set j _) hbase (by simp) hnc (by simp [hs]) hcm (fun k y hk hy i u hu => ?_)
    have hu' : [Value.int .i64 y][i]? = some u := hu
    match i, hu' with
    | 0, hu' =>
      simp at hu'; subst hu'
      have e : k * elInt.sz + 0 = k := by show k * 1 + 0 = k; omega
      rw [e]
      rw [List.getElem?_set] at hy
      by_cases hjk : j = k
      · subst hjk
        rw [if_pos rfl, if_pos hj] at hy
        injection hy with hy; subst hy
        have hlt : j < cur.size := by rw [hs]; show j < c * 1; omega
        rw [Array.getElem?_setIfInBounds_self_of_lt hlt]
      · rw [if_neg hjk] at hy
        rw [Array.getElem?_setIfInBounds_ne hjk]
        have := hf k y hk hy 0 _ rfl
        rw [e] at this
        exact this
    | i + 1, hu' => simp at hu'
end
theorem marks_succ (k : Int) (n : Nat) : marks k (n + 1) = marks k n ++ [k + (n : Int)] := by simp [marks, List.range_succ]
end Go.Proofs.YtgoegldffjfmdaaGreat
/- impl.components: the components without some fibers, walked. Conditions: the fibers' ends are nodes; 2 nodes at least. -/
namespace Go.Proofs.YtgoegldffjfmdaaGreat
open Go.RowKit
section
variable {n c m d : Nat} {A A' : Option Addr} {xs : List ByteArray} {fs : List Fib}
/-- Fiber j is gone. -/
def goneF (l : List Int) (j : Nat) : Bool := hasB l (j : Int)
theorem goodB_ends (h : goodB xs fs = true) : endsB xs.length fs := fun i hi => by
  have h1 := goodB_fibB h (List.getElem_mem hi)
  have e : fibD fs i = fs[i] := getD_of (List.getElem?_eq_getElem hi)
  rw [e]
  unfold fibB at h1; simp at h1; omega
end
end Go.Proofs.YtgoegldffjfmdaaGreat
/- Sets of fibers as numbers: the reference's l6Mask, walked. Conditions: the numbers are below 20. -/
namespace Go.Proofs.YtgoegldffjfmdaaGreat
open Go.RowKit
/-- The set as a number. -/
def maskTo (l : List Int) : Nat → Nat
  | 0 => 0
  | k + 1 => maskTo l k ||| 2 ^ (l.getD k 0).toNat
def maskN (l : List Int) : Nat := maskTo l l.length
theorem maskTo_bit {l : List Int} (h : ∀ x ∈ l, 0 ≤ x) (i : Nat) : ∀ k, k ≤ l.length → (maskTo l k).testBit i = decide ((i : Int) ∈ l.take k) := by
  intro k
  induction k with
  | zero => intro _; simp [maskTo]
  | succ k ih =>
    intro hk
    have hkl : k < l.length := by omega
    have e : l.take (k + 1) = l.take k ++ [l[k]] := by rw [List.take_add_one, List.getElem?_eq_getElem hkl]; rfl
    have hx := h _ (List.getElem_mem hkl)
    show (maskTo l k ||| 2 ^ (l.getD k 0).toNat).testBit i = _
    rw [Nat.testBit_or, ih (by omega), Nat.testBit_two_pow, e, getD_of (List.getElem?_eq_getElem hkl)]
    rw [Bool.eq_iff_iff, Bool.or_eq_true, decide_eq_true_eq, decide_eq_true_eq, decide_eq_true_eq, List.mem_append, List.mem_singleton]
    constructor
    · intro h1
      rcases h1 with h1 | h1
      · exact Or.inl h1
      · exact Or.inr (by omega)
    · intro h1
      rcases h1 with h1 | h1
      · exact Or.inl h1
      · exact Or.inr (by omega)
theorem maskN_bit {l : List Int} (h : ∀ x ∈ l, 0 ≤ x) (i : Nat) : (maskN l).testBit i = hasB l (i : Int) := by
  unfold maskN
  rw [maskTo_bit h i _ (Nat.le_refl _), List.take_length, Bool.eq_iff_iff, hasB_iff]
  simp
theorem maskTo_lt {l : List Int} (h : ∀ x ∈ l, 0 ≤ x ∧ x < 20) : ∀ k, k ≤ l.length → maskTo l k < 2 ^ 20 := by
  intro k
  induction k with
  | zero => intro _; simp [maskTo]
  | succ k ih =>
    intro hk
    have hkl : k < l.length := by omega
    have hx := h _ (List.getElem_mem hkl)
    refine Nat.or_lt_two_pow (ih (by omega)) ?_
    rw [getD_of (List.getElem?_eq_getElem hkl)]
    exact Nat.pow_lt_pow_right (by decide) (by omega)
theorem ofInt_small {a : Nat} (h : a < 2 ^ 62) : (BitVec.ofInt 64 (a : Int)).toNat = a := by
  rw [BitVec.ofInt_natCast, BitVec.toNat_ofNat]; exact Nat.mod_eq_of_lt (by omega)
theorem wrap_small {a : Nat} (h : a < 2 ^ 62) : IntKind.i64.wrap (a : Int) = (a : Int) := IntWalk.i64_in _ (by omega)
/-- One bit more. -/
theorem bits_or_n {M N : Nat} (hM : M < 2 ^ 20) (hN : N < 2 ^ 20) : Go.bits .or .i64 (M : Int) (N : Int) = ((M ||| N : Nat) : Int) := by
  have h3 : M ||| N < 2 ^ 20 := Nat.or_lt_two_pow hM hN
  show IntKind.i64.wrap ((BitVec.ofInt 64 (M : Int) ||| BitVec.ofInt 64 (N : Int)).toNat : Int) = _
  rw [BitVec.toNat_or, ofInt_small (by omega), ofInt_small (by omega)]
  exact wrap_small (by omega)
/-- Is bit i set? -/
theorem bits_and_one {M : Nat} (hM : M < 2 ^ 20) (i : Nat) : Go.bits .and .i64 ((M / 2 ^ i : Nat) : Int) 1 = if M.testBit i then 1 else 0 := by
  have h2 : M / 2 ^ i ≤ M := Nat.div_le_self _ _
  have h3 : (M / 2 ^ i) &&& 1 = (M.testBit i).toNat := by
    rw [Nat.testBit_eq_decide_div_mod_eq, Nat.and_one_is_mod]
    have : M / 2 ^ i % 2 = 0 ∨ M / 2 ^ i % 2 = 1 := by omega
    rcases this with h | h <;> simp [h]
  show IntKind.i64.wrap ((BitVec.ofInt 64 ((M / 2 ^ i : Nat) : Int) &&& BitVec.ofInt 64 ((1 : Nat) : Int)).toNat : Int) = _
  rw [BitVec.toNat_and, ofInt_small (by omega), ofInt_small (by omega), h3]
  cases M.testBit i <;> rfl
end Go.Proofs.YtgoegldffjfmdaaGreat
/- spec.l6Labels: the reference's components, walked. Conditions: the fibers' ends are nodes; 2 nodes at least; at most 20 fibers. -/
namespace Go.Proofs.YtgoegldffjfmdaaGreat
open Go.RowKit
set_option maxRecDepth 100000 in
theorem least_any (a b : Int) (w : World) : Calls Tryz.prog 99 #[.int .i64 a, .int .i64 b] w fun e w' => e = .returned (.int .i64 (min a b)) ∧ w = w' := by
  by_cases h : a < b
  · have H : Hid (min a b = a) := by unfold Hid; omega
    go_enter Tryz.func99, Tryz.ntmps99
    go_wp2
    go_ret
    exact ⟨by rw [H.out]; rfl, rfl⟩
  · have H : Hid (min a b = b) := by unfold Hid; omega
    go_enter Tryz.func99, Tryz.ntmps99
    go_wp2
    go_ret
    exact ⟨by rw [H.out]; rfl, rfl⟩
section
variable {n c m d : Nat} {A A' : Option Addr} {xs : List ByteArray} {fs : List Fib}
end
end Go.Proofs.YtgoegldffjfmdaaGreat
/- ComponentsOf of both sides, walked. Conditions: none. -/
namespace Go.Proofs.YtgoegldffjfmdaaGreat
open Go.RowKit
section
variable {n c m d c' : Nat} {A A' V : Option Addr} {xs : List ByteArray} {fs : List Fib} {l : List Int}
/-- The list is a set of fibers of a valid network. -/
def coB (xs : List ByteArray) (fs : List Fib) (l : List Int) : Bool := goodB xs fs && risB 0 ((fs.length : Int) - 1) l
def coL (xs : List ByteArray) (fs : List Fib) (l : List Int) : List Int := if coB xs fs l then compL (goneF l) fs xs.length else []
theorem coB_mem (h : coB xs fs l = true) : ∀ x ∈ l, 0 ≤ x ∧ x < fs.length := by
  intro x hx
  unfold coB risB at h
  rw [Bool.and_eq_true] at h
  obtain ⟨k, hk, e⟩ := List.mem_iff_getElem.1 hx
  have h1 := allB_iff.1 h.2 k hk
  unfold riseAt at h1
  rw [Bool.and_eq_true, getD_of (by rw [List.getElem?_eq_getElem hk, e])] at h1
  exact inB_idx h1.1
theorem coL_len : (coL xs fs l).length ≤ 8 := by
  unfold coL
  cases g : coB xs fs l
  · simp
  · unfold coB at g
    rw [Bool.and_eq_true] at g
    have := (goodB_bd g.1).2.1
    simp [compL_len]; omega
theorem passTo_congr {q q' : Nat → Bool} {X : List Int} : ∀ j, (∀ i, i < j → q i = q' i) → passTo q fs X j = passTo q' fs X j := by
  intro j
  induction j with
  | zero => intro _; rfl
  | succ j ih => intro h; rw [passTo_succ, passTo_succ, h j (by omega), ih (fun i hi => h i (by omega))]
theorem compL_congr {q q' : Nat → Bool} (h : ∀ i, i < fs.length → q i = q' i) : compL q fs n = compL q' fs n := by
  suffices hh : ∀ k, rndL q fs n k = rndL q' fs n k from hh n
  intro k
  induction k with
  | zero => rfl
  | succ k ih => rw [rndL_succ, rndL_succ, ih]; exact passTo_congr _ h
/-- The labels by a set's number. -/
theorem compL_mask (h : coB xs fs l = true) : compL (fun i => (maskN l).testBit i) fs n = compL (goneF l) fs n :=
  compL_congr fun i _ => maskN_bit (fun x hx => (coB_mem h x hx).1) i
theorem mask_small (h : coB xs fs l = true) : maskN l < 2 ^ 20 ∧ ∀ x ∈ l, 0 ≤ x ∧ x < 20 := by
  have hg : goodB xs fs = true := by unfold coB at h; rw [Bool.and_eq_true] at h; exact h.1
  have h14 := (goodB_bd hg).2.2
  have hx : ∀ x ∈ l, 0 ≤ x ∧ x < 20 := fun x hx => by have := coB_mem h x hx; omega
  exact ⟨maskTo_lt hx _ (Nat.le_refl _), hx⟩
end
end Go.Proofs.YtgoegldffjfmdaaGreat
/- The risk group of a fiber: the reference's, walked. Conditions: none. -/
namespace Go.Proofs.YtgoegldffjfmdaaGreat
open Go.RowKit
variable {n c m d : Nat} {A A' : Option Addr} {xs : List ByteArray} {fs : List Fib}
def riskF (fs : List Fib) (j : Nat) : Int := (fs.getD j ⟨0, 0, 0, 0⟩).risk
/-- The fibers that fail together with fiber i. -/
def groupL (fs : List Fib) (i : Nat) : List Int := if riskF fs i == 0 then [(i : Int)] else idsTo (fun j => riskF fs j == riskF fs i) fs.length
theorem riskF_of {j : Nat} {f : Fib} (h : fs[j]? = some f) : riskF fs j = f.risk := by unfold riskF; rw [getD_of h]
theorem filled_int1 (s : Int) : Filled elInt #[.int .i64 s] [s] 1 := by
  intro j x hj hx i u hu
  obtain rfl : j = 0 := by omega
  simp at hx; subst hx
  match i, hu with
  | 0, hu => simp [elInt] at hu; subst hu; rfl
end Go.Proofs.YtgoegldffjfmdaaGreat
/- impl.groups: the risk groups of a network, walked. Conditions: none. -/
namespace Go.Proofs.YtgoegldffjfmdaaGreat
open Go.RowKit
variable {n c m d : Nat} {A A' : Option Addr} {xs : List ByteArray} {fs : List Fib}
/-- The rows of the risks 1 .. t that some fiber bears. -/
def rkRow (fs : List Fib) (t : Nat) : List Int := idsTo (fun j => riskF fs j == ((t : Int) + 1)) fs.length
def rkTo (fs : List Fib) (t : Nat) : List (List Int) := ((List.range t).map (rkRow fs)).filter fun l => !l.isEmpty
theorem rkTo_zero (fs : List Fib) : rkTo fs 0 = [] := rfl
theorem rkTo_no {t : Nat} (h : rkRow fs t = []) : rkTo fs (t + 1) = rkTo fs t := by simp [rkTo, List.range_succ, List.filter_append, h]
theorem rkTo_yes {t : Nat} (h : rkRow fs t ≠ []) : rkTo fs (t + 1) = rkTo fs t ++ [rkRow fs t] := by simp [rkTo, List.range_succ, List.filter_append, h]
theorem rkTo_len (fs : List Fib) (t : Nat) : (rkTo fs t).length ≤ t := by
  unfold rkTo
  exact Nat.le_trans (List.length_filter_le _ _) (by simp)
/-- The rows of the fibers without a risk. -/
def zrTo (fs : List Fib) (k : Nat) : List (List Int) := (idsTo (fun j => riskF fs j == 0) k).map fun x => [x]
theorem zrTo_zero (fs : List Fib) : zrTo fs 0 = [] := rfl
theorem zrTo_no {k : Nat} (h : (riskF fs k == 0) = false) : zrTo fs (k + 1) = zrTo fs k := by unfold zrTo; rw [idsTo_no h]
theorem zrTo_yes {k : Nat} (h : (riskF fs k == 0) = true) : zrTo fs (k + 1) = zrTo fs k ++ [[(k : Int)]] := by unfold zrTo; rw [idsTo_yes h]; simp
theorem zrTo_len (fs : List Fib) (k : Nat) : (zrTo fs k).length ≤ k := by unfold zrTo; rw [List.length_map]; exact idsTo_len _ _
/-- All risk groups. -/
def groupsL (fs : List Fib) : List (List Int) := rkTo fs 9 ++ zrTo fs fs.length
end Go.Proofs.YtgoegldffjfmdaaGreat
/- impl.fibersAt walked. Conditions: none. -/
namespace Go.Proofs.YtgoegldffjfmdaaGreat
open Go.RowKit
variable {n c m d : Nat} {A A' : Option Addr} {xs : List ByteArray} {fs : List Fib}
def touchesF (fs : List Fib) (v : Int) (j : Nat) : Bool := (fs.getD j ⟨0, 0, 0, 0⟩).a == v || (fs.getD j ⟨0, 0, 0, 0⟩).b == v
end Go.Proofs.YtgoegldffjfmdaaGreat
/- slices.IndexFunc and ContainsFunc over numbers, walked, at a closure that answers p. Conditions: none. -/
namespace Go.Proofs.YtgoegldffjfmdaaGreat
open Go.RowKit
/-- None of the first k passes p. -/
def noneP {α : Type} (p : α → Bool) (l : List α) (k : Nat) : Prop := ∀ j x, j < k → l[j]? = some x → p x = false
theorem noneP_zero {α : Type} (p : α → Bool) (l : List α) : noneP p l 0 := fun j _ hj => by omega
theorem noneP_succ {α : Type} {p : α → Bool} {l : List α} {k : Nat} {x : α} (h : noneP p l k) (hx : l[k]? = some x) (hp : p x = false) : noneP p l (k + 1) := by
  intro j y hj hy
  rcases Nat.lt_succ_iff_lt_or_eq.1 hj with hlt | rfl
  · exact h j y hlt hy
  · rw [hx] at hy; injection hy with hy; subst hy; exact hp
/-- The index of the first element that passes p, or -1. -/
def findPF {α : Type} (p : α → Bool) : List α → Nat → Int
  | [], _ => -1
  | y :: l, k => if p y then (k : Int) else findPF p l (k + 1)
def findP {α : Type} (p : α → Bool) (l : List α) : Int := findPF p l 0
theorem findPF_at {α : Type} {p : α → Bool} : ∀ {l : List α} {k0 k : Nat} {x : α}, l[k]? = some x → p x = true → noneP p l k → findPF p l k0 = ((k0 + k : Nat) : Int) := by
  intro l
  induction l with
  | nil => intro k0 k x h; simp at h
  | cons y l ih =>
    intro k0 k x h hp hn
    unfold findPF
    cases k with
    | zero => simp at h; rw [h, if_pos hp]; rfl
    | succ k =>
      rw [if_neg (by rw [hn 0 y (Nat.succ_pos _) (by simp)]; decide)]
      rw [ih (k := k) (by simpa using h) hp (fun j z hj hz => hn (j + 1) z (by omega) (by simpa using hz))]
      congr 1; omega
theorem findP_at {α : Type} {p : α → Bool} {l : List α} {k : Nat} {x : α} (h : noneP p l k) (hx : l[k]? = some x) (hp : p x = true) : findP p l = k := by
  have := findPF_at (k0 := 0) hx hp h
  simpa [findP] using this
theorem findPF_neg {α : Type} {p : α → Bool} : ∀ {l : List α} {k0 : Nat}, (0 ≤ findPF p l k0 ↔ l.any p = true) ∧ -1 ≤ findPF p l k0 := by
  intro l
  induction l with
  | nil => intro k0; simp [findPF]
  | cons y l ih =>
    intro k0
    unfold findPF
    by_cases h : p y = true
    · rw [if_pos h]; simp [h]
    · rw [if_neg h]; simp only [List.any_cons]; rw [show p y = false by simpa using h]; simpa using ih
theorem findP_ge {α : Type} {p : α → Bool} {l : List α} : 0 ≤ findP p l ↔ l.any p = true := findPF_neg.1
theorem findP_none {α : Type} {p : α → Bool} {l : List α} {n : Nat} (hl : l.length = n) (h : noneP p l n) : findP p l = -1 := by
  have h1 := findPF_neg (p := p) (l := l) (k0 := 0)
  have h2 : ¬ (l.any p = true) := by
    intro ha
    obtain ⟨x, hx, hp⟩ := List.any_eq_true.1 ha
    obtain ⟨i, hi, e⟩ := List.mem_iff_getElem.1 hx
    have := h i x (by omega) (by rw [List.getElem?_eq_getElem hi, e])
    rw [this] at hp; cases hp
  unfold findP
  have := h1.2
  have h3 : ¬ (0 ≤ findPF p l 0) := fun h => h2 (h1.1.1 h)
  omega
section
variable {B n c : Nat} {A : Option Addr} {xs : List Int} {F : FuncId} {cap : Array Value}
set_option maxRecDepth 100000 in
theorem indexFuncI_any (p : Int → Bool) (w : World) (hA : Sees elInt w B A n xs) (hn : n ≤ 1048576)
    (hcall : ∀ args wr, (callFunc F args).run Tryz.prog wr = .ok (.enter F args) wr)
    (hF : ∀ x w', x ∈ xs → Cls w w' → Calls Tryz.prog F (#[.int .i64 x] ++ cap) w' fun e w2 => e = .returned (.bool (p x)) ∧ Below w'.heap.size w' w2) :
    Calls Tryz.prog 94 #[.slice A n c, .func (.func F) #[] cap] w fun e w' => e = .returned (.int .i64 (findP p xs)) ∧ Below w.heap.size w w' := by
  have HF := hid hF
  clear hF
  go_enter Tryz.func94, Tryz.ntmps94
  go_wp2
  go_loopw [8] (fun i wr => ∃ k : Nat, k ≤ n ∧ i = .int .i64 k ∧ Hid (noneP p xs k) ∧ Below w.heap.size w wr) (fun i _ => n - (intOf i).toNat)
  case atStart => exact ⟨0, Nat.zero_le _, rfl, noneP_zero _ _, Below.refl _ _⟩
  case round =>
    obtain ⟨k, hk, rfl, hno, hb⟩ := hrel
    by_cases hlt : k < n
    · obtain ⟨b, o, rfl, _, hc⟩ := hA.at_ hlt
      obtain ⟨x, hxk⟩ : ∃ x, xs[k]? = some x := ⟨xs[k]'(by rw [hA.len]; exact hlt), List.getElem?_eq_getElem _⟩
      have hcx := bl_cell hb (hc k x hxk 0 _ rfl)
      simp only [elInt, Nat.mul_one, Nat.add_zero] at hcx
      have HC := hid (HF.out x wr (List.mem_of_getElem? hxk) hb)
      clear hc
      go_wp2_with fail
      refine HC.out.mono ?_
      rintro e w' ⟨rfl, hb2⟩
      have hbb : Below w.heap.size w w' := bl_then hb hb2
      clear HC hcx hb hb2
      by_cases hp : p x = true
      · have HR := hid (findP_at hno.out hxk hp)
        clear hno hxk
        rw [hp]
        go_wp2_with fail
        go_ret
        exact ⟨by rw [HR.out]; rfl, hbb⟩
      · have hp' : p x = false := by simpa using hp
        have HR := hid (noneP_succ hno.out hxk hp')
        clear hno hxk
        rw [hp']
        go_wp2_with fail
        exact ⟨⟨k + 1, by omega, by go_num, HR, hbb⟩, by simp [intOf]; omega⟩
    · have HN := hid (findP_none (p := p) hA.len (by obtain rfl : k = n := (by omega); exact hno.out))
      clear hno
      go_wp2
      go_ret
      exact ⟨by rw [HN.out]; rfl, hb⟩
set_option maxRecDepth 100000 in
theorem containsFuncI_any (p : Int → Bool) (w : World) (hA : Sees elInt w B A n xs) (hn : n ≤ 1048576)
    (hcall : ∀ args wr, (callFunc F args).run Tryz.prog wr = .ok (.enter F args) wr)
    (hF : ∀ x w', x ∈ xs → Cls w w' → Calls Tryz.prog F (#[.int .i64 x] ++ cap) w' fun e w2 => e = .returned (.bool (p x)) ∧ Below w'.heap.size w' w2) :
    Calls Tryz.prog 59 #[.slice A n c, .func (.func F) #[] cap] w fun e w' => e = .returned (.bool (xs.any p)) ∧ Below w.heap.size w w' := by
  have HC := hid (indexFuncI_any (c := c) p w hA hn hcall hF)
  have H : Hid (decide (0 ≤ findP p xs) = xs.any p) := by
    unfold Hid
    cases g : xs.any p
    · exact decide_eq_false (fun h => by have := findP_ge.1 h; rw [g] at this; cases this)
    · exact decide_eq_true (findP_ge.2 g)
  clear hcall hF hA
  go_enter Tryz.func59, Tryz.ntmps59
  go_wp2_with fail
  refine HC.out.mono ?_
  rintro e w' ⟨rfl, hb⟩
  go_wp2_with fail
  go_ret
  exact ⟨by rw [← H.out]; rfl, hb⟩
end
end Go.Proofs.YtgoegldffjfmdaaGreat
/- impl.isNode walked, at any world. Conditions: none. -/
namespace Go.Proofs.YtgoegldffjfmdaaGreat
open Go.RowKit
variable {n c m d : Nat} {A A' : Option Addr} {xs : List ByteArray} {fs : List Fib}
set_option maxRecDepth 100000 in
theorem isNodeC (x : Int) (w : World) (g : Nat) (a a' : Value) (hn : a = .slice A n c) (hg : Blk w g 34 #[a, a']) (hle : n ≤ 1048576) :
    Calls Tryz.prog 60 #[.int .i64 x, .pointer (some ⟨g, 0, none⟩)] w fun e w' => e = .returned (.bool (!inB 0 ((n : Int) - 1) x)) ∧ Below w.heap.size w w' := by
  subst hn
  have q0 := hg.cell 0
  simp at q0
  go_enter Tryz.func60, Tryz.ntmps60
  go_wp2_with fail
  refine (within_any _ _ _ _).mono ?_
  rintro e w2 ⟨rfl, rfl⟩
  go_wp2_with fail
  go_ret
  exact ⟨rfl, Below.refl _ _⟩
/-- Every number of the list is a node's. -/
def nodesB (n : Nat) (vs : List Int) : Bool := !(vs.any fun x => !inB 0 ((n : Int) - 1) x)
set_option maxRecDepth 100000 in
theorem isNode_any {B k c' : Nat} {V : Option Addr} {vs : List Int} (w : World) (h : NetIs w A n c A' m d xs fs) (hv : Sees elInt w B V k vs) (hk : k ≤ 1048576) :
    Calls Tryz.prog 30 #[.agg #[.slice A n c, .slice A' m d], .slice V k c'] w fun e w' => e = .returned (.bool (goodB xs fs && nodesB n vs)) ∧ Below w.heap.size w w' := by
  have hb0 := bl_alloc (Below.refl w.heap.size w) (.cells #[.slice A n c, .slice A' m d] 34)
  have hx0 : Blk (w.alloc (.cells #[.slice A n c, .slice A' m d] 34)) w.heap.size 34 #[.slice A n c, .slice A' m d] := Blk.new _ _ _
  have h0 := h.grow hb0
  have hle := h.nle
  have hv0 := hv.grow hb0
  cases g : goodB xs fs
  · clear hv0
    go_enter Tryz.func30, Tryz.ntmps30
    go_wp2_with fail
    refine (validN _ h0).mono ?_
    rintro e w2 ⟨rfl, hb2⟩
    rw [g]
    go_wp2_with fail
    go_ret
    exact ⟨rfl, bl_then hb0 hb2⟩
  · go_enter Tryz.func30, Tryz.ntmps30
    go_wp2_with fail
    refine (validN _ h0).mono ?_
    rintro e w2 ⟨rfl, hb2⟩
    rw [g]
    have hx2 := hx0.below hb2 hx0.lt
    have hv2 := hv0.grow hb2
    clear hx0 hv0 hv
    go_wp2_with fail
    refine (containsFuncI_any (cap := #[.pointer (some ⟨w.heap.size, 0, none⟩)]) (fun x => !inB 0 ((n : Int) - 1) x) _ hv2 hk (fun _ _ => by rfl) (fun x w' _ hw' => isNodeC x w' w.heap.size _ _ rfl (hx2.below hw' hx2.lt) hle)).mono ?_
    rintro e w3 ⟨rfl, hb3⟩
    go_wp2_with fail
    go_ret
    exact ⟨rfl, bl_then (bl_then hb0 hb2) hb3⟩
end Go.Proofs.YtgoegldffjfmdaaGreat
/- impl.FibersAt and spec.FibersAt walked. Conditions: none. -/
namespace Go.Proofs.YtgoegldffjfmdaaGreat
open Go.RowKit
variable {n c m d : Nat} {A A' : Option Addr} {xs : List ByteArray} {fs : List Fib}
/-- What the reference asks of fiber j. -/
def endsF (fs : List Fib) (v : Int) (j : Nat) : Bool := decide (0 ≤ otherF (fs.getD j ⟨0, 0, 0, 0⟩) v)
theorem ends_eq {v : Int} (hg : goodB xs fs = true) {j : Nat} (hj : j < fs.length) : endsF fs v j = touchesF fs v j := by
  obtain ⟨f, hf⟩ := get_of (k := j) rfl hj
  have hb := goodB_fibB hg (List.mem_of_getElem? hf)
  unfold endsF touchesF
  rw [getD_of hf]
  unfold fibB at hb
  simp at hb
  unfold otherF
  by_cases h1 : v = f.a
  · rw [if_pos h1]; simp [h1]; omega
  · rw [if_neg h1]
    by_cases h2 : v = f.b
    · rw [if_pos h2]; simp [h2]; omega
    · rw [if_neg h2]
      have e1 : (f.a == v) = false := by simp; omega
      have e2 : (f.b == v) = false := by simp; omega
      rw [e1, e2]; rfl
def faB (xs : List ByteArray) (fs : List Fib) (v : Int) : Bool := goodB xs fs && inB 0 ((xs.length : Int) - 1) v
def faI (xs : List ByteArray) (fs : List Fib) (v : Int) : List Int := if faB xs fs v then idsTo (touchesF fs v) fs.length else []
theorem faI_ends {v : Int} (hg : goodB xs fs = true) (h : faB xs fs v = true) : faI xs fs v = idsTo (endsF fs v) fs.length := by
  unfold faI; rw [if_pos h]; exact idsTo_congr (fun j hj => (ends_eq hg hj).symm)
theorem faI_len (v : Int) : (faI xs fs v).length ≤ fs.length := by unfold faI; split; exact idsTo_len _ _; exact Nat.zero_le _
theorem nodesB_one (x : Int) : nodesB n [x] = inB 0 ((n : Int) - 1) x := by simp [nodesB]
theorem sees_one (w : World) (x : Int) (t : TypeId) : Sees elInt (w.alloc (.cells #[.int .i64 x] t)) (w.heap.size + 1) (some ⟨w.heap.size, 0, none⟩) 1 [x] := by
  refine ⟨rfl, .inr ⟨_, _, rfl, Nat.lt_succ_self _, fun k y hy j u hu => ?_⟩⟩
  match k, hy with
  | 0, hy =>
    simp at hy; subst hy
    match j, hu with
    | 0, hu => simp [elInt] at hu; subst hu; simp [elInt]
end Go.Proofs.YtgoegldffjfmdaaGreat
/- Bridges, cut nodes, critical groups, in plain Lean. Conditions: none. -/
namespace Go.Proofs.YtgoegldffjfmdaaGreat
open Go.RowKit
theorem Owns.splitg {α : Type} {E : El α} {w : World} {base n : Nat} {e : TypeId} {v : Value} {xs : List α} (h : Owns E w base e v xs) (hl : xs.length = n) (hn : 0 < n) : ∃ g c, v = .slice (some ⟨g, 0, none⟩) n c := by
  subst hl
  rcases Owns.cases h with ⟨_, h0⟩ | ⟨g, c, cur, hv, _⟩
  · rw [h0] at hn; simp at hn
  · exact ⟨g, c, hv⟩
section
variable {n : Nat} {xs : List ByteArray} {fs : List Fib} {l : List Int} {X Y : List Int} {s : Int}
/-- Fiber i is a bridge. -/
def brF (fs : List Fib) (n i : Nat) : Bool := !(valL (compL (goneF [(i : Int)]) fs n) (fibD fs i).a.toNat == valL (compL (goneF [(i : Int)]) fs n) (fibD fs i).b.toNat)
def brL (xs : List ByteArray) (fs : List Fib) : List Int := if goodB xs fs then idsTo (brF fs xs.length) fs.length else []
theorem brL_len : (brL xs fs).length ≤ 14 := by
  unfold brL
  cases g : goodB xs fs
  · simp
  · have h := goodB_bd g
    have h2 := idsTo_len (brF fs xs.length) fs.length
    simp; omega
theorem bit_one (i : Nat) : compL (fun j => (2 ^ i).testBit j) fs n = compL (goneF [(i : Int)]) fs n := compL_congr fun j _ => by
  rw [Nat.testBit_two_pow]
  unfold goneF
  rw [Bool.eq_iff_iff, hasB_iff, decide_eq_true_eq, List.mem_singleton]
  omega
/-- Two nodes that are told apart by Y and not by X, none of them s. -/
def sepP (X Y : List Int) (s : Int) (a b : Nat) : Bool := (!((a : Int) == s) && !((b : Int) == s)) && ((valL X a == valL X b) && !(valL Y a == valL Y b))
theorem sepP_symm {a b : Nat} : sepP X Y s a b = sepP X Y s b a := by
  unfold sepP
  rw [Bool.and_comm (!((a : Int) == s)), show (valL X a == valL X b) = (valL X b == valL X a) from Bool.beq_comm, show (valL Y a == valL Y b) = (valL Y b == valL Y a) from Bool.beq_comm]
def sepB (n : Nat) (X Y : List Int) (s : Int) : Bool := !(allB (fun a => allB (fun b => !sepP X Y s a b) a) n)
def splB (n : Nat) (X Y : List Int) (s : Int) : Bool := !(allB (fun a => allB (fun i => !sepP X Y s a (a + 1 + i)) (n - (a + 1))) n)
theorem splB_eq : splB n X Y s = sepB n X Y s := by
  unfold splB sepB
  congr 1
  rw [Bool.eq_iff_iff, allB_iff, allB_iff]
  constructor
  · intro h a ha
    rw [allB_iff]
    intro b hb
    have h1 : (!sepP X Y s b (b + 1 + (a - (b + 1)))) = true := allB_iff.1 (h b (by omega)) (a - (b + 1)) (by omega)
    rw [show b + 1 + (a - (b + 1)) = a by omega] at h1
    show (!sepP X Y s a b) = true
    rw [sepP_symm]; exact h1
  · intro h a ha
    rw [allB_iff]
    intro i hi
    have h1 : (!sepP X Y s (a + 1 + i) a) = true := allB_iff.1 (h (a + 1 + i) (by omega)) a (by omega)
    show (!sepP X Y s a (a + 1 + i)) = true
    rw [sepP_symm]; exact h1
theorem sepB_yes {a b : Nat} (ha : a < n) (hb : b < a) (h : sepP X Y s a b = true) : sepB n X Y s = true := by
  have h1 : allB (fun b => !sepP X Y s a b) a = false := allB_no hb (by show (!sepP X Y s a b) = false; rw [h]; rfl)
  unfold sepB
  rw [allB_no (p := fun a => allB (fun b => !sepP X Y s a b) a) ha h1]; rfl
theorem splB_yes {a b : Nat} (hb : b < n) (ha : a < b) (h : sepP X Y s a b = true) : splB n X Y s = true := by
  rw [splB_eq]; exact sepB_yes hb ha (by rw [sepP_symm]; exact h)
/-- A node whose loss parts others. -/
def cnF (fs : List Fib) (n v : Nat) : Bool := sepB n (compL (goneF []) fs n) (compL (goneF (idsTo (touchesF fs v) fs.length)) fs n) v
def cnL (xs : List ByteArray) (fs : List Fib) : List Int := if goodB xs fs then idsTo (cnF fs xs.length) xs.length else []
theorem cnL_len : (cnL xs fs).length ≤ 8 := by
  unfold cnL
  cases g : goodB xs fs
  · simp
  · have h := goodB_bd g
    have h2 := idsTo_len (cnF fs xs.length) xs.length
    simp; omega
/-- A group whose loss parts others. -/
def cgF (fs : List Fib) (n i : Nat) : Bool := sepB n (compL (goneF []) fs n) (compL (goneF ((groupsL fs).getD i [])) fs n) (-1)
def cgL (xs : List ByteArray) (fs : List Fib) : List Int := if goodB xs fs then idsTo (cgF fs xs.length) (groupsL fs).length else []
end
end Go.Proofs.YtgoegldffjfmdaaGreat
