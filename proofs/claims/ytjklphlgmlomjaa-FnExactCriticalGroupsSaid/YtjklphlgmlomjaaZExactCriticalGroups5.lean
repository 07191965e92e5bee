/- Lemmas and walks that the claim rests on, laid together. Conditions: none. -/
import Derived.Test.YtjklphlgmlomjaaRows
import Derived.Test.YtjklphlgmlomjaaZExactCriticalGroups0
import Derived.Test.YtjklphlgmlomjaaZExactCriticalGroups4
import Derived.Test.YtjklphlgmlomjaaZExactCriticalGroups2
import Derived.Deep.RegionHeld3
/- szStringS, walked: it takes the lengths off a number, -1 if that is too small. Conditions: the number lies in 0 .. 1048576. -/
namespace Go.Proofs.Ytjklphlgmlomjaa
open Go.RowKit
def lessI (left : Int) (t : Nat) : Int := if (t : Int) ≤ left then left - t else -1
def sumTo (xs : List ByteArray) (k : Nat) : Nat := ((xs.take k).map ByteArray.size).sum
def strTot (xs : List ByteArray) : Nat := xs.length + sumTo xs xs.length
theorem sumTo_succ {xs : List ByteArray} {k : Nat} {x : ByteArray} (h : xs[k]? = some x) : sumTo xs (k + 1) = sumTo xs k + x.size := by
  unfold sumTo
  obtain ⟨hk, hx⟩ := List.getElem?_eq_some_iff.1 h
  rw [List.take_succ_eq_append_getElem hk, hx, List.map_append, List.sum_append]; simp
theorem sumTo_mono {xs : List ByteArray} {j k : Nat} (h : j ≤ k) : sumTo xs j ≤ sumTo xs k := by
  unfold sumTo
  obtain ⟨d, rfl⟩ := Nat.exists_eq_add_of_le h
  rw [List.take_add, List.map_append, List.sum_append]; omega
theorem size_le_tot {xs : List ByteArray} {x : ByteArray} (h : x ∈ xs) : x.size ≤ strTot xs := by
  obtain ⟨k, hk, e⟩ := List.mem_iff_getElem.1 h
  have h1 := sumTo_succ (xs := xs) (k := k) (x := x) (by rw [List.getElem?_eq_getElem hk, e])
  have h2 := sumTo_mono (xs := xs) (j := k + 1) (k := xs.length) hk
  unfold strTot; omega
theorem lessI_neg {left : Int} {t : Nat} (h : left < t) : lessI left t = -1 := by unfold lessI; rw [if_neg (by omega)]
theorem lessI_pos {left : Int} {t : Nat} (h : (t : Int) ≤ left) : lessI left t = left - t := by unfold lessI; rw [if_pos h]
set_option maxRecDepth 100000 in
theorem szStringS_any {B n c : Nat} {A : Option Addr} {xs : List ByteArray} (left : Int) (w : World) (hA : Sees elStr w B A n xs) (hn : n ≤ maxLen) (hx : ∀ x ∈ xs, x.size ≤ maxLen) (h0 : 0 ≤ left) (hl : left ≤ 1048576) :
    Calls Try.prog 53 #[.slice A n c, .int .i64 left] w fun e w' => e = .returned (.int .i64 (lessI left (strTot xs))) ∧ w = w' := by
  have hlen := hA.len
  unfold maxLen at hn hx
  by_cases hs : (n : Int) ≤ left
  · have HL := hid hlen
    clear hlen
    have e0 : decide (left - (n : Int) < 0) = false := by simp; omega
    go_enter Try.func53, Try.ntmps53
    go_wp2
    clear e0
    go_loop [1, 5] (fun l i => ∃ (k : Nat) (r : Int), k ≤ n ∧ i = .int .i64 k ∧ l = .int .i64 r ∧ 0 ≤ r ∧ r ≤ 1048576 ∧ Hid (r = left - n - sumTo xs k)) (fun _ i => n - (intOf i).toNat)
    case atStart => exact ⟨0, left - n, Nat.zero_le _, rfl, rfl, by omega, by omega, by unfold Hid sumTo; simp⟩
    case round =>
      obtain ⟨k, r, hk, rfl, rfl, hr0, hr1, hr⟩ := hrel
      by_cases hlt : k < n
      · obtain ⟨b, o, rfl, _, hc⟩ := hA.at_ hlt
        obtain ⟨x, hxk⟩ : ∃ x, xs[k]? = some x := ⟨xs[k]'(by rw [HL.out]; exact hlt), List.getElem?_eq_getElem _⟩
        have hcx := hc k x hxk 0 _ rfl
        simp only [elStr, Nat.mul_one, Nat.add_zero] at hcx
        have hxs : x.size ≤ 2 ^ 63 - 1 := hx x (List.mem_of_getElem? hxk)
        have hsucc := sumTo_succ hxk
        have hmono := sumTo_mono (xs := xs) (j := k + 1) (k := n) hlt
        clear hc hxk
        by_cases hneg : r - (x.size : Int) < 0
        · have HN : Hid (lessI left (strTot xs) = -1) := lessI_neg (by have := hr.out; have := HL.out; unfold strTot; rw [this]; omega)
          clear hsucc hmono
          go_wp2
          go_ret
          exact ⟨by rw [HN.out]; rfl, rfl⟩
        · have HR : Hid (r - (x.size : Int) = left - n - sumTo xs (k + 1)) := by have := hr.out; unfold Hid; omega
          clear hsucc hmono hr
          go_wp2
          go_round
          case rel => exact ⟨k + 1, _, by omega, by go_num, rfl, by omega, by omega, HR⟩
          case measure => simp [intOf]; omega
      · have HR : Hid (lessI left (strTot xs) = r) := by
          obtain rfl : k = n := by omega
          have h1 := hr.out; have h2 := HL.out
          refine hid ?_
          rw [lessI_pos (by unfold strTot; rw [h2]; omega)]; unfold strTot; rw [h2]; omega
        clear hr
        go_wp2
        go_ret
        exact ⟨by rw [HR.out]; rfl, rfl⟩
  · have HN : Hid (lessI left (strTot xs) = -1) := lessI_neg (by unfold strTot; omega)
    clear hlen
    go_enter Try.func53, Try.ntmps53
    go_wp2
    go_ret
    exact ⟨by rw [HN.out]; rfl, rfl⟩
end Go.Proofs.Ytjklphlgmlomjaa
/- szFiberS and szNetwork, walked. Conditions: the number lies in 0 .. 1048576. -/
namespace Go.Proofs.Ytjklphlgmlomjaa
open Go.RowKit
set_option maxRecDepth 100000 in
theorem szFiberS_any {n c : Nat} {A : Option Addr} (left : Int) (w : World) (hn : n ≤ maxLen) (h0 : 0 ≤ left) (hl : left ≤ 1048576) :
    Calls Try.prog 54 #[.slice A n c, .int .i64 left] w fun e w' => e = .returned (.int .i64 (lessI left n)) ∧ w = w' := by
  unfold maxLen at hn
  by_cases hs : (n : Int) ≤ left
  · have HN := hid (lessI_pos hs)
    go_enter Try.func54, Try.ntmps54
    go_wp2
    go_ret
    exact ⟨by rw [HN.out]; rfl, rfl⟩
  · have HN := hid (lessI_neg (left := left) (t := n) (by omega))
    go_enter Try.func54, Try.ntmps54
    go_wp2
    go_ret
    exact ⟨by rw [HN.out]; rfl, rfl⟩
theorem lessI_bd {left : Int} {t : Nat} : (lessI left t = -1 ∧ left < t) ∨ (0 ≤ lessI left t ∧ lessI left t ≤ left ∧ (t : Int) ≤ left) := by
  unfold lessI; split <;> omega
theorem lessI_lessI {left : Int} {s t : Nat} : lessI left (s + t) = if lessI left s < 0 then -1 else lessI (lessI left s) t := by
  unfold lessI; split <;> split <;> (try split) <;> omega
/-- What a network holds: names, letters, fibers. -/
def netTot {α : Type} (xs : List ByteArray) (fs : List α) : Nat := strTot xs + fs.length
set_option maxHeartbeats 1000000 in
set_option maxRecDepth 100000 in
theorem szNetwork_any {B n c m d : Nat} {A A' : Option Addr} {xs : List ByteArray} {fs : List Fib} (left : Int) (w : World) (hA : Sees elStr w B A n xs) (hF : Sees elFib w B A' m fs) (hB : B ≤ w.heap.size) (hn : n ≤ maxLen) (hm : m ≤ maxLen)
    (hx : ∀ x ∈ xs, x.size ≤ maxLen) (h0 : 0 ≤ left) (hl : left ≤ 1048576) :
    Calls Try.prog 15 #[.agg #[.slice A n c, .slice A' m d], .int .i64 left] w fun e w' => e = .returned (.int .i64 (lessI left (netTot xs fs))) ∧ Below w.heap.size w w' := by
  have hA' : Sees elStr (w.alloc (.cells #[.slice A n c, .slice A' m d] 25)) B A n xs := hA.below ((bl_alloc (Below.refl _ _) _).mono hB)
  have hll := lessI_lessI (left := left) (s := strTot xs) (t := fs.length)
  rw [hF.len] at hll
  unfold netTot
  rw [hF.len]
  rcases lessI_bd (left := left) (t := strTot xs) with ⟨h1, _⟩ | ⟨h1, h2, _⟩
  · have HN : Hid (lessI left (strTot xs + m) = -1) := by rw [hll, if_pos (by omega)]; rfl
    have HS := hid h1
    clear hll h1
    go_enter Try.func15, Try.ntmps15
    go_wp2_with fail
    refine (szStringS_any left _ hA' hn hx h0 hl).mono ?_
    rintro e w' ⟨rfl, rfl⟩
    rw [HS.out]
    go_wp2_with fail
    go_ret
    exact ⟨by rw [HN.out]; rfl, bl_alloc (Below.refl _ _) _⟩
  · have HN : Hid (lessI left (strTot xs + m) = lessI (lessI left (strTot xs)) m) := by rw [hll, if_neg (by omega)]; rfl
    clear hll
    go_enter Try.func15, Try.ntmps15
    go_wp2_with fail
    refine (szStringS_any left _ hA' hn hx h0 hl).mono ?_
    rintro e w' ⟨rfl, rfl⟩
    generalize lessI left (strTot xs) = r at *
    rcases lessI_bd (left := r) (t := m) with ⟨h3, _⟩ | ⟨h3, h4, _⟩
    · have HS := hid h3
      clear h3
      go_wp2_with fail
      refine (szFiberS_any r _ hm h1 (by omega)).mono ?_
      rintro e w' ⟨rfl, rfl⟩
      rw [HS.out]
      go_wp2_with fail
      go_ret
      exact ⟨by rw [HN.out, HS.out]; rfl, bl_alloc (Below.refl _ _) _⟩
    · go_wp2_with fail
      refine (szFiberS_any r _ hm h1 (by omega)).mono ?_
      rintro e w' ⟨rfl, rfl⟩
      go_wp2_with fail
      go_ret
      exact ⟨by rw [HN.out]; rfl, bl_alloc (Below.refl _ _) _⟩
end Go.Proofs.Ytjklphlgmlomjaa
/- How an argument that can be read is opened: strings, slices, networks, routes. Conditions: none. -/
namespace Go.Proofs.Ytjklphlgmlomjaa
open Go.ChangeShapes Go.WideShapes Go.ChangeAt Go.RowKit Go.Deep
theorem i64_bd {n : Int} (h : (Lit.int .i64 n).wf = true) : -9223372036854775808 ≤ n ∧ n ≤ 9223372036854775807 := by
  simp [Lit.wf, IntKind.min, IntKind.max, IntKind.signed, IntKind.bits] at h; omega
section
variable {H : Type} {enc : TypeId × Value → H} {P : Program} {W : World} {spare : Nat → Bool} {held : Bool}
/-- A slice whose elements' cells are known. -/
theorem open_sl {α : Type} (E : El α) {t e : TypeId} {fuel : Nat} {cs : List Value} {x : DataW H × List MemPlace} (good : α → Prop) (ht : P.underlying t = some (.slice e)) (hsz : P.cellsOf e = E.sz)
    (hel : ∀ fuel cs y, DataW.trod enc P W 0 spare held fuel e cs = some y → ∃ a, cs = E.cells a ∧ good a)
    (h : DataW.trod enc P W 0 spare held fuel t cs = some x) :
    ∃ A n c xs, cs = [.slice A n c] ∧ n ≤ c ∧ c ≤ maxLen ∧ Sees E W W.heap.size A n xs ∧ ∀ a ∈ xs, good a := by
  rcases open_slice ht h with ⟨h0, _⟩ | ⟨a, len, cap, m, k, D, Pl, hcs, _, hl, hm, hmm, _, hi⟩
  · exact ⟨none, 0, 0, [], h0, Nat.le_refl _, Nat.zero_le _, Sees.nil _ _ _ _, fun _ h => by cases h⟩
  · have hlm : len ≤ m := by rw [hmm]; split <;> omega
    have key : ∀ i : Nat, i < len → ∃ y : α, good y ∧ ∀ j u, (E.cells y)[j]? = some u → W.cell? (a.add (i * E.sz + j)) = some u := by
      intro i hlt
      obtain ⟨cs', hc, htr⟩ := hi i (by omega)
      obtain ⟨y, rfl, hg⟩ := hel _ _ _ htr
      obtain ⟨_, hlen, hat⟩ := World.cells?_some hc
      refine ⟨y, hg, fun j u hu => ?_⟩
      have hj : j < P.cellsOf e := by rw [hsz, ← E.len y]; exact (List.getElem?_eq_some_iff.1 hu).1
      have := hat j hj
      rw [add_add, hsz] at this
      rw [this, hu]
    rcases Nat.eq_zero_or_pos len with h0 | h0
    · subst h0
      exact ⟨some a, 0, cap, [], hcs, hl, hm, Sees.nil _ _ _ _, fun _ h => by cases h⟩
    · have hspot : a.spot = none := by
        obtain ⟨y, _, hy⟩ := key 0 h0
        have hpos := E.pos
        have hlen := E.len y
        have h1 := hy 0 ((E.cells y)[0]'(by omega)) (List.getElem?_eq_getElem (by omega))
        simp only [Nat.zero_mul, Nat.zero_add] at h1
        rw [show a.add 0 = a by simp [Addr.add]] at h1
        unfold World.cell? at h1
        split at h1
        · split at h1
          · cases h1
          · rename_i hs; simpa using hs
        · cases h1
      obtain ⟨y0, _, _⟩ := key 0 h0
      have : Inhabited α := ⟨y0⟩
      obtain ⟨f, hf⟩ := choose_lt key
      refine ⟨some a, len, cap, (List.range len).map f, hcs, hl, hm, ⟨by simp, .inr ⟨a.block, a.off, by cases a; simp_all, ?_, ?_⟩⟩, ?_⟩
      · obtain ⟨_, hy⟩ := hf 0 h0
        have hpos := E.pos
        have hlen := E.len (f 0)
        have h1 := hy 0 ((E.cells (f 0))[0]'(by omega)) (List.getElem?_eq_getElem (by omega))
        have := World.block_lt_of_cell? W _ h1
        simp only [Addr.add] at this
        split at this <;> simpa using this
      · intro k x hx j u hu
        have hk : k < len := by have := (List.getElem?_eq_some_iff.1 hx).1; simpa using this
        have hx' : f k = x := by simpa [List.getElem?_map, List.getElem?_range, hk] using hx
        have := (hf k hk).2 j u (by rw [hx']; exact hu)
        rw [← this]
        unfold Addr.add
        split
        · rename_i h00; rw [Nat.add_assoc, h00, Nat.add_zero]; cases a; simp_all
        · rw [Nat.add_assoc]
      · intro x hx
        obtain ⟨i, hi, rfl⟩ := List.mem_map.1 hx
        exact (hf i (by simpa using hi)).1
/-- A slice that came in. -/
def SlArg {α : Type} (E : El α) (W : World) (A : Option Addr) (n c : Nat) (xs : List α) (good : α → Prop) : Prop := n ≤ c ∧ c ≤ maxLen ∧ Sees E W W.heap.size A n xs ∧ ∀ a ∈ xs, good a
theorem open_sl_val {α : Type} (E : El α) {t e : TypeId} {base : Nat} {v : Value} {d : DataW H} {p : List MemPlace} (good : α → Prop) (ht : P.underlying t = some (.slice e)) (hsz : P.cellsOf e = E.sz)
    (hel : ∀ fuel cs y, DataW.trod enc P W 0 spare held fuel e cs = some y → ∃ a, cs = E.cells a ∧ good a)
    (hv : Value.okWide P W .any base t v) (h : DataW.Trod enc P W 0 spare held t v d p) : ∃ A n c xs, v = .slice A n c ∧ SlArg E W A n c xs good := by
  obtain ⟨a, len, cap, rfl⟩ := okWide_slice ht hv
  obtain ⟨fuel, h⟩ := h
  obtain ⟨A, n, c, xs, e, h1, h2, h3, h4⟩ := open_sl E good ht hsz hel h
  exact ⟨A, n, c, xs, by simpa [Value.cells] using e, h1, h2, h3, h4⟩
theorem el_int {e : TypeId} (he : P.underlying e = some (.int .i64)) (fuel : Nat) (cs : List Value) (y : DataW H × List MemPlace) (h : DataW.trod enc P W 0 spare held fuel e cs = some y) :
    ∃ a, cs = elInt.cells a ∧ (-9223372036854775808 ≤ a ∧ a ≤ 9223372036854775807) := by
  obtain ⟨n, rfl, _, hw⟩ := DataW.trod_int he h
  exact ⟨n, rfl, i64_bd hw⟩
theorem el_str {e : TypeId} (he : P.underlying e = some .string) (fuel : Nat) (cs : List Value) (y : DataW H × List MemPlace) (h : DataW.trod enc P W 0 spare held fuel e cs = some y) :
    ∃ a, cs = elStr.cells a ∧ a.size ≤ maxLen := by
  obtain ⟨n, rfl, _, hw⟩ := DataW.trod_string he h
  exact ⟨n, rfl, hw⟩
end
end Go.Proofs.Ytjklphlgmlomjaa
/- How a network that can be read is opened. Conditions: none. -/
namespace Go.Proofs.Ytjklphlgmlomjaa
open Go.ChangeShapes Go.WideShapes Go.ChangeAt Go.RowKit Go.Deep Go.Joins
theorem cellsN : Try.prog.cellsOf 25 = 2 := by kernel_rfl
theorem cellsF : Try.prog.cellsOf 61 = 4 := by kernel_rfl
theorem cellsS : Try.prog.cellsOf 9 = 1 := by kernel_rfl
theorem cellsI : Try.prog.cellsOf 3 = 1 := by kernel_rfl
section
variable {H : Type} {enc : TypeId × Value → H} {W : World} {spare : Nat → Bool} {held : Bool}
set_option maxRecDepth 100000 in
theorem el_fib (fuel : Nat) (cs : List Value) (y : DataW H × List MemPlace) (h : DataW.trod enc Try.prog W 0 spare held fuel 61 cs = some y) : ∃ a, cs = elFib.cells a ∧ True := by
  obtain ⟨ys, n, _, _, hl, hyl, hf⟩ := DataW.trod_struct Try.underlying61 h
  rw [cellsF] at hl
  have hi : ∀ k, k < 4 → ∃ m : Int, (cs.drop k).take 1 = [.int .i64 m] := by
    intro k hk
    have hy : k < ys.length := by rw [hyl]; exact hk
    match k, hk with
    | 0, _ => have := hf 0 _ rfl; rw [List.getElem?_eq_getElem hy] at this; obtain ⟨m, hm, _⟩ := DataW.trod_int Try.underlying3 this; exact ⟨m, by simpa [cellsI] using hm⟩
    | 1, _ => have := hf 1 _ rfl; rw [List.getElem?_eq_getElem hy] at this; obtain ⟨m, hm, _⟩ := DataW.trod_int Try.underlying3 this; exact ⟨m, by simpa [cellsI] using hm⟩
    | 2, _ => have := hf 2 _ rfl; rw [List.getElem?_eq_getElem hy] at this; obtain ⟨m, hm, _⟩ := DataW.trod_int Try.underlying3 this; exact ⟨m, by simpa [cellsI] using hm⟩
    | 3, _ => have := hf 3 _ rfl; rw [List.getElem?_eq_getElem hy] at this; obtain ⟨m, hm, _⟩ := DataW.trod_int Try.underlying3 this; exact ⟨m, by simpa [cellsI] using hm⟩
  match cs, hl with
  | [v0, v1, v2, v3], _ =>
    obtain ⟨m0, h0⟩ := hi 0 (by omega)
    obtain ⟨m1, h1⟩ := hi 1 (by omega)
    obtain ⟨m2, h2⟩ := hi 2 (by omega)
    obtain ⟨m3, h3⟩ := hi 3 (by omega)
    simp at h0 h1 h2 h3
    exact ⟨⟨m0, m1, m2, m3⟩, by simp [elFib, h0, h1, h2, h3], trivial⟩
/-- A network that came in. -/
def NetArg (W : World) (A : Option Addr) (n c : Nat) (A' : Option Addr) (m d : Nat) (xs : List ByteArray) (fs : List Fib) : Prop :=
  SlArg elStr W A n c xs (fun s => s.size ≤ maxLen) ∧ SlArg elFib W A' m d fs (fun _ => True)
set_option maxRecDepth 100000 in
theorem open_net {base : Nat} {v : Value} {d : DataW H} {p : List MemPlace} (hv : Value.okWide Try.prog W .any base 25 v) (h : DataW.Trod enc Try.prog W 0 spare held 25 v d p) :
    ∃ A n c A' m d xs fs, v = .agg #[.slice A n c, .slice A' m d] ∧ NetArg W A n c A' m d xs fs := by
  obtain ⟨v0, v1, y0, y1, k, rfl, _, _, h0, h1⟩ := open_agg2 Try.underlying25 (by kernel_rfl) cellsN hv h
  obtain ⟨A, n, c, xs, e0, a1, a2, a3, a4⟩ := open_sl elStr (fun s => s.size ≤ maxLen) Try.underlying22 cellsS (el_str Try.underlying9) h0
  obtain ⟨A', m, d, fs, e1, b1, b2, b3, b4⟩ := open_sl elFib (fun _ => True) Try.underlying23 cellsF el_fib h1
  simp at e0 e1
  exact ⟨A, n, c, A', m, d, xs, fs, by rw [e0, e1], ⟨a1, a2, a3, a4⟩, ⟨b1, b2, b3, b4⟩⟩
end
end Go.Proofs.Ytjklphlgmlomjaa
/- FnExactCriticalGroups, walked. Conditions: none. -/
namespace Go.Proofs.Ytjklphlgmlomjaa.fnExactCriticalGroups
open Go.RowKit
set_option maxHeartbeats 2000000 in
set_option maxRecDepth 100000 in
theorem walk (w : World) {A0 E0 : Option Addr} {n0 c0 m0 d0 : Nat} {xs0 : List ByteArray} {fs0 : List Fib} (h0 : NetArg w A0 n0 c0 E0 m0 d0 xs0 fs0) :
    Calls Try.prog 8 #[.agg #[.slice A0 n0 c0, .slice E0 m0 d0]] w fun e w' => e = .returned (.bool true) ∧ Below w.heap.size w w' := by
  obtain ⟨⟨h0nc, h0cm, h0A, h0x⟩, ⟨h0md, h0dm, h0F, _⟩⟩ := h0
  have hS := Led.nil w
  replace hS := hS.blk_ (w.heap.size) (by simp) 25 #[.slice A0 n0 c0, .slice E0 m0 d0]
  obtain ⟨r0, hr0⟩ : ∃ r, r = lessI 1048576 (netTot xs0 fs0) := ⟨_, rfl⟩
  have hlb0 := lessI_bd (left := 1048576) (t := (netTot xs0 fs0))
  rw [← hr0] at hlb0
  have HR0 := hid hr0
  clear hr0
  rcases hlb0 with ⟨hz0, _⟩ | ⟨hz0, hy0, hx0⟩
  case inl =>
    subst hz0
    go_enter Try.func8, Try.ntmps8
    go_wp2_with fail
    refine (szNetwork_any 1048576 _ (h0A.below hS.bl) (h0F.below hS.bl) hS.bl.size (by omega) (by omega) h0x (by omega) (by omega)).mono ?_
    rintro e W1 ⟨rfl, hb⟩; replace hS := hS.step hb; clear hb
    rw [← HR0.out]
    go_wp2_with fail
    go_ret
    exact ⟨rfl, hS.bl⟩
  have h0n : n0 ≤ 1048576 := by have := h0A.len; unfold netTot strTot at hx0; omega
  have h0m : m0 ≤ 1048576 := by have := h0F.len; unfold netTot strTot at hx0; omega
  have h0I := hid (show NetIs w A0 n0 c0 E0 m0 d0 xs0 fs0 from ⟨⟨h0nc, h0n⟩, ⟨h0md, h0m⟩, h0A, h0F, h0x⟩)
  clear hx0
  go_enter Try.func8, Try.ntmps8
  go_wp2_with fail
  refine (szNetwork_any 1048576 _ (h0A.below hS.bl) (h0F.below hS.bl) hS.bl.size (by omega) (by omega) h0x (by omega) (by omega)).mono ?_
  rintro e W1 ⟨rfl, hb⟩; replace hS := hS.step hb; clear hb
  rw [← HR0.out]
  -- the reference
  have q0 := hS.cell 0 0 rfl rfl
  have q1 := hS.cell 0 1 rfl rfl
  go_wp2_with fail
  refine (toNetwork_own _ (h0I.out.grow hS.bl).strs (h0I.out.grow hS.bl).fibs (Nat.le_refl _) h0n h0m).mono ?_
  rintro e W2 ⟨Aw0, cw0, Ew0, dw0, rfl, ho, hb⟩
  replace hS := hS.net hb ho
  clear hb ho
  clear q0 q1
  go_wp2_with fail
  refine (specCritical _ (hS.netIs 0 rfl h0n h0m h0x)).mono ?_
  rintro e W3 ⟨vw0, rfl, ho0, hb⟩
  have hlen0 := hid ((cgL_len : (cgL xs0 fs0).length ≤ 1048576))
  generalize hL0 : cgL xs0 fs0 = L0 at *
  obtain ⟨Aw0, cw0, rfl, _, _, _⟩ := ho0.form
  replace hS := hS.owns hb ho0
  clear hb ho0
  -- the program on copies that are kept
  have q0 := hS.cell 2 0 rfl rfl
  have q1 := hS.cell 2 1 rfl rfl
  go_wp2_with fail
  refine (toNetwork_own _ (h0I.out.grow hS.bl).strs (h0I.out.grow hS.bl).fibs (Nat.le_refl _) h0n h0m).mono ?_
  rintro e W4 ⟨Ax0, cx0, Ex0, dx0, rfl, ho, hb⟩
  replace hS := hS.net hb ho
  clear hb ho
  clear q0 q1
  replace hS := hS.blk_ (W4.heap.size) (by simp) 35 #[.slice Ax0 n0 cx0, .slice Ex0 m0 dx0]
  go_wp2_with fail
  refine (implCritical _ (hS.netIs 1 rfl h0n h0m h0x)).mono ?_
  rintro e W5 ⟨vg0, rfl, ho0, hb⟩
  rw [hL0] at ho0
  obtain ⟨Ag0, cg0, rfl, _, _, _⟩ := ho0.form
  replace hS := hS.owns hb ho0
  clear hb ho0
  -- the results are equal
  go_wp2_with fail
  refine (eqI_led hS 0 3 rfl rfl hlen0.out).mono ?_
  rintro e W6 ⟨rfl, hS1⟩; replace hS := hS1; clear hS1
  -- the arguments are as they were
  have C0 : ∀ w', Cls W6 w' → w'.cell? ⟨w.heap.size, 0, none⟩ = some (.slice A0 n0 c0) := fun _ h => h.cell (hS.cell 5 0 rfl rfl)
  have C1 : ∀ w', Cls W6 w' → w'.cell? ⟨w.heap.size, 1, none⟩ = some (.slice E0 m0 d0) := fun _ h => h.cell (hS.cell 5 1 rfl rfl)
  have C2 : ∀ w', Cls W6 w' → w'.cell? ⟨W4.heap.size, 0, none⟩ = some (.slice Ax0 n0 cx0) := fun _ h => h.cell (hS.cell 1 0 rfl rfl)
  have C3 : ∀ w', Cls W6 w' → w'.cell? ⟨W4.heap.size, 1, none⟩ = some (.slice Ex0 m0 dx0) := fun _ h => h.cell (hS.cell 1 1 rfl rfl)
  have HL := hid (fun w' (h : Cls W6 w') => hS.step h)
  go_wp2_with fail
  go_region_held3 (fun w' => Cls W6 w') (first | exact Cls.drew _ | exact Cls.next (by assumption) (by assumption))
    (first
      | (go_at_call 18; refine (toNetwork_own _ (h0I.out.grow (HL.out _ (by assumption)).bl).strs (h0I.out.grow (HL.out _ (by assumption)).bl).fibs (Nat.le_refl _) h0n h0m).mono ?_; rintro e w' ⟨Ay0, cy0, Ey0, dy0, rfl, ho1, hb1⟩; have hL1 := (HL.out _ (by assumption)).net hb1 ho1)
      | (go_at_call 21; refine (eqN_led2 hL1 3 0 rfl rfl h0n h0m).mono ?_; rintro e w' ⟨rfl, hS2, hb2⟩))
  clear HL hL1 ho1 hb1 hb2 C0 C1 C2 C3
  replace hS := hS2.drop 1
  clear hS2
  dsimp only [List.drop] at hS
  generalize w' = W7 at *
  -- marks
  have q0 := hS.cell 1 0 rfl rfl
  have q1 := hS.cell 1 1 rfl rfl
  go_wp2_with fail
  refine (markN_led hS 2 rfl _ h0n h0m (by omega) (by omega)).mono ?_
  rintro e W8 ⟨rfl, hS1⟩; replace hS := hS1; clear hS1; dsimp only [List.set] at hS
  clear q0 q1
  go_wp2_with fail
  refine (eqI_led hS 0 3 rfl rfl hlen0.out).mono ?_
  rintro e W9 ⟨rfl, hS1⟩; replace hS := hS1; clear hS1
  go_wp2_with fail
  refine (markI_led hS 0 rfl _ hlen0.out (by have := hlen0.out; omega) (by have := hlen0.out; omega)).mono ?_
  rintro e W10 ⟨rfl, hS1⟩; replace hS := hS1; clear hS1; dsimp only [List.set] at hS
  go_wp2_with fail
  refine (heldI_led hS 0 _ rfl hlen0.out (by have := hlen0.out; omega) (by have := hlen0.out; omega)).mono ?_
  rintro e W11 ⟨rfl, hS1⟩; replace hS := hS1; clear hS1
  -- once more
  have q0 := hS.cell 5 0 rfl rfl
  have q1 := hS.cell 5 1 rfl rfl
  go_wp2_with fail
  refine (toNetwork_own _ (h0I.out.grow hS.bl).strs (h0I.out.grow hS.bl).fibs (Nat.le_refl _) h0n h0m).mono ?_
  rintro e W12 ⟨Ah0, ch0, Eh0, dh0, rfl, ho, hb⟩
  replace hS := hS.net hb ho
  clear hb ho
  clear q0 q1
  go_wp2_with fail
  refine (implCritical _ (hS.netIs 0 rfl h0n h0m h0x)).mono ?_
  rintro e W13 ⟨vh0, rfl, ho0, hb⟩
  rw [hL0] at ho0
  obtain ⟨Ah0, ch0, rfl, _, _, _⟩ := ho0.form
  replace hS := hS.owns hb ho0
  clear hb ho0
  go_wp2_with fail
  refine (eqI_led hS 0 5 rfl rfl hlen0.out).mono ?_
  rintro e W14 ⟨rfl, hS1⟩; replace hS := hS1; clear hS1
  go_wp2_with fail
  refine (heldI_led hS 2 _ rfl hlen0.out (by have := hlen0.out; omega) (by have := hlen0.out; omega)).mono ?_
  rintro e W15 ⟨rfl, hS1⟩; replace hS := hS1; clear hS1
  go_wp2_with fail
  go_ret
  exact ⟨rfl, hS.bl⟩
end Go.Proofs.Ytjklphlgmlomjaa.fnExactCriticalGroups
