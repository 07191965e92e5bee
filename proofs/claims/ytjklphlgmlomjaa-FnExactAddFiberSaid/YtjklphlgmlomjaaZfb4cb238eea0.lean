/- Lemmas and walks that the claim rests on, laid together. Conditions: none. -/
import Derived.Test.YtjklphlgmlomjaaZb4e6975f1486
import Derived.Test.YtjklphlgmlomjaaZb3df7d58b3d2
import Derived.Test.YtjklphlgmlomjaaRows
import Derived.Test.YtjklphlgmlomjaaZbdd0ffef8817
import Derived.Deep.RegionHeld3
/- szFiberS and szNetwork, walked. Conditions: the number lies in 0 .. 1048576. -/
namespace Go.Proofs.Ytjklphlgmlomjaa
open Go.RowKit
set_option maxRecDepth 100000 in
theorem szFiberS_any {n c : Nat} {A : Option Addr} (left : Int) (w : World) (hn : n ≤ maxLen) (h0 : 0 ≤ left) (hl : left ≤ 1048576) :
    Calls Try.prog 54 #[.slice A n c, .int .i64 left] w fun e w' => e = .returned (.int .i64 (lessI left n)) ∧ w = w' := by
  unfold maxLen at hn
  by_cases hs : (n : Int) ≤ left
  · have HN := hid (lessI_pos hs)
    go_enter Try.func54, Try.ntmps54
    go_wp2
    go_ret
    exact ⟨by rw [HN.out]; rfl, rfl⟩
  · have HN := hid (lessI_neg (left := left) (t := n) (by omega))
    go_enter Try.func54, Try.ntmps54
    go_wp2
    go_ret
    exact ⟨by rw [HN.out]; rfl, rfl⟩
theorem lessI_bd {left : Int} {t : Nat} : (lessI left t = -1 ∧ left < t) ∨ (0 ≤ lessI left t ∧ lessI left t ≤ left ∧ (t : Int) ≤ left) := by
  unfold lessI; split <;> omega
theorem lessI_lessI {left : Int} {s t : Nat} : lessI left (s + t) = if lessI left s < 0 then -1 else lessI (lessI left s) t := by
  unfold lessI; split <;> split <;> (try split) <;> omega
/-- What a network holds: names, letters, fibers. -/
def netTot {α : Type} (xs : List ByteArray) (fs : List α) : Nat := strTot xs + fs.length
set_option maxHeartbeats 1000000 in
set_option maxRecDepth 100000 in
theorem szNetwork_any {B n c m d : Nat} {A A' : Option Addr} {xs : List ByteArray} {fs : List Fib} (left : Int) (w : World) (hA : Sees elStr w B A n xs) (hF : Sees elFib w B A' m fs) (hB : B ≤ w.heap.size) (hn : n ≤ maxLen) (hm : m ≤ maxLen)
    (hx : ∀ x ∈ xs, x.size ≤ maxLen) (h0 : 0 ≤ left) (hl : left ≤ 1048576) :
    Calls Try.prog 15 #[.agg #[.slice A n c, .slice A' m d], .int .i64 left] w fun e w' => e = .returned (.int .i64 (lessI left (netTot xs fs))) ∧ Below w.heap.size w w' := by
  have hA' : Sees elStr (w.alloc (.cells #[.slice A n c, .slice A' m d] 25)) B A n xs := hA.below ((bl_alloc (Below.refl _ _) _).mono hB)
  have hll := lessI_lessI (left := left) (s := strTot xs) (t := fs.length)
  rw [hF.len] at hll
  unfold netTot
  rw [hF.len]
  rcases lessI_bd (left := left) (t := strTot xs) with ⟨h1, _⟩ | ⟨h1, h2, _⟩
  · have HN : Hid (lessI left (strTot xs + m) = -1) := by rw [hll, if_pos (by omega)]; rfl
    have HS := hid h1
    clear hll h1
    go_enter Try.func15, Try.ntmps15
    go_wp2_with fail
    refine (szStringS_any left _ hA' hn hx h0 hl).mono ?_
    rintro e w' ⟨rfl, rfl⟩
    rw [HS.out]
    go_wp2_with fail
    go_ret
    exact ⟨by rw [HN.out]; rfl, bl_alloc (Below.refl _ _) _⟩
  · have HN : Hid (lessI left (strTot xs + m) = lessI (lessI left (strTot xs)) m) := by rw [hll, if_neg (by omega)]; rfl
    clear hll
    go_enter Try.func15, Try.ntmps15
    go_wp2_with fail
    refine (szStringS_any left _ hA' hn hx h0 hl).mono ?_
    rintro e w' ⟨rfl, rfl⟩
    generalize lessI left (strTot xs) = r at *
    rcases lessI_bd (left := r) (t := m) with ⟨h3, _⟩ | ⟨h3, h4, _⟩
    · have HS := hid h3
      clear h3
      go_wp2_with fail
      refine (szFiberS_any r _ hm h1 (by omega)).mono ?_
      rintro e w' ⟨rfl, rfl⟩
      rw [HS.out]
      go_wp2_with fail
      go_ret
      exact ⟨by rw [HN.out, HS.out]; rfl, bl_alloc (Below.refl _ _) _⟩
    · go_wp2_with fail
      refine (szFiberS_any r _ hm h1 (by omega)).mono ?_
      rintro e w' ⟨rfl, rfl⟩
      go_wp2_with fail
      go_ret
      exact ⟨by rw [HN.out]; rfl, bl_alloc (Below.refl _ _) _⟩
end Go.Proofs.Ytjklphlgmlomjaa
/- How an argument that can be read is opened: strings, slices, networks, routes. Conditions: none. -/
namespace Go.Proofs.Ytjklphlgmlomjaa
open Go.ChangeShapes Go.WideShapes Go.ChangeAt Go.RowKit Go.Deep
theorem i64_bd {n : Int} (h : (Lit.int .i64 n).wf = true) : -9223372036854775808 ≤ n ∧ n ≤ 9223372036854775807 := by
  simp [Lit.wf, IntKind.min, IntKind.max, IntKind.signed, IntKind.bits] at h; omega
section
variable {H : Type} {enc : TypeId × Value → H} {P : Program} {W : World} {spare : Nat → Bool} {held : Bool}
/-- A slice whose elements' cells are known. -/
theorem open_sl {α : Type} (E : El α) {t e : TypeId} {fuel : Nat} {cs : List Value} {x : DataW H × List MemPlace} (good : α → Prop) (ht : P.underlying t = some (.slice e)) (hsz : P.cellsOf e = E.sz)
    (hel : ∀ fuel cs y, DataW.trod enc P W 0 spare held fuel e cs = some y → ∃ a, cs = E.cells a ∧ good a)
    (h : DataW.trod enc P W 0 spare held fuel t cs = some x) :
    ∃ A n c xs, cs = [.slice A n c] ∧ n ≤ c ∧ c ≤ maxLen ∧ Sees E W W.heap.size A n xs ∧ ∀ a ∈ xs, good a := by
  rcases open_slice ht h with ⟨h0, _⟩ | ⟨a, len, cap, m, k, D, Pl, hcs, _, hl, hm, hmm, _, hi⟩
  · exact ⟨none, 0, 0, [], h0, Nat.le_refl _, Nat.zero_le _, Sees.nil _ _ _ _, fun _ h => by cases h⟩
  · have hlm : len ≤ m := by rw [hmm]; split <;> omega
    have key : ∀ i : Nat, i < len → ∃ y : α, good y ∧ ∀ j u, (E.cells y)[j]? = some u → W.cell? (a.add (i * E.sz + j)) = some u := by
      intro i hlt
      obtain ⟨cs', hc, htr⟩ := hi i (by omega)
      obtain ⟨y, rfl, hg⟩ := hel _ _ _ htr
      obtain ⟨_, hlen, hat⟩ := World.cells?_some hc
      refine ⟨y, hg, fun j u hu => ?_⟩
      have hj : j < P.cellsOf e := by rw [hsz, ← E.len y]; exact (List.getElem?_eq_some_iff.1 hu).1
      have := hat j hj
      rw [add_add, hsz] at this
      rw [this, hu]
    rcases Nat.eq_zero_or_pos len with h0 | h0
    · subst h0
      exact ⟨some a, 0, cap, [], hcs, hl, hm, Sees.nil _ _ _ _, fun _ h => by cases h⟩
    · have hspot : a.spot = none := by
        obtain ⟨y, _, hy⟩ := key 0 h0
        have hpos := E.pos
        have hlen := E.len y
        have h1 := hy 0 ((E.cells y)[0]'(by omega)) (List.getElem?_eq_getElem (by omega))
        simp only [Nat.zero_mul, Nat.zero_add] at h1
        rw [show a.add 0 = a by simp [Addr.add]] at h1
        unfold World.cell? at h1
        split at h1
        · split at h1
          · cases h1
          · rename_i hs; simpa using hs
        · cases h1
      obtain ⟨y0, _, _⟩ := key 0 h0
      have : Inhabited α := ⟨y0⟩
      obtain ⟨f, hf⟩ := choose_lt key
      refine ⟨some a, len, cap, (List.range len).map f, hcs, hl, hm, ⟨by simp, .inr ⟨a.block, a.off, by cases a; simp_all, ?_, ?_⟩⟩, ?_⟩
      · obtain ⟨_, hy⟩ := hf 0 h0
        have hpos := E.pos
        have hlen := E.len (f 0)
        have h1 := hy 0 ((E.cells (f 0))[0]'(by omega)) (List.getElem?_eq_getElem (by omega))
        have := World.block_lt_of_cell? W _ h1
        simp only [Addr.add] at this
        split at this <;> simpa using this
      · intro k x hx j u hu
        have hk : k < len := by have := (List.getElem?_eq_some_iff.1 hx).1; simpa using this
        have hx' : f k = x := by simpa [List.getElem?_map, List.getElem?_range, hk] using hx
        have := (hf k hk).2 j u (by rw [hx']; exact hu)
        rw [← this]
        unfold Addr.add
        split
        · rename_i h00; rw [Nat.add_assoc, h00, Nat.add_zero]; cases a; simp_all
        · rw [Nat.add_assoc]
      · intro x hx
        obtain ⟨i, hi, rfl⟩ := List.mem_map.1 hx
        exact (hf i (by simpa using hi)).1
/-- A slice that came in. -/
def SlArg {α : Type} (E : El α) (W : World) (A : Option Addr) (n c : Nat) (xs : List α) (good : α → Prop) : Prop := n ≤ c ∧ c ≤ maxLen ∧ Sees E W W.heap.size A n xs ∧ ∀ a ∈ xs, good a
theorem open_sl_val {α : Type} (E : El α) {t e : TypeId} {base : Nat} {v : Value} {d : DataW H} {p : List MemPlace} (good : α → Prop) (ht : P.underlying t = some (.slice e)) (hsz : P.cellsOf e = E.sz)
    (hel : ∀ fuel cs y, DataW.trod enc P W 0 spare held fuel e cs = some y → ∃ a, cs = E.cells a ∧ good a)
    (hv : Value.okWide P W .any base t v) (h : DataW.Trod enc P W 0 spare held t v d p) : ∃ A n c xs, v = .slice A n c ∧ SlArg E W A n c xs good := by
  obtain ⟨a, len, cap, rfl⟩ := okWide_slice ht hv
  obtain ⟨fuel, h⟩ := h
  obtain ⟨A, n, c, xs, e, h1, h2, h3, h4⟩ := open_sl E good ht hsz hel h
  exact ⟨A, n, c, xs, by simpa [Value.cells] using e, h1, h2, h3, h4⟩
theorem el_int {e : TypeId} (he : P.underlying e = some (.int .i64)) (fuel : Nat) (cs : List Value) (y : DataW H × List MemPlace) (h : DataW.trod enc P W 0 spare held fuel e cs = some y) :
    ∃ a, cs = elInt.cells a ∧ (-9223372036854775808 ≤ a ∧ a ≤ 9223372036854775807) := by
  obtain ⟨n, rfl, _, hw⟩ := DataW.trod_int he h
  exact ⟨n, rfl, i64_bd hw⟩
theorem el_str {e : TypeId} (he : P.underlying e = some .string) (fuel : Nat) (cs : List Value) (y : DataW H × List MemPlace) (h : DataW.trod enc P W 0 spare held fuel e cs = some y) :
    ∃ a, cs = elStr.cells a ∧ a.size ≤ maxLen := by
  obtain ⟨n, rfl, _, hw⟩ := DataW.trod_string he h
  exact ⟨n, rfl, hw⟩
end
end Go.Proofs.Ytjklphlgmlomjaa
/- How a network that can be read is opened. Conditions: none. -/
namespace Go.Proofs.Ytjklphlgmlomjaa
open Go.ChangeShapes Go.WideShapes Go.ChangeAt Go.RowKit Go.Deep Go.Joins
theorem cellsN : Try.prog.cellsOf 25 = 2 := by kernel_rfl
theorem cellsF : Try.prog.cellsOf 61 = 4 := by kernel_rfl
theorem cellsS : Try.prog.cellsOf 9 = 1 := by kernel_rfl
theorem cellsI : Try.prog.cellsOf 3 = 1 := by kernel_rfl
section
variable {H : Type} {enc : TypeId × Value → H} {W : World} {spare : Nat → Bool} {held : Bool}
set_option maxRecDepth 100000 in
theorem el_fib (fuel : Nat) (cs : List Value) (y : DataW H × List MemPlace) (h : DataW.trod enc Try.prog W 0 spare held fuel 61 cs = some y) : ∃ a, cs = elFib.cells a ∧ True := by
  obtain ⟨ys, n, _, _, hl, hyl, hf⟩ := DataW.trod_struct Try.underlying61 h
  rw [cellsF] at hl
  have hi : ∀ k, k < 4 → ∃ m : Int, (cs.drop k).take 1 = [.int .i64 m] := by
    intro k hk
    have hy : k < ys.length := by rw [hyl]; exact hk
    match k, hk with
    | 0, _ => have := hf 0 _ rfl; rw [List.getElem?_eq_getElem hy] at this; obtain ⟨m, hm, _⟩ := DataW.trod_int Try.underlying3 this; exact ⟨m, by simpa [cellsI] using hm⟩
    | 1, _ => have := hf 1 _ rfl; rw [List.getElem?_eq_getElem hy] at this; obtain ⟨m, hm, _⟩ := DataW.trod_int Try.underlying3 this; exact ⟨m, by simpa [cellsI] using hm⟩
    | 2, _ => have := hf 2 _ rfl; rw [List.getElem?_eq_getElem hy] at this; obtain ⟨m, hm, _⟩ := DataW.trod_int Try.underlying3 this; exact ⟨m, by simpa [cellsI] using hm⟩
    | 3, _ => have := hf 3 _ rfl; rw [List.getElem?_eq_getElem hy] at this; obtain ⟨m, hm, _⟩ := DataW.trod_int Try.underlying3 this; exact ⟨m, by simpa [cellsI] using hm⟩
  match cs, hl with
  | [v0, v1, v2, v3], _ =>
    obtain ⟨m0, h0⟩ := hi 0 (by omega)
    obtain ⟨m1, h1⟩ := hi 1 (by omega)
    obtain ⟨m2, h2⟩ := hi 2 (by omega)
    obtain ⟨m3, h3⟩ := hi 3 (by omega)
    simp at h0 h1 h2 h3
    exact ⟨⟨m0, m1, m2, m3⟩, by simp [elFib, h0, h1, h2, h3], trivial⟩
/-- A network that came in. -/
def NetArg (W : World) (A : Option Addr) (n c : Nat) (A' : Option Addr) (m d : Nat) (xs : List ByteArray) (fs : List Fib) : Prop :=
  SlArg elStr W A n c xs (fun s => s.size ≤ maxLen) ∧ SlArg elFib W A' m d fs (fun _ => True)
set_option maxRecDepth 100000 in
theorem open_net {base : Nat} {v : Value} {d : DataW H} {p : List MemPlace} (hv : Value.okWide Try.prog W .any base 25 v) (h : DataW.Trod enc Try.prog W 0 spare held 25 v d p) :
    ∃ A n c A' m d xs fs, v = .agg #[.slice A n c, .slice A' m d] ∧ NetArg W A n c A' m d xs fs := by
  obtain ⟨v0, v1, y0, y1, k, rfl, _, _, h0, h1⟩ := open_agg2 Try.underlying25 (by kernel_rfl) cellsN hv h
  obtain ⟨A, n, c, xs, e0, a1, a2, a3, a4⟩ := open_sl elStr (fun s => s.size ≤ maxLen) Try.underlying22 cellsS (el_str Try.underlying9) h0
  obtain ⟨A', m, d, fs, e1, b1, b2, b3, b4⟩ := open_sl elFib (fun _ => True) Try.underlying23 cellsF el_fib h1
  simp at e0 e1
  exact ⟨A, n, c, A', m, d, xs, fs, by rw [e0, e1], ⟨a1, a2, a3, a4⟩, ⟨b1, b2, b3, b4⟩⟩
end
end Go.Proofs.Ytjklphlgmlomjaa
/- FnExactAddFiber, walked. Conditions: none. -/
namespace Go.Proofs.Ytjklphlgmlomjaa.fnExactAddFiber
open Go.RowKit
set_option maxHeartbeats 2000000 in
set_option maxRecDepth 100000 in
theorem walk (w : World) {A0 E0 : Option Addr} {n0 c0 m0 d0 : Nat} {xs0 : List ByteArray} {fs0 : List Fib} (h0 : NetArg w A0 n0 c0 E0 m0 d0 xs0 fs0) (f1 : Fib) :
    Calls Try.prog 12 #[.agg #[.slice A0 n0 c0, .slice E0 m0 d0], .agg #[.int .i64 f1.a, .int .i64 f1.b, .int .i64 f1.len, .int .i64 f1.risk]] w fun e w' => e = .returned (.bool true) ∧ Below w.heap.size w w' := by
  obtain ⟨⟨h0nc, h0cm, h0A, h0x⟩, ⟨h0md, h0dm, h0F, _⟩⟩ := h0
  have hS := Led.nil w
  replace hS := hS.blk_ (w.heap.size) (by simp) 25 #[.slice A0 n0 c0, .slice E0 m0 d0]
  replace hS := hS.blk_ (w.heap.size + 1) (by simp) 61 #[.int .i64 f1.a, .int .i64 f1.b, .int .i64 f1.len, .int .i64 f1.risk]
  obtain ⟨r0, hr0⟩ : ∃ r, r = lessI 1048576 (netTot xs0 fs0) := ⟨_, rfl⟩
  have hlb0 := lessI_bd (left := 1048576) (t := (netTot xs0 fs0))
  rw [← hr0] at hlb0
  have HR0 := hid hr0
  clear hr0
  rcases hlb0 with ⟨hz0, _⟩ | ⟨hz0, hy0, hx0⟩
  case inl =>
    subst hz0
    go_enter Try.func12, Try.ntmps12
    go_wp2_with fail
    refine (szNetwork_any 1048576 _ (h0A.below hS.bl) (h0F.below hS.bl) hS.bl.size (by omega) (by omega) h0x (by omega) (by omega)).mono ?_
    rintro e W1 ⟨rfl, hb⟩; replace hS := hS.step hb; clear hb
    rw [← HR0.out]
    go_wp2_with fail
    go_ret
    exact ⟨rfl, hS.bl⟩
  have h0n : n0 ≤ 1048576 := by have := h0A.len; unfold netTot strTot at hx0; omega
  have h0m : m0 ≤ 1048576 := by have := h0F.len; unfold netTot strTot at hx0; omega
  have h0I := hid (show NetIs w A0 n0 c0 E0 m0 d0 xs0 fs0 from ⟨⟨h0nc, h0n⟩, ⟨h0md, h0m⟩, h0A, h0F, h0x⟩)
  clear hx0
  go_enter Try.func12, Try.ntmps12
  go_wp2_with fail
  refine (szNetwork_any 1048576 _ (h0A.below hS.bl) (h0F.below hS.bl) hS.bl.size (by omega) (by omega) h0x (by omega) (by omega)).mono ?_
  rintro e W1 ⟨rfl, hb⟩; replace hS := hS.step hb; clear hb
  rw [← HR0.out]
  -- the reference
  go_wp2_with fail
  obtain ⟨X0, hX0⟩ : ∃ L, addX xs0 fs0 f1 = L := ⟨_, rfl⟩
  have hlx0 := hid ((Nat.le_trans (add_small xs0 fs0 f1).1 (by decide) : (addX xs0 fs0 f1).length ≤ 1048576))
  rw [hX0] at hlx0
  obtain ⟨F0, hF0⟩ : ∃ L, addF xs0 fs0 f1 = L := ⟨_, rfl⟩
  have hlf0 := hid ((Nat.le_trans (add_small xs0 fs0 f1).2 (by decide) : (addF xs0 fs0 f1).length ≤ 1048576))
  rw [hF0] at hlf0
  apply share
  · intro rest
    have C0 : ∀ w', Cls W1 w' → w'.cell? ⟨w.heap.size, 0, none⟩ = some (.slice A0 n0 c0) := fun _ h => h.cell (hS.cell 1 0 rfl rfl)
    have C1 : ∀ w', Cls W1 w' → w'.cell? ⟨w.heap.size, 1, none⟩ = some (.slice E0 m0 d0) := fun _ h => h.cell (hS.cell 1 1 rfl rfl)
    have C2 : ∀ w', Cls W1 w' → w'.cell? ⟨w.heap.size + 1, 0, none⟩ = some (.int .i64 f1.a) := fun _ h => h.cell (hS.cell 0 0 rfl rfl)
    have C3 : ∀ w', Cls W1 w' → w'.cell? ⟨w.heap.size + 1, 1, none⟩ = some (.int .i64 f1.b) := fun _ h => h.cell (hS.cell 0 1 rfl rfl)
    have C4 : ∀ w', Cls W1 w' → w'.cell? ⟨w.heap.size + 1, 2, none⟩ = some (.int .i64 f1.len) := fun _ h => h.cell (hS.cell 0 2 rfl rfl)
    have C5 : ∀ w', Cls W1 w' → w'.cell? ⟨w.heap.size + 1, 3, none⟩ = some (.int .i64 f1.risk) := fun _ h => h.cell (hS.cell 0 3 rfl rfl)
    have HL := hid (fun w' (h : Cls W1 w') => hS.step h)
    go_region_held3 (fun w' => Cls W1 w') (first | exact Cls.refl _ | exact Cls.drew _ | assumption | exact Cls.next (by assumption) (by assumption) | exact bl_alloc (by assumption) _ | exact bl_alloc (Cls.drew _) _ | exact (bl_alloc (Cls.refl _) _).drew | exact bl_set (bl_set (by assumption) _ (by first | exact Nat.le_refl _ | exact Below.size hclw0 | exact Below.size hclw1)) _ (by first | exact Nat.le_refl _ | exact Below.size hclw0 | exact Below.size hclw1))
      (first
        | (go_at_call 18; first
            | (have hA := hid (((HL.out W1 (Cls.refl _)).blk_ W1.heap.size rfl 35 #[.slice none 0 0, .slice none 0 0]).step (Cls.drew _)); have hcc := (toNetwork_own (c := c0) (d := d0) ((W1.alloc (.cells #[.slice none 0 0, .slice none 0 0] 35)).drew) (h0I.out.grow hA.out.bl).strs (h0I.out.grow hA.out.bl).fibs (Nat.le_refl _) h0n h0m); with_reducible refine hcc.mono ?_; clear hcc; rintro e ww0 ⟨Awt0, cwt0, Ewt0, dwt0, rfl, ho_w0, hb_w0⟩; have hLw0 := hA.out.net hb_w0 ho_w0; have hclw0 : Cls W1 _ := Cls.next hb_w0 (by assumption); clear hA)
            | (have hA := hid (HL.out W1.drew (Cls.drew _)); have hcc := (toNetwork_own (c := c0) (d := d0) (W1.drew) (h0I.out.grow hA.out.bl).strs (h0I.out.grow hA.out.bl).fibs (Nat.le_refl _) h0n h0m); with_reducible refine hcc.mono ?_; clear hcc; rintro e ww0 ⟨Awt0, cwt0, Ewt0, dwt0, rfl, ho_w0, hb_w0⟩; have hLw0 := hA.out.net hb_w0 ho_w0; have hclw0 : Cls W1 _ := Cls.next hb_w0 (by assumption); clear hA))
        | (go_at_call 46; first
            | (have hA := hid (hLw0.blk_ ww0.heap.size rfl 35 #[.slice none 0 0, .slice none 0 0]); have hcc := (toFiber_any f1 (ww0.alloc (.cells #[.slice none 0 0, .slice none 0 0] 35))); unfold fibV at hcc; with_reducible refine hcc.mono ?_; clear hcc; rintro e ww1 ⟨rfl, hb_w1⟩; have hLw1 := hA.out.step hb_w1; have hclw1 : Cls W1 _ := Cls.next hb_w1 (by assumption); clear hA)
            | (have hA := hid (hLw0); have hcc := (toFiber_any f1 ww0); unfold fibV at hcc; with_reducible refine hcc.mono ?_; clear hcc; rintro e ww1 ⟨rfl, hb_w1⟩; have hLw1 := hA.out.step hb_w1; have hclw1 : Cls W1 _ := Cls.next hb_w1 (by assumption); clear hA))
        | (go_at_call 45; first
            | (have hA := hid (hLw1.blk_ ww1.heap.size rfl 35 #[.slice none 0 0, .slice none 0 0]); have hcc := specAdd (f := f1) _ (hA.out.netIs 1 rfl h0n h0m h0x); with_reducible refine hcc.mono ?_; clear hcc; rintro e wwr ⟨Aw0, cw0, Ew0, dw0, rfl, ho0, hb⟩; have hR := hA.out.net hb ho0; have hclwr : Cls W1 _ := Cls.next hb (by assumption); have q0 : wwr.cell? _ = some (.slice none 0 0) := hR.cell 1 0 rfl rfl; have z0 := hR.frozen 1 0 rfl; have q1 : wwr.cell? _ = some (.slice none 0 0) := hR.cell 1 1 rfl rfl; have z1 := hR.frozen 1 1 rfl; clear hA)
            | (have hA := hid (hLw1); have hcc := specAdd (f := f1) _ (hA.out.netIs 1 rfl h0n h0m h0x); with_reducible refine hcc.mono ?_; clear hcc; rintro e wwr ⟨Aw0, cw0, Ew0, dw0, rfl, ho0, hb⟩; have hR := hA.out.net hb ho0; have hclwr : Cls W1 _ := Cls.next hb (by assumption); have q0 : wwr.cell? _ = some (.slice none 0 0) := hR.cell 1 0 rfl rfl; have z0 := hR.frozen 1 0 rfl; have q1 : wwr.cell? _ = some (.slice none 0 0) := hR.cell 1 1 rfl rfl; have z1 := hR.frozen 1 1 rfl; clear hA)
            | (have hA := hid (hLw1); have hcc := specAdd (f := f1) _ (hA.out.netIs 0 rfl h0n h0m h0x); with_reducible refine hcc.mono ?_; clear hcc; rintro e wwr ⟨Aw0, cw0, Ew0, dw0, rfl, ho0, hb⟩; have hR := hA.out.net hb ho0; have hclwr : Cls W1 _ := Cls.next hb (by assumption); have q0 : wwr.cell? _ = some (.slice none 0 0) := hR.cell 2 0 rfl rfl; have z0 := hR.frozen 2 0 rfl; have q1 : wwr.cell? _ = some (.slice none 0 0) := hR.cell 2 1 rfl rfl; have z1 := hR.frozen 2 1 rfl; clear hA)
            | (have hA := hid (hLw1); have hcc := specAdd (f := f1) _ (hA.out.netIs 0 rfl h0n h0m h0x); with_reducible refine hcc.mono ?_; clear hcc; rintro e wwr ⟨Aw0, cw0, Ew0, dw0, rfl, ho0, hb⟩; have hR := hA.out.net hb ho0; have hclwr : Cls W1 _ := Cls.next hb (by assumption); clear hA)))
    rw [hX0, hF0] at hR
    have hS8 := hR.blk_ wwr.heap.size rfl 35 #[.slice Aw0 X0.length cw0, .slice Ew0 F0.length dw0]
    have hS9 := hS8.pick [0, 1, 2, 3, 4] (by decide) rfl
    simp only [List.filterMap_cons, List.filterMap_nil, List.getElem?_cons_zero, List.getElem?_cons_succ] at hS9
    clear hS8 hR HL C0 C1 C2 C3 C4 C5 hb hclwr ho0 hLw0 hb_w0 hclw0 ho_w0 hLw1 hb_w1 hclw1
    obtain ⟨W2, hWn⟩ : ∃ W, W = wwr.alloc (.cells #[.slice Aw0 X0.length cw0, .slice Ew0 F0.length dw0] 35) := ⟨_, rfl⟩
    rw [← hWn] at hS9 ⊢
    clear hWn
    obtain ⟨gZw, hgn⟩ : ∃ g : Nat, g = wwr.heap.size := ⟨_, rfl⟩
    rw [← hgn] at hS9 ⊢
    clear hgn
    generalize (W1.drew).heap.size = bsw0 at hS9
    generalize ww1.heap.size = bsw2 at hS9
    repeat (rename_i hh; clear hh)
    revert hS9
    revert W2
    revert gZw
    revert bsw0
    revert bsw2
    revert Awt0
    revert cwt0
    revert Ewt0
    revert dwt0
    revert Aw0
    revert cw0
    revert Ew0
    revert dw0
    exact rest.out
    rw [hX0, hF0] at hR
    have hS8 := ((hR.set 1 rfl 0 (.slice Aw0 X0.length cw0)).set 1 rfl 1 (.slice Ew0 F0.length dw0))
    have hS9 := hS8.pick [1, 0, 2, 3, 4] (by decide) rfl
    simp only [List.filterMap_cons, List.filterMap_nil, List.getElem?_cons_zero, List.getElem?_cons_succ, List.set_cons_zero, List.set_cons_succ] at hS9
    clear hS8 hR HL C0 C1 C2 C3 C4 C5 hb hclwr ho0 hLw0 hb_w0 hclw0 ho_w0 hLw1 hb_w1 hclw1 q0 z0 q1 z1
    obtain ⟨W2, hWn⟩ : ∃ W, W = ((wwr.setCell ⟨ww1.heap.size, 0, none⟩ (.slice Aw0 X0.length cw0)).setCell ⟨ww1.heap.size, 1, none⟩ (.slice Ew0 F0.length dw0)) := ⟨_, rfl⟩
    rw [← hWn] at hS9 ⊢
    clear hWn
    obtain ⟨gZw, hgn⟩ : ∃ g : Nat, g = ww1.heap.size := ⟨_, rfl⟩
    rw [← hgn] at hS9 ⊢
    clear hgn
    generalize (W1.drew).heap.size = bsw0 at hS9
    generalize (ww1.alloc (.cells #[.slice none 0 0, .slice none 0 0] 35)).heap.size = bsw2 at hS9
    repeat (rename_i hh; clear hh)
    revert hS9
    revert W2
    revert gZw
    revert bsw0
    revert bsw2
    revert Awt0
    revert cwt0
    revert Ewt0
    revert dwt0
    revert Aw0
    revert cw0
    revert Ew0
    revert dw0
    exact rest.out
    rw [hX0, hF0] at hR
    have hS8 := ((hR.set 1 rfl 0 (.slice Aw0 X0.length cw0)).set 1 rfl 1 (.slice Ew0 F0.length dw0))
    have hS9 := hS8.pick [1, 0, 2, 3, 4] (by decide) rfl
    simp only [List.filterMap_cons, List.filterMap_nil, List.getElem?_cons_zero, List.getElem?_cons_succ, List.set_cons_zero, List.set_cons_succ] at hS9
    clear hS8 hR HL C0 C1 C2 C3 C4 C5 hb hclwr ho0 hLw0 hb_w0 hclw0 ho_w0 hLw1 hb_w1 hclw1 q0 z0 q1 z1
    obtain ⟨W2, hWn⟩ : ∃ W, W = ((wwr.setCell ⟨ww0.heap.size, 0, none⟩ (.slice Aw0 X0.length cw0)).setCell ⟨ww0.heap.size, 1, none⟩ (.slice Ew0 F0.length dw0)) := ⟨_, rfl⟩
    rw [← hWn] at hS9 ⊢
    clear hWn
    obtain ⟨gZw, hgn⟩ : ∃ g : Nat, g = ww0.heap.size := ⟨_, rfl⟩
    rw [← hgn] at hS9 ⊢
    clear hgn
    generalize (W1.drew).heap.size = bsw0 at hS9
    generalize ww1.heap.size = bsw2 at hS9
    repeat (rename_i hh; clear hh)
    revert hS9
    revert W2
    revert gZw
    revert bsw0
    revert bsw2
    revert Awt0
    revert cwt0
    revert Ewt0
    revert dwt0
    revert Aw0
    revert cw0
    revert Ew0
    revert dw0
    exact rest.out
    rw [hX0, hF0] at hR
    have hS8 := ((hR.set 2 rfl 0 (.slice Aw0 X0.length cw0)).set 2 rfl 1 (.slice Ew0 F0.length dw0))
    have hS9 := hS8.pick [2, 0, 1, 3, 4] (by decide) rfl
    simp only [List.filterMap_cons, List.filterMap_nil, List.getElem?_cons_zero, List.getElem?_cons_succ, List.set_cons_zero, List.set_cons_succ] at hS9
    clear hS8 hR HL C0 C1 C2 C3 C4 C5 hb hclwr ho0 hLw0 hb_w0 hclw0 ho_w0 hLw1 hb_w1 hclw1 q0 z0 q1 z1
    obtain ⟨W2, hWn⟩ : ∃ W, W = ((wwr.setCell ⟨W1.heap.size, 0, none⟩ (.slice Aw0 X0.length cw0)).setCell ⟨W1.heap.size, 1, none⟩ (.slice Ew0 F0.length dw0)) := ⟨_, rfl⟩
    rw [← hWn] at hS9 ⊢
    clear hWn
    obtain ⟨gZw, hgn⟩ : ∃ g : Nat, g = W1.heap.size := ⟨_, rfl⟩
    rw [← hgn] at hS9 ⊢
    clear hgn
    generalize ((W1.alloc (.cells #[.slice none 0 0, .slice none 0 0] 35)).drew).heap.size = bsw0 at hS9
    generalize ww1.heap.size = bsw2 at hS9
    repeat (rename_i hh; clear hh)
    revert hS9
    revert W2
    revert gZw
    revert bsw0
    revert bsw2
    revert Awt0
    revert cwt0
    revert Ewt0
    revert dwt0
    revert Aw0
    revert cw0
    revert Ew0
    revert dw0
    exact rest.out
  clear hS
  intro dw0 Ew0 cw0 Aw0 dwt0 Ewt0 cwt0 Awt0 bsw2 bsw0 gZw W2 hS
  -- the program on copies that are kept
  have q0 := hS.cell 4 0 rfl rfl
  have q1 := hS.cell 4 1 rfl rfl
  go_wp2_with fail
  refine (toNetwork_own _ (h0I.out.grow hS.bl).strs (h0I.out.grow hS.bl).fibs (Nat.le_refl _) h0n h0m).mono ?_
  rintro e W3 ⟨Ax0, cx0, Ex0, dx0, rfl, ho, hb⟩
  replace hS := hS.net hb ho
  clear hb ho
  clear q0 q1
  replace hS := hS.blk_ (W3.heap.size) (by simp) 35 #[.slice Ax0 n0 cx0, .slice Ex0 m0 dx0]
  go_wp2_with fail
  generalize (W3.alloc (.cells #[.slice Ax0 n0 cx0, .slice Ex0 m0 dx0] 35)) = W4 at *
  apply share
  · intro rest
    have C0 : ∀ w', Cls W4 w' → w'.cell? ⟨W3.heap.size, 0, none⟩ = some (.slice Ax0 n0 cx0) := fun _ h => h.cell (hS.cell 0 0 rfl rfl)
    have C1 : ∀ w', Cls W4 w' → w'.cell? ⟨W3.heap.size, 1, none⟩ = some (.slice Ex0 m0 dx0) := fun _ h => h.cell (hS.cell 0 1 rfl rfl)
    have C2 : ∀ w', Cls W4 w' → w'.cell? ⟨w.heap.size + 1, 0, none⟩ = some (.int .i64 f1.a) := fun _ h => h.cell (hS.cell 5 0 rfl rfl)
    have C3 : ∀ w', Cls W4 w' → w'.cell? ⟨w.heap.size + 1, 1, none⟩ = some (.int .i64 f1.b) := fun _ h => h.cell (hS.cell 5 1 rfl rfl)
    have C4 : ∀ w', Cls W4 w' → w'.cell? ⟨w.heap.size + 1, 2, none⟩ = some (.int .i64 f1.len) := fun _ h => h.cell (hS.cell 5 2 rfl rfl)
    have C5 : ∀ w', Cls W4 w' → w'.cell? ⟨w.heap.size + 1, 3, none⟩ = some (.int .i64 f1.risk) := fun _ h => h.cell (hS.cell 5 3 rfl rfl)
    have HL := hid (fun w' (h : Cls W4 w') => hS.step h)
    go_region_held3 (fun w' => Cls W4 w') (first | exact Cls.refl _ | exact Cls.drew _ | assumption | exact Cls.next (by assumption) (by assumption) | exact bl_alloc (by assumption) _ | exact bl_alloc (Cls.drew _) _ | exact (bl_alloc (Cls.refl _) _).drew | exact bl_set (bl_set (by assumption) _ (by first | exact Nat.le_refl _ | exact Below.size hclg0)) _ (by first | exact Nat.le_refl _ | exact Below.size hclg0))
      (first
        | (go_at_call 46; first
            | (have hA := hid (((HL.out W4 (Cls.refl _)).blk_ W4.heap.size rfl 35 #[.slice none 0 0, .slice none 0 0]).step (Cls.drew _)); have hcc := (toFiber_any f1 ((W4.alloc (.cells #[.slice none 0 0, .slice none 0 0] 35)).drew)); unfold fibV at hcc; with_reducible refine hcc.mono ?_; clear hcc; rintro e wg0 ⟨rfl, hb_g0⟩; have hLg0 := hA.out.step hb_g0; have hclg0 : Cls W4 _ := Cls.next hb_g0 (by assumption); clear hA)
            | (have hA := hid (HL.out W4.drew (Cls.drew _)); have hcc := (toFiber_any f1 (W4.drew)); unfold fibV at hcc; with_reducible refine hcc.mono ?_; clear hcc; rintro e wg0 ⟨rfl, hb_g0⟩; have hLg0 := hA.out.step hb_g0; have hclg0 : Cls W4 _ := Cls.next hb_g0 (by assumption); clear hA))
        | (go_at_call 47; first
            | (have hA := hid (hLg0.blk_ wg0.heap.size rfl 35 #[.slice none 0 0, .slice none 0 0]); have hcc := implAdd (f := f1) _ (hA.out.netIs 2 rfl h0n h0m h0x); with_reducible refine hcc.mono ?_; clear hcc; rintro e wgr ⟨Ag0, cg0, Eg0, dg0, rfl, ho0, hb⟩; have hR := hA.out.net hb ho0; have hclgr : Cls W4 _ := Cls.next hb (by assumption); have q0 : wgr.cell? _ = some (.slice none 0 0) := hR.cell 1 0 rfl rfl; have z0 := hR.frozen 1 0 rfl; have q1 : wgr.cell? _ = some (.slice none 0 0) := hR.cell 1 1 rfl rfl; have z1 := hR.frozen 1 1 rfl; clear hA)
            | (have hA := hid (hLg0); have hcc := implAdd (f := f1) _ (hA.out.netIs 2 rfl h0n h0m h0x); with_reducible refine hcc.mono ?_; clear hcc; rintro e wgr ⟨Ag0, cg0, Eg0, dg0, rfl, ho0, hb⟩; have hR := hA.out.net hb ho0; have hclgr : Cls W4 _ := Cls.next hb (by assumption); have q0 : wgr.cell? _ = some (.slice none 0 0) := hR.cell 1 0 rfl rfl; have z0 := hR.frozen 1 0 rfl; have q1 : wgr.cell? _ = some (.slice none 0 0) := hR.cell 1 1 rfl rfl; have z1 := hR.frozen 1 1 rfl; clear hA)
            | (have hA := hid (hLg0); have hcc := implAdd (f := f1) _ (hA.out.netIs 1 rfl h0n h0m h0x); with_reducible refine hcc.mono ?_; clear hcc; rintro e wgr ⟨Ag0, cg0, Eg0, dg0, rfl, ho0, hb⟩; have hR := hA.out.net hb ho0; have hclgr : Cls W4 _ := Cls.next hb (by assumption); clear hA)))
    rw [hX0, hF0] at hR
    have hS8 := hR.blk_ wgr.heap.size rfl 35 #[.slice Ag0 X0.length cg0, .slice Eg0 F0.length dg0]
    have hS9 := hS8.pick [0, 1, 2, 3, 4, 5, 6, 7, 8] (by decide) rfl
    simp only [List.filterMap_cons, List.filterMap_nil, List.getElem?_cons_zero, List.getElem?_cons_succ] at hS9
    clear hS8 hR HL C0 C1 C2 C3 C4 C5 hb hclgr ho0 hLg0 hb_g0 hclg0
    obtain ⟨W5, hWn⟩ : ∃ W, W = wgr.alloc (.cells #[.slice Ag0 X0.length cg0, .slice Eg0 F0.length dg0] 35) := ⟨_, rfl⟩
    rw [← hWn] at hS9 ⊢
    clear hWn
    obtain ⟨gZg, hgn⟩ : ∃ g : Nat, g = wgr.heap.size := ⟨_, rfl⟩
    rw [← hgn] at hS9 ⊢
    clear hgn
    generalize wg0.heap.size = bsg1 at hS9
    repeat (rename_i hh; clear hh)
    revert hS9
    revert W5
    revert gZg
    revert bsg1
    revert Ag0
    revert cg0
    revert Eg0
    revert dg0
    exact rest.out
    rw [hX0, hF0] at hR
    have hS8 := ((hR.set 1 rfl 0 (.slice Ag0 X0.length cg0)).set 1 rfl 1 (.slice Eg0 F0.length dg0))
    have hS9 := hS8.pick [1, 0, 2, 3, 4, 5, 6, 7, 8] (by decide) rfl
    simp only [List.filterMap_cons, List.filterMap_nil, List.getElem?_cons_zero, List.getElem?_cons_succ, List.set_cons_zero, List.set_cons_succ] at hS9
    clear hS8 hR HL C0 C1 C2 C3 C4 C5 hb hclgr ho0 hLg0 hb_g0 hclg0 q0 z0 q1 z1
    obtain ⟨W5, hWn⟩ : ∃ W, W = ((wgr.setCell ⟨wg0.heap.size, 0, none⟩ (.slice Ag0 X0.length cg0)).setCell ⟨wg0.heap.size, 1, none⟩ (.slice Eg0 F0.length dg0)) := ⟨_, rfl⟩
    rw [← hWn] at hS9 ⊢
    clear hWn
    obtain ⟨gZg, hgn⟩ : ∃ g : Nat, g = wg0.heap.size := ⟨_, rfl⟩
    rw [← hgn] at hS9 ⊢
    clear hgn
    generalize (wg0.alloc (.cells #[.slice none 0 0, .slice none 0 0] 35)).heap.size = bsg1 at hS9
    repeat (rename_i hh; clear hh)
    revert hS9
    revert W5
    revert gZg
    revert bsg1
    revert Ag0
    revert cg0
    revert Eg0
    revert dg0
    exact rest.out
    rw [hX0, hF0] at hR
    have hS8 := ((hR.set 1 rfl 0 (.slice Ag0 X0.length cg0)).set 1 rfl 1 (.slice Eg0 F0.length dg0))
    have hS9 := hS8.pick [1, 0, 2, 3, 4, 5, 6, 7, 8] (by decide) rfl
    simp only [List.filterMap_cons, List.filterMap_nil, List.getElem?_cons_zero, List.getElem?_cons_succ, List.set_cons_zero, List.set_cons_succ] at hS9
    clear hS8 hR HL C0 C1 C2 C3 C4 C5 hb hclgr ho0 hLg0 hb_g0 hclg0 q0 z0 q1 z1
    obtain ⟨W5, hWn⟩ : ∃ W, W = ((wgr.setCell ⟨W4.heap.size, 0, none⟩ (.slice Ag0 X0.length cg0)).setCell ⟨W4.heap.size, 1, none⟩ (.slice Eg0 F0.length dg0)) := ⟨_, rfl⟩
    rw [← hWn] at hS9 ⊢
    clear hWn
    obtain ⟨gZg, hgn⟩ : ∃ g : Nat, g = W4.heap.size := ⟨_, rfl⟩
    rw [← hgn] at hS9 ⊢
    clear hgn
    generalize wg0.heap.size = bsg1 at hS9
    repeat (rename_i hh; clear hh)
    revert hS9
    revert W5
    revert gZg
    revert bsg1
    revert Ag0
    revert cg0
    revert Eg0
    revert dg0
    exact rest.out
  clear hS
  intro dg0 Eg0 cg0 Ag0 bsg1 gZg W5 hS
  -- the results are equal
  have q0 := hS.cell 0 0 rfl rfl
  have q1 := hS.cell 0 1 rfl rfl
  have q2 := hS.cell 4 0 rfl rfl
  have q3 := hS.cell 4 1 rfl rfl
  go_wp2_with fail
  refine (eqN_led hS 1 5 rfl rfl hlx0.out hlf0.out).mono ?_
  rintro e W6 ⟨rfl, hS1⟩; replace hS := hS1; clear hS1
  clear q0 q1 q2 q3
  -- the arguments are as they were
  have C0 : ∀ w', Cls W6 w' → w'.cell? ⟨w.heap.size, 0, none⟩ = some (.slice A0 n0 c0) := fun _ h => h.cell (hS.cell 8 0 rfl rfl)
  have C1 : ∀ w', Cls W6 w' → w'.cell? ⟨w.heap.size, 1, none⟩ = some (.slice E0 m0 d0) := fun _ h => h.cell (hS.cell 8 1 rfl rfl)
  have C2 : ∀ w', Cls W6 w' → w'.cell? ⟨W3.heap.size, 0, none⟩ = some (.slice Ax0 n0 cx0) := fun _ h => h.cell (hS.cell 2 0 rfl rfl)
  have C3 : ∀ w', Cls W6 w' → w'.cell? ⟨W3.heap.size, 1, none⟩ = some (.slice Ex0 m0 dx0) := fun _ h => h.cell (hS.cell 2 1 rfl rfl)
  have HL := hid (fun w' (h : Cls W6 w') => hS.step h)
  go_wp2_with fail
  go_region_held3 (fun w' => Cls W6 w') (first | exact Cls.drew _ | exact Cls.next (by assumption) (by assumption))
    (first
      | (go_at_call 18; refine (toNetwork_own _ (h0I.out.grow (HL.out _ (by assumption)).bl).strs (h0I.out.grow (HL.out _ (by assumption)).bl).fibs (Nat.le_refl _) h0n h0m).mono ?_; rintro e w' ⟨Ay0, cy0, Ey0, dy0, rfl, ho1, hb1⟩; have hL1 := (HL.out _ (by assumption)).net hb1 ho1)
      | (go_at_call 21; refine (eqN_led2 hL1 4 0 rfl rfl h0n h0m).mono ?_; rintro e w' ⟨rfl, hS2, hb2⟩))
  clear HL hL1 ho1 hb1 hb2 C0 C1 C2 C3
  replace hS := hS2.drop 1
  clear hS2
  dsimp only [List.drop] at hS
  generalize w' = W7 at *
  -- marks
  have q0 := hS.cell 2 0 rfl rfl
  have q1 := hS.cell 2 1 rfl rfl
  go_wp2_with fail
  refine (markN_led hS 3 rfl _ h0n h0m (by omega) (by omega)).mono ?_
  rintro e W8 ⟨rfl, hS1⟩; replace hS := hS1; clear hS1; dsimp only [List.set] at hS
  clear q0 q1
  have q0 := hS.cell 0 0 rfl rfl
  have q1 := hS.cell 0 1 rfl rfl
  have q2 := hS.cell 4 0 rfl rfl
  have q3 := hS.cell 4 1 rfl rfl
  go_wp2_with fail
  refine (eqN_led hS 1 5 rfl rfl hlx0.out hlf0.out).mono ?_
  rintro e W9 ⟨rfl, hS1⟩; replace hS := hS1; clear hS1
  clear q0 q1 q2 q3
  have q0 := hS.cell 0 0 rfl rfl
  have q1 := hS.cell 0 1 rfl rfl
  go_wp2_with fail
  refine (markN_led hS 1 rfl _ hlx0.out hlf0.out (by have := hlx0.out; have := hlf0.out; omega) (by have := hlx0.out; have := hlf0.out; omega)).mono ?_
  rintro e W10 ⟨rfl, hS1⟩; replace hS := hS1; clear hS1; dsimp only [List.set] at hS
  clear q0 q1
  have q0 := hS.cell 0 0 rfl rfl
  have q1 := hS.cell 0 1 rfl rfl
  go_wp2_with fail
  refine (heldN_led hS 1 _ rfl hlx0.out hlf0.out (by have := hlx0.out; have := hlf0.out; omega) (by have := hlx0.out; have := hlf0.out; omega)).mono ?_
  rintro e W11 ⟨rfl, hS1⟩; replace hS := hS1; clear hS1
  clear q0 q1
  -- once more
  go_wp2_with fail
  apply share
  · intro rest
    have C0 : ∀ w', Cls W11 w' → w'.cell? ⟨w.heap.size, 0, none⟩ = some (.slice A0 n0 c0) := fun _ h => h.cell (hS.cell 8 0 rfl rfl)
    have C1 : ∀ w', Cls W11 w' → w'.cell? ⟨w.heap.size, 1, none⟩ = some (.slice E0 m0 d0) := fun _ h => h.cell (hS.cell 8 1 rfl rfl)
    have C2 : ∀ w', Cls W11 w' → w'.cell? ⟨w.heap.size + 1, 0, none⟩ = some (.int .i64 f1.a) := fun _ h => h.cell (hS.cell 7 0 rfl rfl)
    have C3 : ∀ w', Cls W11 w' → w'.cell? ⟨w.heap.size + 1, 1, none⟩ = some (.int .i64 f1.b) := fun _ h => h.cell (hS.cell 7 1 rfl rfl)
    have C4 : ∀ w', Cls W11 w' → w'.cell? ⟨w.heap.size + 1, 2, none⟩ = some (.int .i64 f1.len) := fun _ h => h.cell (hS.cell 7 2 rfl rfl)
    have C5 : ∀ w', Cls W11 w' → w'.cell? ⟨w.heap.size + 1, 3, none⟩ = some (.int .i64 f1.risk) := fun _ h => h.cell (hS.cell 7 3 rfl rfl)
    have HL := hid (fun w' (h : Cls W11 w') => hS.step h)
    go_region_held3 (fun w' => Cls W11 w') (first | exact Cls.refl _ | exact Cls.drew _ | assumption | exact Cls.next (by assumption) (by assumption) | exact bl_alloc (by assumption) _ | exact bl_alloc (Cls.drew _) _ | exact (bl_alloc (Cls.refl _) _).drew | exact bl_set (bl_set (by assumption) _ (by first | exact Nat.le_refl _ | exact Below.size hclh0 | exact Below.size hclh1)) _ (by first | exact Nat.le_refl _ | exact Below.size hclh0 | exact Below.size hclh1))
      (first
        | (go_at_call 18; first
            | (have hA := hid (((HL.out W11 (Cls.refl _)).blk_ W11.heap.size rfl 35 #[.slice none 0 0, .slice none 0 0]).step (Cls.drew _)); have hcc := (toNetwork_own (c := c0) (d := d0) ((W11.alloc (.cells #[.slice none 0 0, .slice none 0 0] 35)).drew) (h0I.out.grow hA.out.bl).strs (h0I.out.grow hA.out.bl).fibs (Nat.le_refl _) h0n h0m); with_reducible refine hcc.mono ?_; clear hcc; rintro e wh0 ⟨Aht0, cht0, Eht0, dht0, rfl, ho_h0, hb_h0⟩; have hLh0 := hA.out.net hb_h0 ho_h0; have hclh0 : Cls W11 _ := Cls.next hb_h0 (by assumption); clear hA)
            | (have hA := hid (HL.out W11.drew (Cls.drew _)); have hcc := (toNetwork_own (c := c0) (d := d0) (W11.drew) (h0I.out.grow hA.out.bl).strs (h0I.out.grow hA.out.bl).fibs (Nat.le_refl _) h0n h0m); with_reducible refine hcc.mono ?_; clear hcc; rintro e wh0 ⟨Aht0, cht0, Eht0, dht0, rfl, ho_h0, hb_h0⟩; have hLh0 := hA.out.net hb_h0 ho_h0; have hclh0 : Cls W11 _ := Cls.next hb_h0 (by assumption); clear hA))
        | (go_at_call 46; first
            | (have hA := hid (hLh0.blk_ wh0.heap.size rfl 35 #[.slice none 0 0, .slice none 0 0]); have hcc := (toFiber_any f1 (wh0.alloc (.cells #[.slice none 0 0, .slice none 0 0] 35))); unfold fibV at hcc; with_reducible refine hcc.mono ?_; clear hcc; rintro e wh1 ⟨rfl, hb_h1⟩; have hLh1 := hA.out.step hb_h1; have hclh1 : Cls W11 _ := Cls.next hb_h1 (by assumption); clear hA)
            | (have hA := hid (hLh0); have hcc := (toFiber_any f1 wh0); unfold fibV at hcc; with_reducible refine hcc.mono ?_; clear hcc; rintro e wh1 ⟨rfl, hb_h1⟩; have hLh1 := hA.out.step hb_h1; have hclh1 : Cls W11 _ := Cls.next hb_h1 (by assumption); clear hA))
        | (go_at_call 47; first
            | (have hA := hid (hLh1.blk_ wh1.heap.size rfl 35 #[.slice none 0 0, .slice none 0 0]); have hcc := implAdd (f := f1) _ (hA.out.netIs 1 rfl h0n h0m h0x); with_reducible refine hcc.mono ?_; clear hcc; rintro e whr ⟨Ah0, ch0, Eh0, dh0, rfl, ho0, hb⟩; have hR := hA.out.net hb ho0; have hclhr : Cls W11 _ := Cls.next hb (by assumption); have q0 : whr.cell? _ = some (.slice none 0 0) := hR.cell 1 0 rfl rfl; have z0 := hR.frozen 1 0 rfl; have q1 : whr.cell? _ = some (.slice none 0 0) := hR.cell 1 1 rfl rfl; have z1 := hR.frozen 1 1 rfl; clear hA)
            | (have hA := hid (hLh1); have hcc := implAdd (f := f1) _ (hA.out.netIs 1 rfl h0n h0m h0x); with_reducible refine hcc.mono ?_; clear hcc; rintro e whr ⟨Ah0, ch0, Eh0, dh0, rfl, ho0, hb⟩; have hR := hA.out.net hb ho0; have hclhr : Cls W11 _ := Cls.next hb (by assumption); have q0 : whr.cell? _ = some (.slice none 0 0) := hR.cell 1 0 rfl rfl; have z0 := hR.frozen 1 0 rfl; have q1 : whr.cell? _ = some (.slice none 0 0) := hR.cell 1 1 rfl rfl; have z1 := hR.frozen 1 1 rfl; clear hA)
            | (have hA := hid (hLh1); have hcc := implAdd (f := f1) _ (hA.out.netIs 0 rfl h0n h0m h0x); with_reducible refine hcc.mono ?_; clear hcc; rintro e whr ⟨Ah0, ch0, Eh0, dh0, rfl, ho0, hb⟩; have hR := hA.out.net hb ho0; have hclhr : Cls W11 _ := Cls.next hb (by assumption); have q0 : whr.cell? _ = some (.slice none 0 0) := hR.cell 2 0 rfl rfl; have z0 := hR.frozen 2 0 rfl; have q1 : whr.cell? _ = some (.slice none 0 0) := hR.cell 2 1 rfl rfl; have z1 := hR.frozen 2 1 rfl; clear hA)
            | (have hA := hid (hLh1); have hcc := implAdd (f := f1) _ (hA.out.netIs 0 rfl h0n h0m h0x); with_reducible refine hcc.mono ?_; clear hcc; rintro e whr ⟨Ah0, ch0, Eh0, dh0, rfl, ho0, hb⟩; have hR := hA.out.net hb ho0; have hclhr : Cls W11 _ := Cls.next hb (by assumption); clear hA)))
    rw [hX0, hF0] at hR
    have hS8 := hR.blk_ whr.heap.size rfl 35 #[.slice Ah0 X0.length ch0, .slice Eh0 F0.length dh0]
    have hS9 := hS8.pick [0, 1, 2, 3, 4, 5, 6, 7, 8, 9, 10, 11] (by decide) rfl
    simp only [List.filterMap_cons, List.filterMap_nil, List.getElem?_cons_zero, List.getElem?_cons_succ] at hS9
    clear hS8 hR HL C0 C1 C2 C3 C4 C5 hb hclhr ho0 hLh0 hb_h0 hclh0 ho_h0 hLh1 hb_h1 hclh1
    obtain ⟨W12, hWn⟩ : ∃ W, W = whr.alloc (.cells #[.slice Ah0 X0.length ch0, .slice Eh0 F0.length dh0] 35) := ⟨_, rfl⟩
    rw [← hWn] at hS9 ⊢
    clear hWn
    obtain ⟨gZh, hgn⟩ : ∃ g : Nat, g = whr.heap.size := ⟨_, rfl⟩
    rw [← hgn] at hS9 ⊢
    clear hgn
    generalize (W11.drew).heap.size = bsh0 at hS9
    generalize wh1.heap.size = bsh2 at hS9
    repeat (rename_i hh; clear hh)
    revert hS9
    revert W12
    revert gZh
    revert bsh0
    revert bsh2
    revert Aht0
    revert cht0
    revert Eht0
    revert dht0
    revert Ah0
    revert ch0
    revert Eh0
    revert dh0
    exact rest.out
    rw [hX0, hF0] at hR
    have hS8 := ((hR.set 1 rfl 0 (.slice Ah0 X0.length ch0)).set 1 rfl 1 (.slice Eh0 F0.length dh0))
    have hS9 := hS8.pick [1, 0, 2, 3, 4, 5, 6, 7, 8, 9, 10, 11] (by decide) rfl
    simp only [List.filterMap_cons, List.filterMap_nil, List.getElem?_cons_zero, List.getElem?_cons_succ, List.set_cons_zero, List.set_cons_succ] at hS9
    clear hS8 hR HL C0 C1 C2 C3 C4 C5 hb hclhr ho0 hLh0 hb_h0 hclh0 ho_h0 hLh1 hb_h1 hclh1 q0 z0 q1 z1
    obtain ⟨W12, hWn⟩ : ∃ W, W = ((whr.setCell ⟨wh1.heap.size, 0, none⟩ (.slice Ah0 X0.length ch0)).setCell ⟨wh1.heap.size, 1, none⟩ (.slice Eh0 F0.length dh0)) := ⟨_, rfl⟩
    rw [← hWn] at hS9 ⊢
    clear hWn
    obtain ⟨gZh, hgn⟩ : ∃ g : Nat, g = wh1.heap.size := ⟨_, rfl⟩
    rw [← hgn] at hS9 ⊢
    clear hgn
    generalize (W11.drew).heap.size = bsh0 at hS9
    generalize (wh1.alloc (.cells #[.slice none 0 0, .slice none 0 0] 35)).heap.size = bsh2 at hS9
    repeat (rename_i hh; clear hh)
    revert hS9
    revert W12
    revert gZh
    revert bsh0
    revert bsh2
    revert Aht0
    revert cht0
    revert Eht0
    revert dht0
    revert Ah0
    revert ch0
    revert Eh0
    revert dh0
    exact rest.out
    rw [hX0, hF0] at hR
    have hS8 := ((hR.set 1 rfl 0 (.slice Ah0 X0.length ch0)).set 1 rfl 1 (.slice Eh0 F0.length dh0))
    have hS9 := hS8.pick [1, 0, 2, 3, 4, 5, 6, 7, 8, 9, 10, 11] (by decide) rfl
    simp only [List.filterMap_cons, List.filterMap_nil, List.getElem?_cons_zero, List.getElem?_cons_succ, List.set_cons_zero, List.set_cons_succ] at hS9
    clear hS8 hR HL C0 C1 C2 C3 C4 C5 hb hclhr ho0 hLh0 hb_h0 hclh0 ho_h0 hLh1 hb_h1 hclh1 q0 z0 q1 z1
    obtain ⟨W12, hWn⟩ : ∃ W, W = ((whr.setCell ⟨wh0.heap.size, 0, none⟩ (.slice Ah0 X0.length ch0)).setCell ⟨wh0.heap.size, 1, none⟩ (.slice Eh0 F0.length dh0)) := ⟨_, rfl⟩
    rw [← hWn] at hS9 ⊢
    clear hWn
    obtain ⟨gZh, hgn⟩ : ∃ g : Nat, g = wh0.heap.size := ⟨_, rfl⟩
    rw [← hgn] at hS9 ⊢
    clear hgn
    generalize (W11.drew).heap.size = bsh0 at hS9
    generalize wh1.heap.size = bsh2 at hS9
    repeat (rename_i hh; clear hh)
    revert hS9
    revert W12
    revert gZh
    revert bsh0
    revert bsh2
    revert Aht0
    revert cht0
    revert Eht0
    revert dht0
    revert Ah0
    revert ch0
    revert Eh0
    revert dh0
    exact rest.out
    rw [hX0, hF0] at hR
    have hS8 := ((hR.set 2 rfl 0 (.slice Ah0 X0.length ch0)).set 2 rfl 1 (.slice Eh0 F0.length dh0))
    have hS9 := hS8.pick [2, 0, 1, 3, 4, 5, 6, 7, 8, 9, 10, 11] (by decide) rfl
    simp only [List.filterMap_cons, List.filterMap_nil, List.getElem?_cons_zero, List.getElem?_cons_succ, List.set_cons_zero, List.set_cons_succ] at hS9
    clear hS8 hR HL C0 C1 C2 C3 C4 C5 hb hclhr ho0 hLh0 hb_h0 hclh0 ho_h0 hLh1 hb_h1 hclh1 q0 z0 q1 z1
    obtain ⟨W12, hWn⟩ : ∃ W, W = ((whr.setCell ⟨W11.heap.size, 0, none⟩ (.slice Ah0 X0.length ch0)).setCell ⟨W11.heap.size, 1, none⟩ (.slice Eh0 F0.length dh0)) := ⟨_, rfl⟩
    rw [← hWn] at hS9 ⊢
    clear hWn
    obtain ⟨gZh, hgn⟩ : ∃ g : Nat, g = W11.heap.size := ⟨_, rfl⟩
    rw [← hgn] at hS9 ⊢
    clear hgn
    generalize ((W11.alloc (.cells #[.slice none 0 0, .slice none 0 0] 35)).drew).heap.size = bsh0 at hS9
    generalize wh1.heap.size = bsh2 at hS9
    repeat (rename_i hh; clear hh)
    revert hS9
    revert W12
    revert gZh
    revert bsh0
    revert bsh2
    revert Aht0
    revert cht0
    revert Eht0
    revert dht0
    revert Ah0
    revert ch0
    revert Eh0
    revert dh0
    exact rest.out
  clear hS
  intro dh0 Eh0 ch0 Ah0 dht0 Eht0 cht0 Aht0 bsh2 bsh0 gZh W12 hS
  have q0 := hS.cell 0 0 rfl rfl
  have q1 := hS.cell 0 1 rfl rfl
  have q2 := hS.cell 7 0 rfl rfl
  have q3 := hS.cell 7 1 rfl rfl
  go_wp2_with fail
  refine (eqN_led hS 1 8 rfl rfl hlx0.out hlf0.out).mono ?_
  rintro e W13 ⟨rfl, hS1⟩; replace hS := hS1; clear hS1
  clear q0 q1 q2 q3
  have q0 := hS.cell 3 0 rfl rfl
  have q1 := hS.cell 3 1 rfl rfl
  go_wp2_with fail
  refine (heldN_led hS 4 _ rfl hlx0.out hlf0.out (by have := hlx0.out; have := hlf0.out; omega) (by have := hlx0.out; have := hlf0.out; omega)).mono ?_
  rintro e W14 ⟨rfl, hS1⟩; replace hS := hS1; clear hS1
  clear q0 q1
  go_wp2_with fail
  go_ret
  exact ⟨rfl, hS.bl⟩
end Go.Proofs.Ytjklphlgmlomjaa.fnExactAddFiber
/- A fiber that came in. Conditions: none. -/
namespace Go.Proofs.Ytjklphlgmlomjaa
open Go.ChangeShapes Go.WideShapes Go.ChangeAt Go.RowKit Go.Deep Go.Joins
section
variable {H : Type} {enc : TypeId × Value → H} {W : World} {spare : Nat → Bool} {held : Bool}
set_option maxRecDepth 100000 in
theorem open_fiber {base : Nat} {v : Value} {d : DataW H} {p : List MemPlace} (hv : Value.okWide Try.prog W .any base 61 v) (h : DataW.Trod enc Try.prog W 0 spare held 61 v d p) :
    ∃ f : Fib, v = .agg #[.int .i64 f.a, .int .i64 f.b, .int .i64 f.len, .int .i64 f.risk] ∧ True := by
  obtain ⟨v0, v1, v2, v3, y0, y1, y2, y3, k, rfl, _, _, h0, h1, h2, h3⟩ := open_agg4 Try.underlying61 (by kernel_rfl) cellsF hv h
  obtain ⟨a0, e0, _⟩ := el_int Try.underlying3 _ _ _ h0
  obtain ⟨a1, e1, _⟩ := el_int Try.underlying3 _ _ _ h1
  obtain ⟨a2, e2, _⟩ := el_int Try.underlying3 _ _ _ h2
  obtain ⟨a3, e3, _⟩ := el_int Try.underlying3 _ _ _ h3
  simp [elInt] at e0 e1 e2 e3
  exact ⟨⟨a0, a1, a2, a3⟩, by rw [e0, e1, e2, e3], trivial⟩
end
end Go.Proofs.Ytjklphlgmlomjaa
